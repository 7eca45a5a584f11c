/-
  Contract of slices.Concat of two rows.
-/
import Derived.Test.YtldndapcbgaliaaProg
import Derived.Test.YtldndapcbgaliaaUni
namespace Go.Proofs.Ytldndapcbgaliaa
open Go.RowKit Go.Qo
set_option linter.unusedVariables false
set_option linter.unusedSimpArgs false
attribute [local go_sem] Oper.semAt_some

set_option maxRecDepth 20000 in
set_option maxHeartbeats 1000000 in
theorem growV_ok (n : Nat) (m : Int) (hmn : m = n) (w : World) (hn : n ≤ 1048576) :
    Calls Try.prog 132 #[.slice none 0 0, .int .i64 m] w fun e w' => ∃ A c, e = .returned (.slice A 0 c) ∧ Ow w.heap.size 40 2 valC w' (.slice A 0 c) [] ∧ Below w.heap.size w w' := by
  subst hmn
  have h2 : IntKind.i64.wrap (n : Int) = (n : Int) := IntWalk.i64_in _ (by omega)
  rcases Nat.eq_zero_or_pos n with h0 | h0
  · subst h0
    go_enter Try.func132, Try.ntmps132
    go_wp2
    go_ret
    exact ⟨none, 0, rfl, Ow.nil, Below.refl _ _⟩
  · obtain ⟨i, hi, hz, hsi, hby⟩ := info_parts zeroVal
    have happ := Go.Lib.run_append_nil_zeros (P := Try.prog) w 41 3 41 40 i (.agg #[.bool false, .int .i64 0]) .i64 .i64 Try.underlying41 Try.underlying3 hi hz n h0 (by rw [hsi]; decide) (by omega) (by rw [hby]; omega)
    have h3 : (0 : Int) < (n : Int) := by omega
    have h4 := grownCap_ge w n 0 40
    have h5 := grownCap_le_maxLen w n 0 40 (by unfold maxLen; omega)
    generalize hcap : grownCap w n 0 40 = cap at *
    have hsz : (Builtin.zeroCells (Value.agg #[.bool false, .int .i64 0]).cells n ++ Builtin.zeroCells (Value.agg #[.bool false, .int .i64 0]).cells (cap - n)).size = cap * 2 := by
      simp [Builtin.zeroCells, Value.cells]
      omega
    generalize hcs : (Builtin.zeroCells (Value.agg #[.bool false, .int .i64 0]).cells n ++ Builtin.zeroCells (Value.agg #[.bool false, .int .i64 0]).cells (cap - n)) = cs at *
    have HC := Lib.hid (And.intro h4 (And.intro h5 hsz))
    clear hsz hcap hcs hi hz hsi hby
    have HA := Lib.hid happ
    clear happ
    go_enter Try.func132, Try.ntmps132
    go_wp2_with (at_builtin; refine wpList_runs rfl (.tmp 20) (.tmp 21) 41 3 rfl _ _ rfl rfl HA.out ?_)
    go_ret
    refine ⟨_, _, rfl, ⟨by simp, .inr ⟨w.heap.size, cap, cs, rfl, Nat.le_refl _, ?_, Nat.zero_le _, HC.out.2.1, by rw [HC.out.2.2], by simp⟩⟩, ?_⟩
    · exact (Row.new w.drew 40 cs).trans (by simp)
    · exact balloc (Below.refl _ _).drew _

set_option maxRecDepth 20000 in
set_option maxHeartbeats 2000000 in
theorem concatV_ok (b off k0 : Nat) (A1 A2 : Option Addr) (n1 n2 c1 c2 : Nat) (xs ys : List Val) (w : World) (h1 : n1 = xs.length) (h2 : n2 = ys.length) (hn1 : n1 ≤ 4096) (hn2 : n2 ≤ 4096) (hb : b < w.heap.size) (a0 : w.cell? ⟨b, off, none⟩ = some (.slice A1 n1 c1)) (a1 : w.cell? ⟨b, off + 1, none⟩ = some (.slice A2 n2 c2))
    (hx : Sl 2 valC w w.heap.size A1 xs) (hy : Sl 2 valC w w.heap.size A2 ys) :
    Calls Try.prog 115 #[.slice (some ⟨b, off, none⟩) 2 k0] w fun e w' => ∃ A c, e = .returned (.slice A (n1 + n2) c) ∧ Ow w.heap.size 40 2 valC w' (.slice A (n1 + n2) c) (xs ++ ys) ∧ Below w.heap.size w w' := by
  have HG := Lib.hid (growV_ok (n1 + n2) ((n1 : Int) + (n2 : Int)) (by omega) w (by omega))
  have HX := Lib.hid (And.intro hx hy)
  have HN := Lib.hid (And.intro h1 h2)
  clear hx hy h1 h2
  go_enter Try.func115, Try.ntmps115
  go_wp2
  go_loopg [3, 11] 2 (fun g s iv wr => w = wr ∧ ((g = 2 ∧ s = .int .i64 0 ∧ iv = .int .i64 0) ∨ (g = 1 ∧ s = .int .i64 (n1 : Nat) ∧ iv = .int .i64 1) ∨ (g = 0 ∧ s = .int .i64 ((n1 : Int) + (n2 : Int)) ∧ iv = .int .i64 2)))
  case atStart => exact ⟨rfl, .inl ⟨rfl, rfl, rfl⟩⟩
  case round =>
    obtain ⟨hww, (⟨rfl, rfl, rfl⟩ | ⟨rfl, rfl, rfl⟩ | ⟨rfl, rfl, rfl⟩)⟩ := hrel
    all_goals
      subst hww
    · go_wp2
      go_roundg 1
      case measure => omega
      case rel => exact ⟨rfl, .inr (.inl ⟨rfl, by go_num, by go_num⟩)⟩
    · have e2 : ¬ ((n1 : Int) + (n2 : Int) < 0) := by omega
      go_wp2
      go_roundg 0
      case measure => omega
      case rel => exact ⟨rfl, .inr (.inr ⟨rfl, by go_num, by go_num⟩)⟩
    · go_wp2_with fail
      refine HG.out.mono ?_
      rintro e w1 ⟨A3, c3, rfl, how, hb1⟩
      have H1 := Lib.hid (And.intro how hb1)
      have d0 : w1.cell? ⟨b, off, none⟩ = some (.slice A1 n1 c1) := (hb1.cell (p := ⟨b, _, none⟩) hb).trans a0
      have d1 : w1.cell? ⟨b, off + 1, none⟩ = some (.slice A2 n2 c2) := (hb1.cell (p := ⟨b, _, none⟩) hb).trans a1
      clear how hb1 a0 a1
      go_wp2
      go_loopg [6, 27] 2 (fun g v iv wr => Below wr.heap.size wr wr ∧ (w.heap.size ≤ wr.heap.size ∧ Below w.heap.size w wr) ∧ ((g = 2 ∧ iv = .int .i64 0 ∧ Ow w.heap.size 40 2 valC wr v []) ∨ (g = 1 ∧ iv = .int .i64 1 ∧ Ow w.heap.size 40 2 valC wr v xs) ∨ (g = 0 ∧ iv = .int .i64 2 ∧ Ow w.heap.size 40 2 valC wr v (xs ++ ys))))
      case atStart => exact ⟨Below.refl _ _, ⟨H1.out.2.size, H1.out.2⟩, .inl ⟨rfl, rfl, H1.out.1⟩⟩
      case round =>
        obtain ⟨_, ⟨hz, hbw⟩, (⟨rfl, rfl, how⟩ | ⟨rfl, rfl, how⟩ | ⟨rfl, rfl, how⟩)⟩ := hrel
        all_goals
          have f0 : wr.cell? ⟨b, off, none⟩ = some (.slice A1 n1 c1) := (hbw.cell (p := ⟨b, _, none⟩) hb).trans (by have := (H1.out.2.cell (p := ⟨b, off, none⟩) hb); rw [← this]; exact d0)
          have f1 : wr.cell? ⟨b, off + 1, none⟩ = some (.slice A2 n2 c2) := (hbw.cell (p := ⟨b, _, none⟩) hb).trans (by have := (H1.out.2.cell (p := ⟨b, off + 1, none⟩) hb); rw [← this]; exact d1)
          have HW := Lib.hid (And.intro how hbw)
          have SX := Lib.hid (HX.out.1.on hbw)
          have SY := Lib.hid (HX.out.2.on hbw)
        · obtain ⟨A4, c4, rfl, _, _, _⟩ := how.shape valC_length
          clear how hbw
          go_wp2_with (at_builtin; refine wpList_app rfl (.tmp 31) (.tmp 32) 41 rfl w.heap.size 40 _ 2 16 valC Try.underlying41 zeroVal rfl (by decide) (by decide) valC_length valC_one _ ([] : List Val) rfl HW.out.1 A1 n1 c1 xs rfl HN.out.1 SX.out (by have := HN.out; simp; omega) hz ?_; intro v4 w4 how4 hgr4; have H4 := Lib.hid (And.intro how4 hgr4); clear how4 hgr4)
          go_roundg 1
          case measure => omega
          case rel =>
            have hb4 : Below w.heap.size w w4 := HW.out.2.grown H4.out.2 hz fun q hq => (HW.out.1.ty q hq).1
            exact ⟨Below.refl _ _, ⟨hb4.size, hb4⟩, .inr (.inl ⟨rfl, by go_num, by simpa using H4.out.1⟩)⟩
        · obtain ⟨A4, c4, rfl, _, _, _⟩ := how.shape valC_length
          clear how hbw
          go_wp2_with (at_builtin; refine wpList_app rfl (.tmp 31) (.tmp 32) 41 rfl w.heap.size 40 _ 2 16 valC Try.underlying41 zeroVal rfl (by decide) (by decide) valC_length valC_one _ xs rfl HW.out.1 A2 n2 c2 ys rfl HN.out.2 SY.out (by have := HN.out; omega) hz ?_; intro v4 w4 how4 hgr4; have H4 := Lib.hid (And.intro how4 hgr4); clear how4 hgr4)
          go_roundg 0
          case measure => omega
          case rel =>
            have hb4 : Below w.heap.size w w4 := HW.out.2.grown H4.out.2 hz fun q hq => (HW.out.1.ty q hq).1
            exact ⟨Below.refl _ _, ⟨hb4.size, hb4⟩, .inr (.inr ⟨rfl, by go_num, H4.out.1⟩)⟩
        · obtain ⟨A4, c4, rfl, _, _, _⟩ := how.shape valC_length
          have hl : (xs ++ ys).length = n1 + n2 := by rw [List.length_append, HN.out.1, HN.out.2]
          have HL := Lib.hid hl
          clear how hbw hl
          go_wp2
          go_ret
          exact ⟨A4, c4, by have h1 := HN.out.1; have h2 := HN.out.2; simp [h1, h2], by have := HW.out.1; rw [HL.out] at this; exact this, HW.out.2⟩
end Go.Proofs.Ytldndapcbgaliaa
