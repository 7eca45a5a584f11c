/-
  Contracts of the functions of sort keys: laws' own copies, sizes and comparisons.
-/
import Derived.Test.YtldndapcbgaliaaProg
import Derived.Test.YtldndapcbgaliaaPln
namespace Go.Proofs.Ytldndapcbgaliaa
open Go.RowKit Go.Qo
set_option linter.unusedVariables false
set_option linter.unusedSimpArgs false

abbrev Key := Int × Bool
def keyC (k : Key) : List Value := [.int .i64 k.1, .bool k.2]

theorem Key.at_ {w : World} {B : Nat} {A : Option Addr} {xs : List Key} (h : Sl 2 keyC w B A xs) {i : Nat} (hi : i < xs.length) :
    ∃ b off, A = some ⟨b, off, none⟩ ∧ b < B ∧ w.cell? ⟨b, off + i * 2, none⟩ = some (.int .i64 xs[i].1) ∧ w.cell? ⟨b, off + i * 2 + 1, none⟩ = some (.bool xs[i].2) :=
  Sl.at2 (f := fun k : Key => .int .i64 k.1) (g := fun k : Key => .bool k.2) h hi

set_option maxHeartbeats 400000 in
theorem szSortKeyS_ok (A : Option Addr) (n c : Nat) (left : Int) (w : World) (hn : n ≤ maxLen) (h0 : 0 ≤ left) (h1 : left ≤ 1048576) :
    Calls Try.prog 37 #[.slice A n c, .int .i64 left] w fun e w' => e = .returned (.int .i64 (if left - n < 0 then -1 else left - n)) ∧ w = w' := by
  unfold maxLen at hn
  by_cases h : left - n < 0
  · rw [if_pos h]
    go_enter Try.func37, Try.ntmps37
    go_wp2
    go_ret
    exact ⟨rfl, rfl⟩
  · rw [if_neg h]
    go_enter Try.func37, Try.ntmps37
    go_wp2
    go_ret
    exact ⟨rfl, rfl⟩

set_option maxHeartbeats 400000 in
theorem toSortKey_ok (a : Int) (b : Bool) (w : World) :
    Calls Try.prog 88 #[.agg #[.int .i64 a, .bool b]] w fun e w' => e = .returned (.agg #[.int .i64 a, .bool b]) ∧ Below w.heap.size w w' := by
  go_enter Try.func88, Try.ntmps88
  go_wp2
  exact bodyPost_ret (v := .agg #[.int .i64 a, .bool b]) (by simp [results, Try.results88, go_sem]) rfl ⟨rfl, (((Below.refl _ _).alloc (Nat.le_refl _) _).alloc (by simp) _).alloc (by simp; omega) _⟩

set_option maxHeartbeats 400000 in
theorem eqSortKey_ok (a a' : Int) (b b' : Bool) (w : World) :
    Calls Try.prog 94 #[.agg #[.int .i64 a, .bool b], .agg #[.int .i64 a', .bool b']] w fun e w' => e = .returned (.bool (decide ((a, b) = (a', b')))) ∧ Below w.heap.size w w' := by
  go_enter Try.func94, Try.ntmps94
  go_wp2
  all_goals go_ret
  all_goals refine ⟨ret_bool ?_, ((Below.refl _ _).alloc (Nat.le_refl _) _).alloc (by simp) _⟩
  all_goals simp_all

set_option maxHeartbeats 400000 in
theorem eqSortKeyS_ok (A A' : Option Addr) (c c' : Nat) (xs ys : List Key) (w : World) (hn : xs.length ≤ maxLen) (hn' : ys.length ≤ maxLen) (h : Sl 2 keyC w w.heap.size A xs) (h' : Sl 2 keyC w w.heap.size A' ys) :
    Calls Try.prog 42 #[.slice A xs.length c, .slice A' ys.length c'] w fun e w' => e = .returned (.bool (decide (xs = ys))) ∧ Below w.heap.size w w' := by
  unfold maxLen at hn hn'
  by_cases hl : xs.length = ys.length
  · have hl' := Lib.hid hl
    have hle : xs.length ≤ ys.length := by omega
    have hne : ((xs.length : Int) != (ys.length : Int)) = false := by simp [hl]
    clear hl
    go_enter Try.func42, Try.ntmps42
    go_wp2
    go_loopg [5] (xs.length) (fun g i wr => ∃ k : Nat, k ≤ xs.length ∧ g = xs.length - k ∧ i = .int .i64 k ∧ Below w.heap.size w wr ∧ xs.take k = ys.take k)
    case atStart => exact ⟨0, by omega, by omega, rfl, Below.refl _ _, rfl⟩
    case round =>
      obtain ⟨k, hk, rfl, rfl, hb, hp⟩ := hrel
      have Hp := Lib.hid hp
      clear hp
      by_cases hlt : k < xs.length
      · obtain ⟨b, off, rfl, hB, c1, c2⟩ := Key.at_ (h.below hb) hlt
        obtain ⟨b', off', rfl, hB', c1', c2'⟩ := Key.at_ (h'.below hb) (i := k) (by omega)
        have hx := Lib.hid (List.getElem?_eq_getElem hlt)
        have hy := Lib.hid (List.getElem?_eq_getElem (show k < ys.length by omega))
        generalize xs[k] = x at *
        generalize ys[k] = y at *
        obtain ⟨x1, x2⟩ := x
        obtain ⟨y1, y2⟩ := y
        dsimp only at *
        have hsz := hb.size
        have d1 := fun z : Aft wr.heap.size wr => z.cell (by omega) c1
        have d2 := fun z : Aft wr.heap.size wr => z.cell (by omega) c2
        have d3 := fun z : Aft wr.heap.size wr => z.cell (by omega) c1'
        have d4 := fun z : Aft wr.heap.size wr => z.cell (by omega) c2'
        have hlt' : k < ys.length := by omega
        go_wp2
        refine wp_region_aft wr.heap.size (by kernel_rfl) (by kernel_rfl) ?_
        repeat (go_big_quiet_step ((go_at_call 94; exact Calls.aft (Nat.le_refl _) (eqSortKey_ok _ _ _ _ _))))
        refine wpQuiet_nil ?_
        intro _ hw'
        obtain ⟨⟨w1, hb1⟩, rfl⟩ := hw'
        go_wp2
        · go_ret
          refine ⟨ret_bool (decide_eq_false (ne_of_at hx.out hy.out ?_)).symm, bch hb hb1⟩
          rintro ⟨rfl, rfl⟩
          simp_all
        · go_roundg (xs.length - (k + 1))
          case measure => omega
          case rel =>
            have hd : x1 = y1 ∧ x2 = y2 := by simp_all
            obtain ⟨rfl, rfl⟩ := hd
            exact ⟨k + 1, by omega, rfl, by go_num, bch hb hb1, take_eq_succ Hp.out hx.out hy.out⟩
      · go_wp2
        go_ret
        exact ⟨ret_bool (decide_eq_true (eq_of_take Hp.out (by omega) (by have := hl'.out; omega))).symm, hb⟩
  · go_enter Try.func42, Try.ntmps42
    go_wp2
    go_ret
    exact ⟨ret_bool (decide_eq_false fun he => hl (by rw [he])).symm, Below.refl _ _⟩

theorem keyC_length (k : Key) : (keyC k).length = 2 := rfl
theorem zeroKey : (Try.prog.info? 109).map (fun i => (i.zero, i.size, i.bytes)) = some (some (.agg #[.int .i64 0, .bool false]), 2, 16) := by kernel_rfl

set_option maxHeartbeats 400000 in
theorem toSortKeyS_ok (A : Option Addr) (c : Nat) (xs : List Key) (w : World) (hn : xs.length ≤ 1048576) (h : Sl 2 keyC w w.heap.size A xs) :
    Calls Try.prog 39 #[.slice A xs.length c] w fun e w' => e = .returned (.slice (some ⟨w.heap.size, 0, none⟩) xs.length xs.length) ∧ Below w.heap.size w w' ∧ Row w' w.heap.size 109 (xs.flatMap keyC) := by
  have hmk := run_make_rowN (P := Try.prog) 26 109 _ _ _ Try.underlying26 zeroKey .i64 .i64 xs.length (by omega) (by omega)
  go_enter Try.func39, Try.ntmps39
  go_wp2
  go_loopg [4] (xs.length) (fun g i wr => ∃ k : Nat, k ≤ xs.length ∧ g = xs.length - k ∧ i = .int .i64 k ∧ Below w.heap.size w wr ∧ Row wr w.heap.size 109 (filled keyC [.int .i64 0, .bool false] xs k))
  case atStart =>
    exact ⟨0, by omega, by omega, rfl, balloc (Below.refl _ _) _, (Row.new _ _ _).of ((made_zeros [.int .i64 0, .bool false] xs.length).trans (filled_zero _ _ _).symm)⟩
  case round =>
    obtain ⟨k, hk, rfl, rfl, hb, hrow⟩ := hrel
    by_cases hlt : k < xs.length
    · obtain ⟨b, off, rfl, hB, c1, c2⟩ := Key.at_ (h.below hb) hlt
      have hx := Lib.hid (List.getElem?_eq_getElem hlt)
      generalize xs[k] = x at *
      obtain ⟨x1, x2⟩ := x
      dsimp only at *
      have Hrow := Lib.hid hrow
      clear hrow
      have hlen := filled_length 2 keyC keyC_length [.int .i64 0, .bool false] rfl xs hk
      obtain ⟨v1, hv1⟩ : ∃ v, (filled keyC [.int .i64 0, .bool false] xs k)[k * 2]? = some v := ⟨_, List.getElem?_eq_getElem (by omega)⟩
      obtain ⟨v2, hv2⟩ : ∃ v, (filled keyC [.int .i64 0, .bool false] xs k)[k * 2 + 1]? = some v := ⟨_, List.getElem?_eq_getElem (by omega)⟩
      have Hv1 := Lib.hid hv1
      have Hv2 := Lib.hid hv2
      clear hlen hv1 hv2
      go_wp2_with (go_at_call 88; refine (toSortKey_ok _ _ _).mono ?_; rintro e w1 ⟨rfl, hb1⟩; have hrow1 := Hrow.out.on hb1; have e1 := (hrow1.cell (k * 2)).trans Hv1.out; have e2 := (hrow1.cell (k * 2 + 1)).trans Hv2.out; have e3 := hrow1.frozen (k * 2); have e4 := hrow1.frozen (k * 2 + 1); have Hrow1 := Lib.hid hrow1; clear hrow1)
      go_roundg (xs.length - (k + 1))
      case measure => omega
      case rel =>
        exact ⟨k + 1, by omega, rfl, by go_num, ((bch hb hb1).setCell (p := ⟨_, _, none⟩) (Nat.le_refl _) _).setCell (p := ⟨_, _, none⟩) (Nat.le_refl _) _,
          ((Hrow1.out.set _ _).set _ _).of (filled_next 2 keyC keyC_length [.int .i64 0, .bool false] rfl xs hx.out)⟩
    · go_wp2
      go_ret
      exact ⟨rfl, hb, hrow.of (filled_all _ _ _ (by omega))⟩

theorem neqKey {x y : Key} (r : Bool) (hr : decide (x ≠ y) = r) (w : World) : (binOp .neq 109 (.agg #[.int .i64 x.1, .bool x.2]) (.agg #[.int .i64 y.1, .bool y.2])).run Try.prog w = .ok (.bool r) w := by
  have hs : Try.prog.stoodInHeld 109 = false := by kernel_rfl
  subst hr
  obtain ⟨a, b⟩ := x
  obtain ⟨c, d⟩ := y
  simp [go_sem, hs]
  by_cases h1 : a = c <;> by_cases h2 : b = d <;> simp [h1, h2]
theorem eqgKey (op : BinOp) (x y : Operand) (xs ys : Array Value) (w : World) : (eqGuard op 109 x y (.agg xs) (.agg ys)).run Try.prog w = .ok () w :=
  run_eqGuard_agg w op _ x y xs ys (by kernel_rfl)

end Go.Proofs.Ytldndapcbgaliaa
