/-
  Contracts of the functions of rows and lists of rows.
-/
import Derived.Test.YtldndapcbgaliaaProg
import Derived.Test.YtldndapcbgaliaaVal
namespace Go.Proofs.Ytldndapcbgaliaa
open Go.RowKit Go.Qo
set_option linter.unusedVariables false
set_option linter.unusedSimpArgs false

set_option maxHeartbeats 400000 in
theorem specValidRow_ok (A : Option Addr) (c : Nat) (xs : List Val) (w : World) (hn : xs.length ≤ maxLen) (h : Sl 2 valC w w.heap.size A xs) (r : Bool) (hr : rowValid xs = r) :
    Calls Try.prog 100 #[.slice A xs.length c] w fun e w' => e = .returned (.bool r) ∧ Below w.heap.size w w' := by
  rw [rowValid_iff] at hr
  have Hr := Lib.hid hr
  clear hr
  unfold maxLen at hn
  go_enter Try.func100, Try.ntmps100
  go_wp2
  go_loopg [3] (xs.length) (fun g i wr => ∃ k : Nat, k ≤ xs.length ∧ g = xs.length - k ∧ i = .int .i64 k ∧ Below w.heap.size w wr ∧ (xs.take k).all vValid = true)
  case atStart => exact ⟨0, by omega, by omega, rfl, Below.refl _ _, rfl⟩
  case round =>
    obtain ⟨k, hk, rfl, rfl, hb, hp⟩ := hrel
    have Hp := Lib.hid hp
    clear hp
    by_cases hlt : k < xs.length
    · obtain ⟨b, off, rfl, hB, c1, c2⟩ := Val.at_ (h.below hb) hlt
      have hx := Lib.hid (List.getElem?_eq_getElem hlt)
      generalize xs[k] = x at *
      obtain ⟨q, hq⟩ : ∃ q, vValid x = q := ⟨_, rfl⟩
      have Hk := Lib.hid (fun w => specValidValue_ok x w q hq)
      have Hq := Lib.hid hq
      clear hq
      cases q
      · go_wp2_with (go_at_call 122; refine (Hk.out _).mono ?_; rintro e w1 ⟨rfl, hb1⟩)
        go_ret
        exact ⟨ret_bool (by rw [← Hr.out, not_all hx.out Hq.out, Bool.and_false]), bch hb (by assumption)⟩
      · go_wp2_with (go_at_call 122; refine (Hk.out _).mono ?_; rintro e w1 ⟨rfl, hb1⟩)
        go_roundg (xs.length - (k + 1))
        case measure => omega
        case rel => exact ⟨k + 1, by omega, rfl, by go_num, bch hb (by assumption), all_take_succ Hp.out hx.out Hq.out⟩
    · obtain ⟨q, hq⟩ : ∃ q, (decide ((1 : Int) ≤ (xs.length : Int)) && decide ((xs.length : Int) ≤ 6)) = q := ⟨_, rfl⟩
      have Hk := Lib.hid (fun w => inRange_ok xs.length 1 6 w q hq)
      have Hq := Lib.hid hq
      clear hq
      go_wp2_with (go_at_call 87; refine (Hk.out _).mono ?_; rintro e w' ⟨rfl, rfl⟩)
      go_ret
      exact ⟨ret_bool (by rw [← Hr.out, Hq.out, all_of_take Hp.out (by omega), Bool.and_true]), hb⟩

set_option maxHeartbeats 400000 in
theorem implValidRow_ok (A : Option Addr) (c : Nat) (xs : List Val) (w : World) (hn : xs.length ≤ maxLen) (h : Sl 2 valC w w.heap.size A xs) (r : Bool) (hr : rowValid xs = r) :
    Calls Try.prog 55 #[.slice A xs.length c] w fun e w' => e = .returned (.bool r) ∧ Below w.heap.size w w' := by
  rw [rowValid_iff] at hr
  have Hr := Lib.hid hr
  clear hr
  unfold maxLen at hn
  obtain ⟨q, hq⟩ : ∃ q, (decide ((1 : Int) ≤ (xs.length : Int)) && decide ((xs.length : Int) ≤ 6)) = q := ⟨_, rfl⟩
  have HW := Lib.hid (fun w => validWidth_ok xs.length w q hq)
  have HQ := Lib.hid hq
  clear hq
  cases q
  · go_enter Try.func55, Try.ntmps55
    go_wp2_with (go_at_call 54; refine (HW.out _).mono ?_; rintro e w' ⟨rfl, rfl⟩)
    go_ret
    exact ⟨ret_bool (by rw [← Hr.out, HQ.out, Bool.false_and]), Below.refl _ _⟩
  · go_enter Try.func55, Try.ntmps55
    go_wp2_with (go_at_call 54; refine (HW.out _).mono ?_; rintro e w' ⟨rfl, rfl⟩)
    go_loopg [11] (xs.length) (fun g i wr => ∃ k : Nat, k ≤ xs.length ∧ g = xs.length - k ∧ i = .int .i64 k ∧ Below w.heap.size w wr ∧ (xs.take k).all vValid = true)
    case atStart => exact ⟨0, by omega, by omega, rfl, Below.refl _ _, rfl⟩
    case round =>
      obtain ⟨k, hk, rfl, rfl, hb, hp⟩ := hrel
      have Hp := Lib.hid hp
      clear hp
      by_cases hlt : k < xs.length
      · obtain ⟨b, off, rfl, hB, c1, c2⟩ := Val.at_ (h.below hb) hlt
        have hx := Lib.hid (List.getElem?_eq_getElem hlt)
        generalize xs[k] = x at *
        obtain ⟨q, hq⟩ : ∃ q, vValid x = q := ⟨_, rfl⟩
        have Hk := Lib.hid (fun w => implValid_ok x w q hq)
        have Hq := Lib.hid hq
        clear hq
        cases q
        · go_wp2_with (go_at_call 103; refine (Hk.out _).mono ?_; rintro e w1 ⟨rfl, hb1⟩)
          go_ret
          exact ⟨ret_bool (by rw [← Hr.out, not_all hx.out Hq.out, Bool.and_false]), bch (balloc hb _) (by assumption)⟩
        · go_wp2_with (go_at_call 103; refine (Hk.out _).mono ?_; rintro e w1 ⟨rfl, hb1⟩)
          go_roundg (xs.length - (k + 1))
          case measure => omega
          case rel => exact ⟨k + 1, by omega, rfl, by go_num, bch (balloc hb _) (by assumption), all_take_succ Hp.out hx.out Hq.out⟩
      · go_wp2
        go_ret
        exact ⟨ret_bool (by rw [← Hr.out, HQ.out, all_of_take Hp.out (by omega), Bool.and_true]), hb⟩

/-! ### Lists of rows -/
abbrev Rws (w : World) (B : Nat) (A : Option Addr) (rows : List Row1) : Prop := Sls 2 valC w B A rows

set_option maxHeartbeats 400000 in
theorem eqValueSS_ok (A A' : Option Addr) (c c' : Nat) (xs ys : List Row1) (w : World) (hn : xs.length ≤ maxLen) (hn' : ys.length ≤ maxLen) (h : Rws w w.heap.size A xs) (h' : Rws w w.heap.size A' ys) :
    Calls Try.prog 41 #[.slice A xs.length c, .slice A' ys.length c'] w fun e w' => e = .returned (.bool (decide (xs = ys))) ∧ Below w.heap.size w w' := by
  unfold maxLen at hn hn'
  by_cases hl : xs.length = ys.length
  · have hl' := Lib.hid hl
    have hle : xs.length ≤ ys.length := by omega
    have hne : ((xs.length : Int) != (ys.length : Int)) = false := by simp [hl]
    clear hl
    go_enter Try.func41, Try.ntmps41
    go_wp2
    go_loopg [5] (xs.length) (fun g i wr => ∃ k : Nat, k ≤ xs.length ∧ g = xs.length - k ∧ i = .int .i64 k ∧ Below w.heap.size w wr ∧ xs.take k = ys.take k)
    case atStart => exact ⟨0, by omega, by omega, rfl, Below.refl _ _, rfl⟩
    case round =>
      obtain ⟨k, hk, rfl, rfl, hb, hp⟩ := hrel
      have Hp := Lib.hid hp
      clear hp
      by_cases hlt : k < xs.length
      · obtain ⟨b, off, A1, C1, rfl, hB, c1, hc1, hm1, s1⟩ := (h.on hb).at_ hlt
        obtain ⟨b', off', A2, C2, rfl, hB', c2, hc2, hm2, s2⟩ := (h'.on hb).at_ (i := k) (by omega)
        have hx := Lib.hid (List.getElem?_eq_getElem hlt)
        have hy := Lib.hid (List.getElem?_eq_getElem (show k < ys.length by omega))
        generalize xs[k] = x at *
        generalize ys[k] = y at *
        have d1 := fun z : Aft wr.heap.size wr => z.cell (by omega) c1
        have d2 := fun z : Aft wr.heap.size wr => z.cell (by omega) c2
        have hlt' : k < ys.length := by omega
        obtain ⟨r, hr⟩ : ∃ r, decide (x = y) = r := ⟨_, rfl⟩
        have key := fun z : Aft wr.heap.size wr => eqValueS_ok A1 A2 C1 C2 x y z.v (by omega) (by omega) (s1.on z.h) (s2.on z.h)
        rw [hr] at key
        have Hk := Lib.hid key
        have Hr := Lib.hid hr
        clear key hr s1 s2 hc1 hm1 hc2 hm2
        go_wp2
        refine wp_region_aft wr.heap.size (by kernel_rfl) (by kernel_rfl) ?_
        repeat (go_big_quiet_step ((go_at_call 93; exact Calls.aft (Nat.le_refl _) (Hk.out _))))
        refine wpQuiet_nil ?_
        intro _ hw'
        obtain ⟨⟨w1, hb1⟩, rfl⟩ := hw'
        cases r
        · go_wp2
          go_ret
          exact ⟨ret_bool (decide_eq_false (ne_of_at hx.out hy.out (of_decide_eq_false Hr.out))).symm, bch hb hb1⟩
        · go_wp2
          go_roundg (xs.length - (k + 1))
          case measure => omega
          case rel => exact ⟨k + 1, by omega, rfl, by go_num, bch hb hb1, take_eq_succ Hp.out hx.out (of_decide_eq_true Hr.out ▸ hy.out)⟩
      · go_wp2
        go_ret
        exact ⟨ret_bool (decide_eq_true (eq_of_take Hp.out (by omega) (by have := hl'.out; omega))).symm, hb⟩
  · go_enter Try.func41, Try.ntmps41
    go_wp2
    go_ret
    exact ⟨ret_bool (decide_eq_false fun he => hl (by rw [he])).symm, Below.refl _ _⟩

set_option maxHeartbeats 400000 in
theorem szValueSS_ok (A : Option Addr) (c : Nat) (rows : List Row1) (left : Int) (w : World) (hn : rows.length ≤ maxLen) (h0 : 0 ≤ left) (h1 : left ≤ 1048576) (h : Rws w w.heap.size A rows) (r : Int) (hr : szR left rows = r) :
    Calls Try.prog 82 #[.slice A rows.length c, .int .i64 left] w fun e w' => e = .returned (.int .i64 r) ∧ w = w' := by
  unfold maxLen at hn
  have Hr := Lib.hid hr
  clear hr
  by_cases hs : left - rows.length < 0
  · go_enter Try.func82, Try.ntmps82
    go_wp2
    go_ret
    exact ⟨ret_int (by rw [← Hr.out, szR, if_pos hs]), rfl⟩
  · have e : szR left rows = szL (left - rows.length) (rows.drop 0) := by rw [szR, if_neg hs]; rfl
    have He := Lib.hid e
    clear e
    go_enter Try.func82, Try.ntmps82
    go_wp2
    go_loop [1, 5] (fun l i => ∃ (k : Nat) (m : Int), k ≤ rows.length ∧ i = .int .i64 k ∧ l = .int .i64 m ∧ 0 ≤ m ∧ m ≤ 1048576 ∧ szL (left - rows.length) (rows.drop 0) = szL m (rows.drop k)) (fun _ i => rows.length - (intOf i).toNat)
    case atStart => exact ⟨0, _, by omega, rfl, rfl, by omega, by omega, rfl⟩
    case round =>
      obtain ⟨k, m, hk, rfl, rfl, hm0, hm1, hp⟩ := hrel
      have Hp := Lib.hid hp
      clear hp
      by_cases hlt : k < rows.length
      · obtain ⟨b, off, A1, C1, rfl, hB, c1, hc1, hm2, s1⟩ := h.at_ hlt
        have hx := Lib.hid (List.getElem?_eq_getElem hlt)
        generalize rows[k] = x at *
        have hst := Lib.hid (szL_step (l := m) hx.out)
        by_cases hn2 : m - x.length < 0
        · have Hk := Lib.hid (szValueS_ok A1 x.length C1 m w (by omega) hm0 hm1 (-1) (if_pos hn2))
          have Hn2 := Lib.hid hn2
          clear s1 hc1 hm2 hn2
          go_wp2_with (go_at_call 116; refine Hk.out.mono ?_; rintro e w' ⟨rfl, rfl⟩)
          go_ret
          exact ⟨ret_int (by rw [← Hr.out, He.out, Hp.out, hst.out, if_pos Hn2.out]), rfl⟩
        · obtain ⟨m', hm'⟩ : ∃ m', m - x.length = m' := ⟨_, rfl⟩
          have Hk := Lib.hid (szValueS_ok A1 x.length C1 m w (by omega) hm0 hm1 m' (by rw [if_neg hn2, hm']))
          have hm0' : 0 ≤ m' := by omega
          have hm1' : m' ≤ 1048576 := by omega
          have e2 : szL m (rows.drop k) = szL m' (rows.drop (k + 1)) := by rw [hst.out, if_neg hn2, hm']
          have E2 := Lib.hid e2
          clear s1 hc1 hm2 hn2 hm' e2
          go_wp2_with (go_at_call 116; refine Hk.out.mono ?_; rintro e w' ⟨rfl, rfl⟩)
          go_round
          case rel => exact ⟨k + 1, m', by omega, by go_num, rfl, hm0', hm1', by rw [Hp.out, E2.out]⟩
          case measure => simp [intOf]; omega
      · go_wp2
        go_ret
        exact ⟨ret_int (by rw [← Hr.out, He.out, Hp.out, List.drop_eq_nil_of_le (by omega)]; rfl), rfl⟩

theorem zeroRow : (Try.prog.info? 41).map (fun i => (i.zero, i.size, i.bytes)) = some (some (.slice none 0 0), 1, 24) := by kernel_rfl

/-- Behind k rounds of a copy of a list of rows. -/
structure CopyK (w : World) (B0 : Nat) (bs : List Nat) (rows : List Row1) (k : Nat) : Prop where
  len : bs.length = k
  outer : Row w B0 41 (rowsC bs (rows.take k) ++ zeros [.slice none 0 0] (rows.length - k))
  inner : ∀ (i c : Nat) (r : Row1), bs[i]? = some c → rows[i]? = some r → Row w c 40 (r.flatMap valC)
  nodup : bs.Nodup
  low : ∀ c ∈ bs, B0 < c ∧ c < w.heap.size

theorem CopyK.next {w w1 : World} {B0 : Nat} {bs : List Nat} {rows : List Row1} {k : Nat} {r : Row1} (h : CopyK w B0 bs rows k) (hB : B0 < w.heap.size) (hr : rows[k]? = some r) (hb : Below w.heap.size w w1) (hrow : Row w1 w.heap.size 40 (r.flatMap valC)) :
    CopyK (w1.setCell ⟨B0, k, none⟩ (.slice (some ⟨w.heap.size, 0, none⟩) r.length r.length)) B0 (bs ++ [w.heap.size]) rows (k + 1) := by
  obtain ⟨hk, _⟩ := List.getElem?_eq_some_iff.1 hr
  have hl : (rows.take k).length = k := by rw [List.length_take]; omega
  have hlt := hrow.lt
  refine ⟨by simp [h.len], ?_, fun i c x h1 h2 => ?_, ?_, fun c hc => ?_⟩
  · refine ((h.outer.on hb).set k _).of ?_
    have hL : (rowsC bs (rows.take k)).length = k := by rw [rowsC_length _ _ (by rw [h.len, hl]), hl]
    rw [List.take_add_one, hr, Option.toList, rowsC_snoc _ _ (by rw [h.len, hl]), List.set_append_right _ _ (by omega), hL, Nat.sub_self,
      show rows.length - k = (rows.length - (k + 1)) + 1 by omega, zeros_succ]
    simp
  · rcases Nat.lt_or_ge i bs.length with hi | hi
    · rw [List.getElem?_append_left hi] at h1
      have hc := h.low c (List.mem_of_getElem? h1)
      exact ((h.inner i c x h1 h2).on hb).far (p := ⟨_, _, none⟩) (by dsimp only; omega) _
    · rw [List.getElem?_append_right hi] at h1
      have : i - bs.length = 0 := by
        rcases Nat.eq_zero_or_pos (i - bs.length) with h3 | h3
        · exact h3
        · rw [List.getElem?_eq_none (by simp; omega)] at h1; cases h1
      rw [this] at h1
      simp only [List.getElem?_cons_zero, Option.some.injEq] at h1
      subst h1
      obtain rfl : i = k := by rw [← h.len]; omega
      rw [hr] at h2; cases h2
      exact hrow.far (p := ⟨_, _, none⟩) (by dsimp only; omega) _
  · rw [List.nodup_append]
    exact ⟨h.nodup, by simp, fun a ha b hb' => by
      simp only [List.mem_singleton] at hb'
      have := (h.low a ha).2; omega⟩
  · rw [World.size_setCell]
    rcases List.mem_append.1 hc with hc | hc
    · have := h.low c hc; have := hb.size; omega
    · simp only [List.mem_singleton] at hc; omega

theorem CopyK.below {w w1 : World} {B0 : Nat} {bs : List Nat} {rows : List Row1} {k : Nat} (h : CopyK w B0 bs rows k) (hb : Below w.heap.size w w1) : CopyK w1 B0 bs rows k :=
  ⟨h.len, h.outer.on hb, fun i c r h1 h2 => (h.inner i c r h1 h2).on hb, h.nodup, fun c hc => by have := h.low c hc; have := hb.size; omega⟩

theorem CopyK.done {w : World} {B0 : Nat} {bs : List Nat} {rows : List Row1} {k : Nat} (h : CopyK w B0 bs rows k) (hk : k = rows.length) : OwnRs valC 41 40 w B0 B0 bs rows [] := by
  subst hk
  refine ⟨h.len, h.outer.of (by rw [List.take_length, Nat.sub_self]; rfl), h.inner, h.nodup, fun c hc => ?_, Nat.le_refl _⟩
  have := h.low c hc; omega

set_option maxHeartbeats 400000 in
theorem toValueSS_ok (A : Option Addr) (c : Nat) (rows : List Row1) (w : World) (hn : rows.length ≤ 1048576) (hm : ∀ r ∈ rows, r.length ≤ 1048576) (h : Rws w w.heap.size A rows) :
    Calls Try.prog 83 #[.slice A rows.length c] w fun e w' => e = .returned (.slice (some ⟨w.heap.size, 0, none⟩) rows.length rows.length) ∧ Below w.heap.size w w' ∧ ∃ bs, OwnRs valC 41 40 w' w.heap.size w.heap.size bs rows [] := by
  have hmk := run_make_rowN (P := Try.prog) 23 41 _ _ _ Try.underlying23 zeroRow .i64 .i64 rows.length (by omega) (by omega)
  have Hm := Lib.hid hm
  clear hm
  go_enter Try.func83, Try.ntmps83
  go_wp2
  go_loopg [4] (rows.length) (fun g i wr => ∃ (k : Nat) (bs : List Nat), k ≤ rows.length ∧ g = rows.length - k ∧ i = .int .i64 k ∧ Below w.heap.size w wr ∧ w.heap.size < wr.heap.size ∧ CopyK wr w.heap.size bs rows k)
  case atStart =>
    exact ⟨0, [], by omega, by omega, rfl, balloc (Below.refl _ _) _, by simp, ⟨rfl, (Row.new _ _ _).of (by have h1 := made_zeros [.slice none 0 0] rows.length; rw [List.length_singleton, Nat.mul_one] at h1; exact h1), fun i c r h1 => by simp at h1, List.nodup_nil, fun c hc => by simp at hc⟩⟩
  case round =>
    obtain ⟨k, bs, hk, rfl, rfl, hb, hsz, hcp⟩ := hrel
    by_cases hlt : k < rows.length
    · obtain ⟨b, off, A1, C1, rfl, hB, c1, hc1, hm1, s1⟩ := (h.on hb).at_ hlt
      have hx := Lib.hid (List.getElem?_eq_getElem hlt)
      generalize rows[k] = x at *
      have hxl := Hm.out x (List.mem_of_getElem? hx.out)
      have Hk := Lib.hid (toValueS_ok A1 C1 x wr hxl s1)
      have Hcp := Lib.hid hcp
      have hlen : k < (rowsC bs (rows.take k) ++ zeros [.slice none 0 0] (rows.length - k)).length := by
        have hl : (rows.take k).length = k := by rw [List.length_take]; omega
        rw [List.length_append, rowsC_length _ _ (by rw [hcp.len, hl]), hl, zeros_length]; simp; omega
      obtain ⟨v1, hv1⟩ : ∃ v, (rowsC bs (rows.take k) ++ zeros [.slice none 0 0] (rows.length - k))[k]? = some v := ⟨_, List.getElem?_eq_getElem hlen⟩
      have Hv1 := Lib.hid hv1
      clear hlen hv1 hcp s1 hc1 hm1 hxl
      go_wp2_with (go_at_call 117; refine Hk.out.mono ?_; rintro e w1 ⟨rfl, hb1, hr1⟩; have hrow1 := Hcp.out.outer.on hb1; have e1 := (hrow1.cell k).trans Hv1.out; have e3 := hrow1.frozen k; have Hr1 := Lib.hid hr1; clear hrow1 hr1)
      go_roundg (rows.length - (k + 1))
      case measure => omega
      case rel =>
        have hs1 := hb1.size
        exact ⟨k + 1, _, by omega, rfl, by go_num, (bch hb hb1).setCell (p := ⟨_, _, none⟩) (Nat.le_refl _) _, by rw [World.size_setCell]; omega, Hcp.out.next hsz hx.out hb1 Hr1.out⟩
    · go_wp2
      go_ret
      exact ⟨rfl, hb, bs, hcp.done (by omega)⟩

end Go.Proofs.Ytldndapcbgaliaa
