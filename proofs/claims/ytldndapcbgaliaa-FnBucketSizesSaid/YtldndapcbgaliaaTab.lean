/-
  Contracts of the functions of tables.
-/
import Derived.Test.YtldndapcbgaliaaProg
import Derived.Test.YtldndapcbgaliaaRow
namespace Go.Proofs.Ytldndapcbgaliaa
open Go.RowKit Go.Qo
set_option linter.unusedVariables false
set_option linter.unusedSimpArgs false

theorem bfalse {r : Bool} {p : Prop} (hr : r = true ↔ p) (h : ¬ p) : r = false := by
  cases r
  · rfl
  · exact absurd (hr.1 rfl) h
theorem btrue {r : Bool} {p : Prop} (hr : r = true ↔ p) (h : p) : r = true := hr.2 h

set_option maxHeartbeats 1000000 in
theorem specValidTable_ok (W : Int) (A : Option Addr) (c : Nat) (rows : List Row1) (w : World) (hn : rows.length ≤ maxLen) (h : Rws w w.heap.size A rows) (r : Bool) (hr : r = true ↔ TabOk W rows) :
    Calls Try.prog 51 #[.agg #[.int .i64 W, .slice A rows.length c]] w fun e w' => e = .returned (.bool r) ∧ Below w.heap.size w w' := by
  have Hr := Lib.hid hr
  clear hr
  unfold maxLen at hn
  go_enter Try.func51, Try.ntmps51
  go_wp2
  go_loopg [3] (rows.length) (fun g i wr => ∃ k : Nat, k ≤ rows.length ∧ g = rows.length - k ∧ i = .int .i64 k ∧ Below w.heap.size w wr ∧ Row wr w.heap.size 25 [.int .i64 W, .slice A rows.length c] ∧ TabUpto W rows k)
  case atStart => exact ⟨0, by omega, by omega, rfl, balloc (Below.refl _ _) _, Row.new _ _ _, TabUpto.zero⟩
  case round =>
    obtain ⟨k, hk, rfl, rfl, hb, hbox, hp⟩ := hrel
    have Hp := Lib.hid hp
    have hblt := hbox.lt
    have b0 : wr.cell? ⟨w.heap.size, 0, none⟩ = some (.int .i64 W) := hbox.cell 0
    have b1 : wr.cell? ⟨w.heap.size, 1, none⟩ = some (.slice A rows.length c) := hbox.cell 1
    have B0 := fun z : Aft wr.heap.size wr => z.cell hblt b0
    have B1 := fun z : Aft wr.heap.size wr => z.cell hblt b1
    have Hbox := Lib.hid hbox
    clear hp hbox
    by_cases hlt : k < rows.length
    · obtain ⟨b, off, A1, C1, hA, hB, c1, hc1, hm1, s1⟩ := (h.on hb).at_ hlt
      have hx := Lib.hid (List.getElem?_eq_getElem hlt)
      have Hh := Lib.hid (h.on hb)
      generalize rows[k] = x at *
      subst hA
      have d1 := fun z : Aft wr.heap.size wr => z.cell hB c1
      obtain ⟨q, hq⟩ : ∃ q, rowValid x = q := ⟨_, rfl⟩
      have HV := Lib.hid (fun z : Aft wr.heap.size wr => specValidRow_ok A1 C1 x z.v (by omega) (s1.on z.h) q hq)
      have Hq := Lib.hid hq
      have hlx : x.length ≤ 9223372036854775807 := by unfold maxLen at hm1; omega
      have S1 := Lib.hid s1
      have HC := Lib.hid (And.intro hc1 hm1)
      clear hq s1 hc1 hm1 h
      cases q
      · have hf : r = false := bfalse Hr.out fun ht => by have := (ht.row hx.out).1; rw [Hq.out] at this; cases this
        subst hf
        go_wp2
        refine wp_region_aft wr.heap.size (by kernel_rfl) (by kernel_rfl) ?_
        repeat (go_big_quiet_step ((go_at_call 100; exact Calls.aft (Nat.le_refl _) (HV.out _))))
        refine wpQuiet_nil ?_
        intro _ hw'
        obtain ⟨⟨w1, hb1⟩, rfl⟩ := hw'
        go_wp2
        go_ret
        exact ⟨rfl, bch hb hb1⟩
      · by_cases hw : (x.length : Int) = W
        · have hwb : ((x.length : Int) != W) = false := by simp [hw]
          have Hw := Lib.hid hw
          clear hw
          rcases Nat.eq_zero_or_pos k with h0 | h0
          · subst h0
            have c1' : wr.cell? ⟨b, off, none⟩ = some (.slice A1 x.length C1) := by simpa using c1
            have d1' := fun z : Aft wr.heap.size wr => z.cell hB c1'
            go_wp2
            refine wp_region_aft wr.heap.size (by kernel_rfl) (by kernel_rfl) ?_
            repeat (go_big_quiet_step ((go_at_call 100; exact Calls.aft (Nat.le_refl _) (HV.out _))))
            refine wpQuiet_nil ?_
            intro _ hw'
            obtain ⟨⟨w1, hb1⟩, rfl⟩ := hw'
            go_wp2
            go_roundg (rows.length - 1)
            case measure => omega
            case rel => exact ⟨1, by omega, rfl, by go_num, bch hb hb1, Hbox.out.on hb1, TabUpto.first hx.out Hq.out Hw.out⟩
          · obtain ⟨b2, off2, A2, C2, hA2, hB2, c2, hc2, hm2, s2⟩ := Hh.out.at_ (i := k - 1) (by omega)
            have hy := Lib.hid (List.getElem?_eq_getElem (show k - 1 < rows.length by omega))
            generalize rows[k - 1] = y at *
            cases hA2
            have d2 := fun z : Aft wr.heap.size wr => z.cell hB2 c2
            obtain ⟨R, hR⟩ : ∃ R, rCmp y x = R := ⟨_, rfl⟩
            have HK := Lib.hid (fun z : Aft wr.heap.size wr => specCompareRows_ok A2 A1 C2 C1 y x z.v (by omega) (by have := HC.out; omega) (s2.on z.h) (S1.out.on z.h) R hR)
            have HR := Lib.hid hR
            clear hR s2 hc2 hm2
            have h0' : (0 : Int) < (k : Int) := by omega
            have i1 : IntKind.i64.wrap ((k : Int) - 1) = (k : Int) - 1 := IntWalk.i64_in _ (by omega)
            have i2 : ((k : Int) - 1).toNat = k - 1 := by omega
            have i3 : (0 : Int) ≤ (k : Int) - 1 := by omega
            have i4 : (k : Int) - 1 < (rows.length : Int) := by omega
            by_cases hR0 : 0 < R
            · have hf : r = false := bfalse Hr.out fun ht => by have := ht.2.2.2.2 (k - 1) y x hy.out (by rw [show k - 1 + 1 = k by omega]; exact hx.out); rw [HR.out] at this; omega
              subst hf
              go_wp2
              refine wp_region_aft wr.heap.size (by kernel_rfl) (by kernel_rfl) ?_
              repeat (go_big_quiet_step (first | (go_at_call 100; exact Calls.aft (Nat.le_refl _) (HV.out _)) | (go_at_call 101; exact Calls.aft (Nat.le_refl _) (HK.out _))))
              refine wpQuiet_nil ?_
              intro _ hw'
              obtain ⟨⟨w1, hb1⟩, rfl⟩ := hw'
              go_wp2
              go_ret
              exact ⟨rfl, bch hb hb1⟩
            · go_wp2
              refine wp_region_aft wr.heap.size (by kernel_rfl) (by kernel_rfl) ?_
              repeat (go_big_quiet_step (first | (go_at_call 100; exact Calls.aft (Nat.le_refl _) (HV.out _)) | (go_at_call 101; exact Calls.aft (Nat.le_refl _) (HK.out _))))
              refine wpQuiet_nil ?_
              intro _ hw'
              obtain ⟨⟨w1, hb1⟩, rfl⟩ := hw'
              go_wp2
              go_roundg (rows.length - (k + 1))
              case measure => omega
              case rel =>
                refine ⟨k + 1, by omega, rfl, by go_num, bch hb hb1, Hbox.out.on hb1, ?_⟩
                obtain ⟨j, rfl⟩ : ∃ j, k = j + 1 := ⟨k - 1, by omega⟩
                exact Hp.out.succ hy.out hx.out Hq.out Hw.out (by rw [HR.out]; omega)
        · have hwb : ((x.length : Int) != W) = true := by simp [hw]
          have hf : r = false := bfalse Hr.out fun ht => hw (ht.row hx.out).2
          subst hf
          clear hw
          go_wp2
          refine wp_region_aft wr.heap.size (by kernel_rfl) (by kernel_rfl) ?_
          repeat (go_big_quiet_step ((go_at_call 100; exact Calls.aft (Nat.le_refl _) (HV.out _))))
          refine wpQuiet_nil ?_
          intro _ hw'
          obtain ⟨⟨w1, hb1⟩, rfl⟩ := hw'
          go_wp2
          go_ret
          exact ⟨rfl, bch hb hb1⟩
    · obtain ⟨q, hq⟩ : ∃ q, (decide ((1 : Int) ≤ W) && decide (W ≤ 6)) = q := ⟨_, rfl⟩
      have Hk := Lib.hid (fun w => inRange_ok W 1 6 w q hq)
      have Hq := Lib.hid hq
      clear hq
      cases q
      · go_wp2_with (go_at_call 87; refine (Hk.out _).mono ?_; rintro e w' ⟨rfl, rfl⟩)
        go_ret
        exact ⟨ret_bool (bfalse Hr.out fun ht => by have := Hq.out; simp [ht.1, ht.2.1] at this).symm, hb⟩
      · have hq2 : 1 ≤ W ∧ W ≤ 6 := by simpa using Hq.out
        by_cases h4 : rows.length ≤ 400
        · go_wp2_with (go_at_call 87; refine (Hk.out _).mono ?_; rintro e w' ⟨rfl, rfl⟩)
          go_ret
          exact ⟨ret_bool (by rw [btrue Hr.out (Hp.out.all (by omega) hq2.1 hq2.2 h4)]; simp; try omega), hb⟩
        · go_wp2_with (go_at_call 87; refine (Hk.out _).mono ?_; rintro e w' ⟨rfl, rfl⟩)
          go_ret
          exact ⟨ret_bool (by rw [bfalse Hr.out fun ht => h4 ht.2.2.1]; simp; try omega), hb⟩


set_option maxHeartbeats 1000000 in
theorem implValidTable_ok (W : Int) (A : Option Addr) (c : Nat) (rows : List Row1) (w : World) (hn : rows.length ≤ maxLen) (h : Rws w w.heap.size A rows) (r : Bool) (hr : r = true ↔ TabOk W rows) :
    Calls Try.prog 89 #[.agg #[.int .i64 W, .slice A rows.length c]] w fun e w' => e = .returned (.bool r) ∧ Below w.heap.size w w' := by
  have Hr := Lib.hid hr
  clear hr
  unfold maxLen at hn
  obtain ⟨q, hq⟩ : ∃ q, (decide ((1 : Int) ≤ W) && decide (W ≤ 6)) = q := ⟨_, rfl⟩
  have HW := Lib.hid (fun w => validWidth_ok W w q hq)
  have HQ := Lib.hid hq
  clear hq
  cases q
  · have hf : r = false := bfalse Hr.out fun ht => by have := HQ.out; simp [ht.1, ht.2.1] at this
    subst hf
    go_enter Try.func89, Try.ntmps89
    go_wp2_with (go_at_call 54; refine (HW.out _).mono ?_; rintro e w' ⟨rfl, rfl⟩)
    go_ret
    exact ⟨rfl, balloc (Below.refl _ _) _⟩
  · have hq2 : 1 ≤ W ∧ W ≤ 6 := by simpa using HQ.out
    have HQ2 := Lib.hid hq2
    clear hq2
    by_cases h4 : 400 < rows.length
    · have hf : r = false := bfalse Hr.out fun ht => by have := ht.2.2.1; omega
      subst hf
      go_enter Try.func89, Try.ntmps89
      go_wp2_with (go_at_call 54; refine (HW.out _).mono ?_; rintro e w' ⟨rfl, rfl⟩)
      go_ret
      exact ⟨rfl, balloc (Below.refl _ _) _⟩
    · go_enter Try.func89, Try.ntmps89
      go_wp2_with (go_at_call 54; refine (HW.out _).mono ?_; rintro e w' ⟨rfl, rfl⟩)
      go_loopg [18] (rows.length) (fun g i wr => ∃ k : Nat, k ≤ rows.length ∧ g = rows.length - k ∧ i = .int .i64 k ∧ Below w.heap.size w wr ∧ Row wr w.heap.size 25 [.int .i64 W, .slice A rows.length c] ∧ TabUpto W rows k)
      case atStart => exact ⟨0, by omega, by omega, rfl, balloc (Below.refl _ _) _, Row.new _ _ _, TabUpto.zero⟩
      case round =>
        obtain ⟨k, hk, rfl, rfl, hb, hbox, hp⟩ := hrel
        have Hp := Lib.hid hp
        have hblt := hbox.lt
        have b0 : wr.cell? ⟨w.heap.size, 0, none⟩ = some (.int .i64 W) := hbox.cell 0
        have b1 : wr.cell? ⟨w.heap.size, 1, none⟩ = some (.slice A rows.length c) := hbox.cell 1
        have Hbox := Lib.hid hbox
        clear hp hbox
        by_cases hlt : k < rows.length
        · obtain ⟨b, off, A1, C1, hA, hB, c1, hc1, hm1, s1⟩ := (h.on hb).at_ hlt
          have hx := Lib.hid (List.getElem?_eq_getElem hlt)
          have Hh := Lib.hid (h.on hb)
          generalize rows[k] = x at *
          subst hA
          obtain ⟨q, hq⟩ : ∃ q, rowValid x = q := ⟨_, rfl⟩
          have HV := Lib.hid (implValidRow_ok A1 C1 x wr (by omega) s1 q hq)
          have Hq := Lib.hid hq
          have hlx : x.length ≤ 9223372036854775807 := by unfold maxLen at hm1; omega
          have S1 := Lib.hid s1
          have HC := Lib.hid (And.intro hc1 hm1)
          clear hq s1 hc1 hm1 h
          by_cases hw : (x.length : Int) = W
          · have hwb : ((x.length : Int) != W) = false := by simp [hw]
            have Hw := Lib.hid hw
            clear hw
            cases q
            · have hf : r = false := bfalse Hr.out fun ht => by have := (ht.row hx.out).1; rw [Hq.out] at this; cases this
              subst hf
              go_wp2_with (go_at_call 55; refine HV.out.mono ?_; rintro e w1 ⟨rfl, hb1⟩)
              go_ret
              exact ⟨rfl, bch hb (by assumption)⟩
            · rcases Nat.eq_zero_or_pos k with h0 | h0
              · subst h0
                have c1' : wr.cell? ⟨b, off, none⟩ = some (.slice A1 x.length C1) := by simpa using c1
                go_wp2_with (go_at_call 55; refine HV.out.mono ?_; rintro e w1 ⟨rfl, hb1⟩)
                go_roundg (rows.length - 1)
                case measure => omega
                case rel => exact ⟨1, by omega, rfl, by go_num, bch hb (by assumption), Hbox.out.on (by assumption), TabUpto.first hx.out Hq.out Hw.out⟩
              · obtain ⟨b2, off2, A2, C2, hA2, hB2, c2, hc2, hm2, s2⟩ := Hh.out.at_ (i := k - 1) (by omega)
                have hy := Lib.hid (List.getElem?_eq_getElem (show k - 1 < rows.length by omega))
                generalize rows[k - 1] = y at *
                cases hA2
                obtain ⟨R, hR⟩ : ∃ R, rCmp y x = R := ⟨_, rfl⟩
                have hyv := Hp.out.1 (k - 1) y (by omega) hy.out
                have hrp : rpCmp y x = R := by rw [rp_eq hyv.1 Hq.out (by have := hyv.2; have := Hw.out; omega), hR]
                have HK := Lib.hid (fun (z : World) (hz : Below wr.heap.size wr z) => implCompareRows_ok A2 A1 C2 C1 y x z (by omega) (by have := HC.out; omega) (s2.on hz) (S1.out.on hz))
                rw [hrp] at HK
                have HR := Lib.hid hR
                clear hR s2 hc2 hm2 hyv hrp
                have h0' : (0 : Int) < (k : Int) := by omega
                have i2 : ((k : Int) - 1).toNat = k - 1 := by omega
                by_cases hR0 : 0 < R
                · have hf : r = false := bfalse Hr.out fun ht => by have := ht.2.2.2.2 (k - 1) y x hy.out (by rw [show k - 1 + 1 = k by omega]; exact hx.out); rw [HR.out] at this; omega
                  subst hf
                  go_wp2_with (first | (go_at_call 55; refine HV.out.mono ?_; rintro e w1 ⟨rfl, hb1⟩; have b1' : w1.cell? ⟨w.heap.size, 1, none⟩ = some (.slice (some ⟨b, off, none⟩) rows.length c) := (Hbox.out.on hb1).cell 1; have c2' : w1.cell? ⟨b, off + (k - 1), none⟩ = some (.slice A2 y.length C2) := ((hb1.cell (p := ⟨b, _, none⟩) hB).trans c2); have hb1' := Lib.hid hb1) | (go_at_call 105; refine (HK.out _ hb1').mono ?_; rintro e w2 ⟨rfl, hb2⟩))
                  go_ret
                  exact ⟨rfl, bch (bch hb hb1'.out) (by assumption)⟩
                · go_wp2_with (first | (go_at_call 55; refine HV.out.mono ?_; rintro e w1 ⟨rfl, hb1⟩; have b1' : w1.cell? ⟨w.heap.size, 1, none⟩ = some (.slice (some ⟨b, off, none⟩) rows.length c) := (Hbox.out.on hb1).cell 1; have c2' : w1.cell? ⟨b, off + (k - 1), none⟩ = some (.slice A2 y.length C2) := ((hb1.cell (p := ⟨b, _, none⟩) hB).trans c2); have hb1' := Lib.hid hb1) | (go_at_call 105; refine (HK.out _ hb1').mono ?_; rintro e w2 ⟨rfl, hb2⟩))
                  go_roundg (rows.length - (k + 1))
                  case measure => omega
                  case rel =>
                    refine ⟨k + 1, by omega, rfl, by go_num, bch (bch hb hb1'.out) (by assumption), (Hbox.out.on hb1'.out).on (by assumption), ?_⟩
                    obtain ⟨j, rfl⟩ : ∃ j, k = j + 1 := ⟨k - 1, by omega⟩
                    exact Hp.out.succ hy.out hx.out Hq.out Hw.out (by rw [HR.out]; omega)
          · have hwb : ((x.length : Int) != W) = true := by simp [hw]
            have hf : r = false := bfalse Hr.out fun ht => hw (ht.row hx.out).2
            subst hf
            clear hw
            go_wp2
            go_ret
            exact ⟨rfl, hb⟩
        · go_wp2
          go_ret
          exact ⟨ret_bool (by rw [btrue Hr.out (Hp.out.all (by omega) HQ2.out.1 HQ2.out.2 (by omega))]), hb⟩


set_option maxHeartbeats 1000000 in
theorem sameWidth_ok (W W' : Int) (A A' : Option Addr) (c c' : Nat) (xs ys : List Row1) (w : World) (hn : xs.length ≤ maxLen) (hn' : ys.length ≤ maxLen) (h : Rws w w.heap.size A xs) (h' : Rws w w.heap.size A' ys) (r : Bool) (hr : r = true ↔ (TabOk W xs ∧ TabOk W' ys ∧ W = W')) :
    Calls Try.prog 71 #[.agg #[.int .i64 W, .slice A xs.length c], .agg #[.int .i64 W', .slice A' ys.length c']] w fun e w' => e = .returned (.bool r) ∧ Below w.heap.size w w' := by
  have Hr := Lib.hid hr
  clear hr
  obtain ⟨q, hq⟩ : ∃ q : Bool, q = true ↔ TabOk W xs := ⟨_, @decide_eq_true_iff _ (Classical.propDecidable _)⟩
  obtain ⟨q', hq'⟩ : ∃ q : Bool, q = true ↔ TabOk W' ys := ⟨_, @decide_eq_true_iff _ (Classical.propDecidable _)⟩
  have H1 := Lib.hid (fun (z : World) (hz : Below w.heap.size w z) => implValidTable_ok W A c xs z hn (h.on hz) q hq)
  have H2 := Lib.hid (fun (z : World) (hz : Below w.heap.size w z) => implValidTable_ok W' A' c' ys z hn' (h'.on hz) q' hq')
  have HQ := Lib.hid hq
  have HQ' := Lib.hid hq'
  clear hq hq' h h'
  cases q
  · have hf : r = false := bfalse Hr.out fun ht => by have := HQ.out.2 ht.1; cases this
    subst hf
    go_enter Try.func71, Try.ntmps71
    go_wp2_with (go_at_call 89; refine (H1.out _ (balloc (balloc (Below.refl _ _) _) _)).mono ?_; rintro e w1 ⟨rfl, hb1⟩)
    go_ret
    exact ⟨rfl, bbox2 (by assumption)⟩
  · cases q'
    · have hf : r = false := bfalse Hr.out fun ht => by have := HQ'.out.2 ht.2.1; cases this
      subst hf
      go_enter Try.func71, Try.ntmps71
      go_wp2_with fail
      refine (H1.out _ (balloc (balloc (Below.refl _ _) _) _)).mono ?_; rintro e w1 ⟨rfl, hb1⟩
      have r1 := (Row.second _ _ _ _).on hb1
      have e0 : w1.cell? ⟨w.heap.size + 1, 0, none⟩ = some (.int .i64 W') := r1.cell 0
      have e1 : w1.cell? ⟨w.heap.size + 1, 1, none⟩ = some (.slice A' ys.length c') := r1.cell 1
      have Hr1 := Lib.hid r1
      clear r1
      go_wp2_with fail
      refine (H2.out _ (bbox2 hb1)).mono ?_; rintro e w2 ⟨rfl, hb2⟩
      go_wp2
      go_ret
      exact ⟨rfl, bch (bbox2 hb1) hb2⟩
    · obtain ⟨d, hd⟩ : ∃ d, decide (W = W') = d := ⟨_, rfl⟩
      have hdb : (W == W') = d := by rw [← hd]; rfl
      have hrd : r = d := by
        have h1 := HQ.out.1 rfl
        have h2 := HQ'.out.1 rfl
        cases d
        · exact bfalse Hr.out fun ht => of_decide_eq_false hd ht.2.2
        · exact btrue Hr.out ⟨h1, h2, of_decide_eq_true hd⟩
      subst hrd
      clear hd
      go_enter Try.func71, Try.ntmps71
      go_wp2_with fail
      refine (H1.out _ (balloc (balloc (Below.refl _ _) _) _)).mono ?_; rintro e w1 ⟨rfl, hb1⟩
      have r1 := (Row.second _ _ _ _).on hb1
      have r0 := (Row.first _ _ _ _).on hb1
      have e0 : w1.cell? ⟨w.heap.size + 1, 0, none⟩ = some (.int .i64 W') := r1.cell 0
      have e1 : w1.cell? ⟨w.heap.size + 1, 1, none⟩ = some (.slice A' ys.length c') := r1.cell 1
      have Hr1 := Lib.hid r1
      have Hr0 := Lib.hid r0
      clear r1 r0
      go_wp2_with fail
      refine (H2.out _ (bbox2 hb1)).mono ?_; rintro e w2 ⟨rfl, hb2⟩
      have e2 : w2.cell? ⟨w.heap.size + 1, 0, none⟩ = some (.int .i64 W') := (Hr1.out.on hb2).cell 0
      have e3 : w2.cell? ⟨w.heap.size, 0, none⟩ = some (.int .i64 W) := (Hr0.out.on hb2).cell 0
      go_wp2
      go_ret
      exact ⟨rfl, bch (bbox2 hb1) hb2⟩

set_option maxHeartbeats 400000 in
theorem szTable_ok (W : Int) (A : Option Addr) (c : Nat) (rows : List Row1) (left : Int) (w : World) (hn : rows.length ≤ maxLen) (h0 : 0 ≤ left) (h1 : left ≤ 1048576) (h : Rws w w.heap.size A rows) (r : Int) (hr : szR left rows = r) :
    Calls Try.prog 28 #[.agg #[.int .i64 W, .slice A rows.length c], .int .i64 left] w fun e w' => e = .returned (.int .i64 r) ∧ Below w.heap.size w w' := by
  have Hk := Lib.hid (fun (z : World) (hz : Below w.heap.size w z) => szValueSS_ok A c rows left z hn h0 h1 (h.on hz) r hr)
  have hr2 : r = -1 ∨ 0 ≤ r := by rcases szR_range rows left h0 with h2 | h2 <;> omega
  clear hr h
  unfold maxLen at hn
  rcases hr2 with rfl | hr2
  all_goals
    go_enter Try.func28, Try.ntmps28
    go_wp2_with (go_at_call 82; refine (Hk.out _ (balloc (Below.refl _ _) _)).mono ?_; rintro e w' ⟨rfl, rfl⟩)
    go_ret
    exact ⟨rfl, balloc (Below.refl _ _) _⟩

set_option maxHeartbeats 400000 in
theorem eqTable_ok (W W' : Int) (A A' : Option Addr) (c c' : Nat) (xs ys : List Row1) (w : World) (hn : xs.length ≤ maxLen) (hn' : ys.length ≤ maxLen) (h : Rws w w.heap.size A xs) (h' : Rws w w.heap.size A' ys) (r : Bool) (hr : r = true ↔ (W = W' ∧ xs = ys)) :
    Calls Try.prog 30 #[.agg #[.int .i64 W, .slice A xs.length c], .agg #[.int .i64 W', .slice A' ys.length c']] w fun e w' => e = .returned (.bool r) ∧ Below w.heap.size w w' := by
  have Hr := Lib.hid hr
  obtain ⟨d, hd⟩ : ∃ d, decide (xs = ys) = d := ⟨_, rfl⟩
  have Hk := Lib.hid (fun (z : World) (hz : Below w.heap.size w z) => eqValueSS_ok A A' c c' xs ys z hn hn' (h.on hz) (h'.on hz))
  rw [hd] at Hk
  have Hd := Lib.hid hd
  clear hr h h' hd
  by_cases hW : W = W'
  · subst hW
    have hrd : r = d := by
      cases d
      · exact bfalse Hr.out fun ht => of_decide_eq_false Hd.out ht.2
      · exact btrue Hr.out ⟨rfl, of_decide_eq_true Hd.out⟩
    subst hrd
    cases r
    all_goals
      go_enter Try.func30, Try.ntmps30
      go_wp2_with (go_at_call 41; refine (Hk.out _ (balloc (balloc (Below.refl _ _) _) _)).mono ?_; rintro e w1 ⟨rfl, hb1⟩)
      go_ret
      exact ⟨rfl, bbox2 (by assumption)⟩
  · have hf : r = false := bfalse Hr.out fun ht => hW ht.1
    subst hf
    have hwb : (W != W') = true := by simp [hW]
    clear hW
    go_enter Try.func30, Try.ntmps30
    go_wp2
    go_ret
    exact ⟨rfl, balloc (balloc (Below.refl _ _) _) _⟩

/-- A table of the call's own. -/
def OwnTab (w : World) (B0 : Nat) (v : Value) (W : Int) (rows : List Row1) : Prop :=
  ∃ b bs, v = .agg #[.int .i64 W, .slice (some ⟨b, 0, none⟩) rows.length rows.length] ∧ OwnRs valC 41 40 w B0 b bs rows []

theorem resToTable {b : Nat} {v0 v1 : Value} (tmps : Array Value) (hp : tmps.getD 2 undef = .pointer (some ⟨b, 0, none⟩)) (w : World) (c0 : w.cell? ⟨b, 0, none⟩ = some v0) (c1 : w.cell? ⟨b, 1, none⟩ = some v1) :
    (results Try.f29 tmps).run Try.prog w = .ok (.agg #[v0, v1]) w := by
  simp only [Array.getD_eq_getD_getElem?] at hp
  simp [results, Try.results29, go_sem, hp, c0, c1]

set_option maxHeartbeats 400000 in
theorem toTable_ok (W : Int) (A : Option Addr) (c : Nat) (rows : List Row1) (w : World) (hn : rows.length ≤ 1048576) (hm : ∀ r ∈ rows, r.length ≤ 1048576) (h : Rws w w.heap.size A rows) :
    Calls Try.prog 29 #[.agg #[.int .i64 W, .slice A rows.length c]] w fun e w' => ∃ b bs, e = .returned (.agg #[.int .i64 W, .slice (some ⟨b, 0, none⟩) rows.length rows.length]) ∧ Below w.heap.size w w' ∧ OwnRs valC 41 40 w' w.heap.size b bs rows [] := by
  have Hk := Lib.hid (fun (z : World) (hz : Below w.heap.size w z) => toValueSS_ok A c rows z hn hm (h.on hz))
  clear h hm
  go_enter Try.func29, Try.ntmps29
  go_wp2_with fail
  refine (Hk.out _ (balloc (balloc (balloc (Below.refl _ _) _) _) _)).mono ?_
  rintro e w1 ⟨rfl, hb1, bs, ho⟩
  have r1 := (Row.third _ _ _ _ _).on hb1
  have r2 := ((Row.second _ _ _ _).alloc _).on hb1
  have e0 : w1.cell? ⟨w.heap.size + 1 + 1, 0, none⟩ = some (.int .i64 W) := r1.cell 0
  have e1 : w1.cell? ⟨w.heap.size + 1 + 1, 1, none⟩ = some (.slice none 0 0) := r1.cell 1
  have e2 : w1.cell? ⟨w.heap.size + 1, 0, none⟩ = some (.int .i64 0) := r2.cell 0
  have e3 : w1.cell? ⟨w.heap.size + 1, 1, none⟩ = some (.slice none 0 0) := r2.cell 1
  have g1 : w1.frozen? ⟨w.heap.size + 1 + 1, 1, none⟩ = false := r1.frozen 1
  have g2 : w1.frozen? ⟨w.heap.size + 1, 0, none⟩ = false := r2.frozen 0
  have g3 : w1.frozen? ⟨w.heap.size + 1, 1, none⟩ = false := r2.frozen 1
  have Ho := Lib.hid ho
  have Hr1 := Lib.hid r1
  have Hr2 := Lib.hid r2
  clear ho r1 r2
  go_wp2
  have rf := (((Hr2.out.far (p := ⟨w.heap.size + 1 + 1, 1, none⟩) (by simp) (.slice (some ⟨w.heap.size + 1 + 1 + 1, 0, none⟩) rows.length rows.length)).set 0 (.int .i64 W)).set 1 (.slice (some ⟨w.heap.size + 1 + 1 + 1, 0, none⟩) rows.length rows.length))
  refine bodyPost_ret (resToTable _ rfl _ (rf.cell 0) (rf.cell 1)) rfl ?_
  refine ⟨_, bs, rfl, (((bbox3 hb1).setCell (p := ⟨_, _, none⟩) (by simp; omega) _).setCell (p := ⟨_, _, none⟩) (by simp) _).setCell (p := ⟨_, _, none⟩) (by simp) _, ?_⟩
  have ho := Ho.out
  simp only [World.size_alloc] at ho
  exact (((ho.setFar (p := ⟨_, _, none⟩) (by simp) _).setFar (p := ⟨_, _, none⟩) (by simp) _).setFar (p := ⟨_, _, none⟩) (by simp) _).lower (by omega)

end Go.Proofs.Ytldndapcbgaliaa
