/-
  Contract of IsSorted, the program's. It says IsSortedP.
-/
import Derived.Test.YtldndapcbgaliaaProg
import Derived.Test.YtldndapcbgaliaaIsSrt
namespace Go.Proofs.Ytldndapcbgaliaa
open Go.RowKit Go.Qo
set_option linter.unusedVariables false
set_option linter.unusedSimpArgs false

set_option maxRecDepth 20000 in
set_option maxHeartbeats 2000000 in
theorem implIsSorted_ok (A AK : Option Addr) (c cK : Nat) (rows : List Row1) (keys : List Key) (w : World) (hn : rows.length ≤ 1048576) (hnk : keys.length ≤ 1048576) (h : Rws w w.heap.size A rows) (hK : Sl 2 keyC w w.heap.size AK keys) (r : Bool) (hr : r = true ↔ IsSortedP keys rows) :
    Calls Try.prog 17 #[.slice A rows.length c, .slice AK keys.length cK] w fun e w' => e = .returned (.bool r) ∧ Below w.heap.size w w' := by
  have Hr := Lib.hid hr
  have HN := Lib.hid (And.intro hn hnk)
  have HH := Lib.hid (And.intro h hK)
  clear hr h hK
  rcases Nat.eq_zero_or_pos rows.length with h0 | h0
  · have hf : r = true := Hr.out.2 fun r0 hr0 => by have := (List.getElem?_eq_some_iff.1 hr0).1; omega
    subst hf
    go_enter Try.func17, Try.ntmps17
    rw [h0]
    go_wp2
    go_ret
    exact ⟨rfl, Below.refl _ _⟩
  · by_cases h4 : rows.length ≤ 400
    · obtain ⟨b2, off2, A2, C2, hA2, hB2, c2, hc2, hm2, s2⟩ := HH.out.1.at_ h0
      have hy := Lib.hid (List.getElem?_eq_getElem h0)
      generalize rows[0] = y at *
      subst hA2
      simp only [Nat.zero_mul, Nat.mul_zero, Nat.add_zero] at c2
      have hly : y.length ≤ 9223372036854775807 := by unfold maxLen at hm2; omega
      have Hk := Lib.hid (implValidKeys_any AK cK keys y.length w (by have := HN.out.2; unfold maxLen; omega) HH.out.2)
      clear hc2 hm2 s2
      go_enter Try.func17, Try.ntmps17
      go_wp2_with fail
      refine Hk.out.mono ?_
      rintro e w1 ⟨q, rfl, hb1, hq⟩
      have HP := Lib.hid (fun (z : World) (hz : Below w1.heap.size w1 z) => (hz.cell (p := ⟨b2, off2, none⟩) (show b2 < _ by have := hb1.size; omega)).trans ((hb1.cell (p := ⟨b2, off2, none⟩) hB2).trans c2))
      have c2' := HP.out _ (Below.refl _ _)
      have Hq := Lib.hid hq
      clear hq
      cases q
      · have hf : r = false := bfalse Hr.out fun ht => by
          have h1 := ht y hy.out
          have := rowLen (h1.1 y (List.mem_of_getElem? hy.out)).1
          exact absurd ((Hq.out (by omega)).2 h1.2.1) (by simp)
        subst hf
        go_wp2
        go_ret
        exact ⟨rfl, hb1⟩
      · obtain ⟨wo, rfl⟩ : ∃ wo : World, wo = w1 := ⟨_, rfl⟩
        go_wp2
        go_loopg [24] (rows.length) (fun g i wr => ∃ k : Nat, k ≤ rows.length ∧ g = rows.length - k ∧ i = .int .i64 k ∧ Below wo.heap.size wo wr ∧ ∀ (i : Nat) (x : Row1), i < k → rows[i]? = some x → rowValid x = true ∧ (x.length : Int) = y.length)
        case atStart => exact ⟨0, by omega, by omega, rfl, Below.refl _ _, fun i _ hi => absurd hi (by omega)⟩
        case round =>
          obtain ⟨k, hk, rfl, rfl, hb2, hp⟩ := hrel
          have Hp := Lib.hid hp
          have c2'' := HP.out _ hb2
          have hb := bch hb1 hb2
          clear hp
          by_cases hlt : k < rows.length
          · obtain ⟨b3, off3, A3, C3, hA3, hB3, c3, hc3, hm3, s3⟩ := (HH.out.1.on hb).at_ hlt
            have hx := Lib.hid (List.getElem?_eq_getElem hlt)
            generalize rows[k] = x at *
            cases hA3
            obtain ⟨q, hq⟩ : ∃ q, rowValid x = q := ⟨_, rfl⟩
            have HV := Lib.hid (implValidRow_ok A3 C3 x wr (by omega) s3 q hq)
            have Hqx := Lib.hid hq
            have hlx : x.length ≤ 9223372036854775807 := by unfold maxLen at hm3; omega
            clear hq s3 hc3 hm3
            by_cases hw : (x.length : Int) = y.length
            · have hwb : ((x.length : Int) != (y.length : Int)) = false := by simp [hw]
              have Hw := Lib.hid hw
              clear hw
              cases q
              · have hf : r = false := bfalse Hr.out fun ht => by have := (ht y hy.out).1 x (List.mem_of_getElem? hx.out); rw [Hqx.out] at this; cases this.1
                subst hf
                go_wp2_with (go_at_call 55; refine HV.out.mono ?_; rintro e w3 ⟨rfl, hb3⟩)
                go_ret
                exact ⟨rfl, bch hb (by assumption)⟩
              · go_wp2_with (go_at_call 55; refine HV.out.mono ?_; rintro e w3 ⟨rfl, hb3⟩)
                go_roundg (rows.length - (k + 1))
                case measure => omega
                case rel => exact ⟨k + 1, by omega, rfl, by go_num, bch hb2 (by assumption), upto_succ Hp.out hx.out Hqx.out Hw.out⟩
            · have hwb : ((x.length : Int) != (y.length : Int)) = true := by simp [hw]
              have hf : r = false := bfalse Hr.out fun ht => by have := (ht y hy.out).1 x (List.mem_of_getElem? hx.out); exact hw this.2
              subst hf
              clear hw
              go_wp2
              go_ret
              exact ⟨rfl, hb⟩
          · have Hall := Lib.hid (allRows_upto Hp.out (Nat.not_lt.1 hlt))
            have hly6 : y.length ≤ 6 := (rowLen (Hall.out y (List.mem_of_getElem? hy.out)).1).2
            have HKs := Lib.hid ((Hq.out (by omega)).1 (by simp))
            have HC := Lib.hid (comparisonBy_ok AK cK keys y.length wr (by have := HN.out.2; unfold maxLen; omega) (HH.out.2.on hb) HKs.out)
            have HS := Lib.hid (fun v (z : World) (hz : Below wr.heap.size wr z) (hv : IsCmp z v y.length (kCmp keys)) => isSortedFunc_ok (some ⟨b2, off2, none⟩) c rows v y.length (kCmp keys) z HN.out.1 (HH.out.1.on (bch hb hz)) Hall.out hv r (by
              rw [Hr.out]
              constructor
              · intro ht i a b ha hb'
                have := (ht y hy.out).2.2.1 i a b ha hb'
                rw [kCmp_anti (Hall.out.at_ ha) (Hall.out.at_ hb') HKs.out.1]; omega
              · intro ht r0 h0'
                rw [hy.out] at h0'; cases h0'
                refine ⟨Hall.out, HKs.out, fun i a b ha hb' => ?_, h4⟩
                have := ht i a b ha hb'
                rw [kCmp_anti (Hall.out.at_ ha) (Hall.out.at_ hb') HKs.out.1] at this; omega))
            go_wp2_with fail
            refine HC.out.mono ?_
            rintro e w3 ⟨f, cap, rfl, hb3, hcmp⟩
            have Hcmp := Lib.hid hcmp
            clear hcmp
            go_wp2_with fail
            refine (HS.out _ _ hb3 Hcmp.out).mono ?_
            rintro e w4 ⟨rfl, hb4⟩
            go_wp2
            go_ret
            exact ⟨rfl, bch hb (bch hb3 hb4)⟩
    · have hf : r = false := bfalse Hr.out fun ht => h4 (ht _ (List.getElem?_eq_getElem (show 0 < rows.length by omega))).2.2.2
      subst hf
      go_enter Try.func17, Try.ntmps17
      go_wp2
      go_ret
      exact ⟨rfl, Below.refl _ _⟩

end Go.Proofs.Ytldndapcbgaliaa
