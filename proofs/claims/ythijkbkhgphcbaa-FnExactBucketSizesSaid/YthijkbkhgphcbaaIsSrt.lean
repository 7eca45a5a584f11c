/-
  Contracts of IsSorted: the reference's and the program's. Both say IsSortedP.
-/
import Derived.Test.YthijkbkhgphcbaaProg
import Derived.Test.YthijkbkhgphcbaaSrt
import Derived.Test.YthijkbkhgphcbaaOrdW
import Derived.Test.YthijkbkhgphcbaaTab
namespace Go.Proofs.Ythijkbkhgphcbaa
open Go.RowKit Go.Qo
set_option linter.unusedVariables false
set_option linter.unusedSimpArgs false

/-- What the first loop of the reference has seen of k rows. -/
def SrtUpto (keys : List Key) (rows : List Row1) (k : Nat) : Prop :=
  ∀ (i : Nat) (r r0 : Row1), i < k → rows[i]? = some r → rows[0]? = some r0 → rowValid r = true ∧ (r.length : Int) = r0.length ∧ KeysOk r0.length keys
theorem rowLen {r : Row1} (h : rowValid r = true) : 1 ≤ r.length ∧ r.length ≤ 6 := by
  simp only [rowValid, Bool.and_eq_true, decide_eq_true_eq] at h
  exact h.1
theorem SrtUpto.next {keys : List Key} {rows : List Row1} {k : Nat} {x r0 : Row1} (h : SrtUpto keys rows k) (hx : rows[k]? = some x) (h0 : rows[0]? = some r0) (hv : rowValid x = true) (hl : (x.length : Int) = r0.length) (hk : KeysOk r0.length keys) : SrtUpto keys rows (k + 1) := by
  intro i r r' hi hr hr0
  rw [h0] at hr0; cases hr0
  rcases Nat.lt_succ_iff_lt_or_eq.1 hi with h3 | rfl
  · exact h i r _ h3 hr h0
  · rw [hx] at hr; cases hr; exact ⟨hv, hl, hk⟩
theorem SrtUpto.all {keys : List Key} {rows : List Row1} {k : Nat} (h : SrtUpto keys rows k) (hk : rows.length ≤ k) {r0 : Row1} (h0 : rows[0]? = some r0) : AllRows r0.length rows ∧ KeysOk r0.length keys := by
  refine ⟨fun r hr => ?_, ?_⟩
  · obtain ⟨i, hi, rfl⟩ := List.getElem_of_mem hr
    have := h i _ r0 (by omega) (List.getElem?_eq_getElem hi) h0
    exact ⟨this.1, this.2.1⟩
  · have hl := (List.getElem?_eq_some_iff.1 h0).1
    exact (h 0 r0 r0 (by omega) h0 h0).2.2
def StepUpto (keys : List Key) (rows : List Row1) (k : Nat) : Prop := ∀ (i : Nat) (a b : Row1), i + 1 < k → rows[i]? = some a → rows[i + 1]? = some b → kCmp keys a b ≤ 0

set_option maxRecDepth 20000 in
set_option maxHeartbeats 2000000 in
theorem specIsSorted_ok (A AK : Option Addr) (c cK : Nat) (rows : List Row1) (keys : List Key) (w : World) (hn : rows.length ≤ 1048576) (hnk : keys.length ≤ 1048576) (h : Rws w w.heap.size A rows) (hK : Sl 2 keyC w w.heap.size AK keys) (r : Bool) (hr : r = true ↔ IsSortedP keys rows) :
    Calls Try.prog 20 #[.slice A rows.length c, .slice AK keys.length cK] w fun e w' => e = .returned (.bool r) ∧ Below w.heap.size w w' := by
  have Hr := Lib.hid hr
  have HN := Lib.hid (And.intro hn hnk)
  have HH := Lib.hid (And.intro h hK)
  clear hr h hK
  go_enter Try.func20, Try.ntmps20
  go_wp2
  go_loopg [5] (rows.length) (fun g i wr => ∃ k : Nat, k ≤ rows.length ∧ g = rows.length - k ∧ i = .int .i64 k ∧ Below w.heap.size w wr ∧ SrtUpto keys rows k)
  case atStart => exact ⟨0, by omega, by omega, rfl, Below.refl _ _, fun i _ _ hi => absurd hi (by omega)⟩
  case round =>
    obtain ⟨k, hk, rfl, rfl, hb, hp⟩ := hrel
    have Hp := Lib.hid hp
    clear hp
    by_cases hlt : k < rows.length
    · obtain ⟨b, off, A1, C1, hA, hB, c1, hc1, hm1, s1⟩ := (HH.out.1.on hb).at_ hlt
      obtain ⟨b2, off2, A2, C2, hA2, hB2, c2, hc2, hm2, s2⟩ := (HH.out.1.on hb).at_ (i := 0) (by omega)
      have hx := Lib.hid (List.getElem?_eq_getElem hlt)
      have hy := Lib.hid (List.getElem?_eq_getElem (show 0 < rows.length by omega))
      generalize rows[k] = x at *
      generalize rows[0] = y at *
      subst hA
      cases hA2
      simp only [Nat.zero_mul, Nat.mul_zero, Nat.add_zero] at c2
      have d1 := fun z : Aft wr.heap.size wr => z.cell hB c1
      have d2 := fun z : Aft wr.heap.size wr => z.cell hB c2
      obtain ⟨q, hq⟩ : ∃ q, rowValid x = q := ⟨_, rfl⟩
      have HV := Lib.hid (fun z : Aft wr.heap.size wr => specValidRow_ok A1 C1 x z.v (by omega) (s1.on z.h) q hq)
      have Hq := Lib.hid hq
      have hlx : x.length ≤ 9223372036854775807 := by unfold maxLen at hm1; omega
      have hly : y.length ≤ 9223372036854775807 := by unfold maxLen at hm2; omega
      clear hq s1 s2 hc1 hm1 hc2 hm2
      cases q
      · have hf : r = false := bfalse Hr.out fun ht => by have := (ht y hy.out).1 x (List.mem_of_getElem? hx.out); rw [Hq.out] at this; cases this.1
        subst hf
        go_wp2
        refine wp_region_aft wr.heap.size (by kernel_rfl) (by kernel_rfl) ?_
        repeat (go_big_quiet_step ((go_at_call 44; exact Calls.aft (Nat.le_refl _) (HV.out _))))
        refine wpQuiet_nil ?_
        intro w1 hw'
        obtain ⟨⟨_, hb1⟩, rfl⟩ := hw'
        go_wp2
        go_ret
        exact ⟨rfl, bch hb hb1⟩
      · by_cases hw : (x.length : Int) = y.length
        · have hwb : ((x.length : Int) != (y.length : Int)) = false := by simp [hw]
          have Hw := Lib.hid hw
          clear hw
          obtain ⟨q2, hq2⟩ : ∃ q2 : Bool, q2 = true ↔ (KeysOk y.length keys ∧ 1 ≤ (y.length : Int) ∧ (y.length : Int) ≤ 6) := ⟨_, @decide_eq_true_iff _ (Classical.propDecidable _)⟩
          have HK2 := Lib.hid (fun z : Aft wr.heap.size wr => specValidKeys_ok AK cK keys y.length z.v (by have := HN.out.2; unfold maxLen; omega) (by omega) (by omega) (HH.out.2.on (bch hb z.h)) q2 hq2)
          have Hq2 := Lib.hid hq2
          clear hq2
          cases q2
          · have hf : r = false := bfalse Hr.out fun ht => by
              have h1 := ht y hy.out
              have := (h1.1 x (List.mem_of_getElem? hx.out)).1
              have hl := rowLen this
              have h3 := Hw.out
              exact absurd (Hq2.out.2 ⟨h1.2.1, by omega, by omega⟩) (by simp)
            subst hf
            go_wp2
            refine wp_region_aft wr.heap.size (by kernel_rfl) (by kernel_rfl) ?_
            repeat (go_big_quiet_step (first | (go_at_call 44; exact Calls.aft (Nat.le_refl _) (HV.out _)) | (go_at_call 45; exact Calls.aft (Nat.le_refl _) (HK2.out _))))
            refine wpQuiet_nil ?_
            intro w1 hw'
            obtain ⟨⟨_, hb1⟩, rfl⟩ := hw'
            go_wp2
            go_ret
            exact ⟨rfl, bch hb hb1⟩
          · go_wp2
            refine wp_region_aft wr.heap.size (by kernel_rfl) (by kernel_rfl) ?_
            repeat (go_big_quiet_step (first | (go_at_call 44; exact Calls.aft (Nat.le_refl _) (HV.out _)) | (go_at_call 45; exact Calls.aft (Nat.le_refl _) (HK2.out _))))
            refine wpQuiet_nil ?_
            intro w1 hw'
            obtain ⟨⟨_, hb1⟩, rfl⟩ := hw'
            go_wp2
            go_roundg (rows.length - (k + 1))
            case measure => omega
            case rel => exact ⟨k + 1, by omega, rfl, by go_num, bch hb hb1, Hp.out.next hx.out hy.out Hq.out Hw.out (Hq2.out.1 (by simp)).1⟩
        · have hwb : ((x.length : Int) != (y.length : Int)) = true := by simp [hw]
          have hf : r = false := bfalse Hr.out fun ht => by have := (ht y hy.out).1 x (List.mem_of_getElem? hx.out); exact hw this.2
          subst hf
          clear hw
          go_wp2
          refine wp_region_aft wr.heap.size (by kernel_rfl) (by kernel_rfl) ?_
          repeat (go_big_quiet_step ((go_at_call 44; exact Calls.aft (Nat.le_refl _) (HV.out _))))
          refine wpQuiet_nil ?_
          intro w1 hw'
          obtain ⟨⟨_, hb1⟩, rfl⟩ := hw'
          go_wp2
          go_ret
          exact ⟨rfl, bch hb hb1⟩
    · obtain ⟨wo, rfl⟩ : ∃ wo : World, wo = wr := ⟨_, rfl⟩
      have Hall := Lib.hid (fun (r0 : Row1) (h0 : rows[0]? = some r0) => Hp.out.all (Nat.not_lt.1 hlt) h0)
      clear Hp
      go_wp2
      go_loopg [6] rows.length (fun g i wr => ∃ j : Nat, 1 ≤ j ∧ j ≤ rows.length + 1 ∧ g = rows.length + 1 - j ∧ i = .int .i64 j ∧ Below w.heap.size w wr ∧ StepUpto keys rows j)
      case atStart => exact ⟨1, by omega, by omega, by omega, rfl, hb, fun i _ _ hi => absurd hi (by omega)⟩
      case round =>
        obtain ⟨j, hj1, hj2, rfl, rfl, hb', hp⟩ := hrel
        have Hp := Lib.hid hp
        clear hp
        by_cases hjl : j < rows.length
        · obtain ⟨b, off, A1, C1, hA, hB, c1, hc1, hm1, s1⟩ := (HH.out.1.on hb').at_ hjl
          obtain ⟨b2, off2, A2, C2, hA2, hB2, c2, hc2, hm2, s2⟩ := (HH.out.1.on hb').at_ (i := j - 1) (by omega)
          have hx := Lib.hid (List.getElem?_eq_getElem hjl)
          have hy := Lib.hid (List.getElem?_eq_getElem (show j - 1 < rows.length by omega))
          have hz := Lib.hid (List.getElem?_eq_getElem (show 0 < rows.length by omega))
          generalize rows[j] = x at *
          generalize rows[j - 1] = y at *
          generalize rows[0] = r0 at *
          subst hA
          cases hA2
          have d1 := fun z : Aft wr.heap.size wr => z.cell hB c1
          have d2 := fun z : Aft wr.heap.size wr => z.cell hB c2
          have hal := Hall.out r0 hz.out
          have ox := (hal.1 x (List.mem_of_getElem? hx.out)).2
          have oy := (hal.1 y (List.mem_of_getElem? hy.out)).2
          obtain ⟨R, hR⟩ : ∃ R, kCmp keys y x = R := ⟨_, rfl⟩
          have HK := Lib.hid (fun z : Aft wr.heap.size wr => specCompareBy_ok A2 A1 AK C2 C1 cK y x keys z.v (by have := HN.out.2; unfold maxLen; omega) (by omega) (by omega) (s2.on z.h) (s1.on z.h) (HH.out.2.on (bch hb' z.h)) (fun k hk => by have := hal.2.1 k hk; omega) R hR)
          have HR := Lib.hid hR
          clear hR s1 s2 hc1 hm1 hc2 hm2 hal ox oy
          have i1 : IntKind.i64.wrap ((j : Int) - 1) = (j : Int) - 1 := IntWalk.i64_in _ (by omega)
          have i2 : ((j : Int) - 1).toNat = j - 1 := by omega
          have i3 : (0 : Int) ≤ (j : Int) - 1 := by omega
          have i4 : (j : Int) - 1 < (rows.length : Int) := by omega
          by_cases hR0 : 0 < R
          · have hf : r = false := bfalse Hr.out fun ht => by have := (ht r0 hz.out).2.2.1 (j - 1) y x hy.out (by rw [show j - 1 + 1 = j by omega]; exact hx.out); rw [HR.out] at this; omega
            subst hf
            go_wp2
            refine wp_region_aft wr.heap.size (by kernel_rfl) (by kernel_rfl) ?_
            repeat (go_big_quiet_step ((go_at_call 46; exact Calls.aft (Nat.le_refl _) (HK.out _))))
            refine wpQuiet_nil ?_
            intro w1 hw'
            obtain ⟨⟨_, hb1⟩, rfl⟩ := hw'
            go_wp2
            go_ret
            exact ⟨rfl, bch hb' hb1⟩
          · go_wp2
            refine wp_region_aft wr.heap.size (by kernel_rfl) (by kernel_rfl) ?_
            repeat (go_big_quiet_step ((go_at_call 46; exact Calls.aft (Nat.le_refl _) (HK.out _))))
            refine wpQuiet_nil ?_
            intro w1 hw'
            obtain ⟨⟨_, hb1⟩, rfl⟩ := hw'
            go_wp2
            go_roundg (rows.length + 1 - (j + 1))
            case measure => omega
            case rel =>
              refine ⟨j + 1, by omega, by omega, rfl, by go_num, bch hb' hb1, fun i a b' hi ha hb2 => ?_⟩
              rcases Nat.lt_succ_iff_lt_or_eq.1 hi with h3 | h3
              · exact Hp.out i a b' h3 ha hb2
              · obtain rfl : i = j - 1 := by omega
                rw [hy.out] at ha; cases ha
                rw [show j - 1 + 1 = j by omega, hx.out] at hb2; cases hb2
                rw [HR.out]; omega
        · by_cases h4 : rows.length ≤ 400
          · have hf : r = true := Hr.out.2 fun r0 h0 => ⟨(Hall.out r0 h0).1, (Hall.out r0 h0).2, fun i a b' ha hb2 => Hp.out i a b' (by have := (List.getElem?_eq_some_iff.1 hb2).1; omega) ha hb2, h4⟩
            subst hf
            go_wp2
            go_ret
            exact ⟨ret_bool (by simp; omega), hb'⟩
          · have hf : r = false := bfalse Hr.out fun ht => h4 (ht _ (List.getElem?_eq_getElem (show 0 < rows.length by omega))).2.2.2
            subst hf
            go_wp2
            go_ret
            exact ⟨ret_bool (by simp; omega), hb'⟩

end Go.Proofs.Ythijkbkhgphcbaa
