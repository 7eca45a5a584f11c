/-
  FnNotInExact returns true for all bytes and leaves them as they were. No condition.
-/
import Derived.Test.YtldndapcbgaliaaRows
import Derived.OpenShut
import Derived.Deep.DeepCutAuto
import Derived.Deep.RegionHeld3
import Derived.Test.YtldndapcbgaliaaIdx
import Derived.Deep.RegionWith
import Derived.Lib.MinMax
import Derived.Test.YtldndapcbgaliaaExc
import Derived.Test.YtldndapcbgaliaaSub
import Derived.Test.YtldndapcbgaliaaSmjI
import Derived.Test.YtldndapcbgaliaaSmjN
import Derived.Test.YtldndapcbgaliaaDraN
import Derived.Test.YtldndapcbgaliaaBag
import Derived.Test.YtldndapcbgaliaaSetQ
import Derived.Test.YtldndapcbgaliaaDraT

import Derived.Test.YtldndapcbgaliaaEqL
import Derived.Test.YtldndapcbgaliaaArgB
namespace Go.Proofs.Ytldndapcbgaliaa
open Go.RowKit Go.Qo
open Go.ChangeShapes Go.WideShapes Go.ChangeAt
set_option linter.unusedVariables false
set_option linter.unusedSimpArgs false

section
variable {P : Program} {l : List Oper} {Q : Exit → Act → World → Prop} {md : Region.Mode} {S : World → Prop}
/-- 'wpAnyH_take' with the operation found in the list. -/
theorem takeL {i : Nat} {oi : Oper} {v : Value} {fuel : Nat} {listed : Array Bool} {a : Act} {w : World} (hi : l[i]? = some oi)
    (hs : Region.noSelect l.toArray = true) (hf : Region.free md l.toArray listed i = true) (hr : (Region.ready md l.toArray listed).contains i = true)
    (hQ : ∀ c a w, Q (.panic c) (a.put oi.dst v) w → Q (.panic c) a w) (hy : YieldsIf P l.toArray S oi v a) (hS : S w)
    (h : wpAnyH P md l.toArray Q S fuel (listed.setIfInBounds i true) (a.put oi.dst v) w) : wpAnyH P md l.toArray Q S (fuel + 1) listed a w :=
  wpAnyH_take (by simpa using hi) hs hf hr hQ hy hS h
theorem readyL {fuel : Nat} {listed : Array Bool} {a : Act} {w : World} {i : Nat} {o : Oper} {rs : List Nat} (ho : l[i]? = some o)
    (h : ∀ K' : Act → World → Prop, Shut (∀ a w, S w → (S w → wpAnyH P md l.toArray Q S fuel (listed.setIfInBounds i true) a w) → K' a w) → if Region.wanted o (yielded l.toArray a.tmps) = true then Oper.wp P o a w K' Q else K' (a.put o.dst undef) w)
    (hs : AllReadyH P md l.toArray Q S fuel listed a w rs) : AllReadyH P md l.toArray Q S fuel listed a w (i :: rs) := AllReadyH.cons (by simpa using ho) h hs
end

set_option maxRecDepth 20000 in
set_option maxHeartbeats 4000000 in
theorem FnNotInExact_walk (A : Option Addr) (c : Nat) (xs : List Int) (w : World) (hc : xs.length ≤ c) (hm : c ≤ maxLen) (hg : ∀ x ∈ xs, 0 ≤ x ∧ x ≤ 255) (h : Sl 1 byteC w w.heap.size A xs) :
    Calls Try.prog 5 #[.slice A xs.length c] w fun e w' => e = .returned (.bool true) ∧ Below w.heap.size w w' := by
  have HD := Lib.hid (dDrawNotIn_ok A c xs w hc hm hg h)
  have hx63 : xs.length ≤ 9223372036854775807 := by unfold maxLen at hm; omega
  clear h hg hc hm
  by_cases hx : (1048576 : Int) < xs.length
  · clear HD
    go_enter Try.func5, Try.ntmps5
    go_wp2
    go_ret
    exact ⟨rfl, Below.refl _ _⟩
  go_enter Try.func5, Try.ntmps5
  go_wp2_with fail
  refine HD.out.mono ?_
  rintro e w3 ⟨W1, v1, W2, v2, ca, cb, rfl, hja0, hja1, hjb0, hjb1, svs1, rows1, svs2, rows2, hd1, hd2, hb3⟩
  have HJ := Lib.hid (And.intro hja0 (And.intro hja1 (And.intro hjb0 hjb1)))
  clear hja0 hja1 hjb0 hjb1
  obtain ⟨A1, c1, rfl, hc11, hc12, hs1, ht1, hl1, hr1⟩ := hd1.read
  obtain ⟨A2, c2, rfl, hc21, hc22, hs2, ht2, hl2, hr2⟩ := hd2.read
  obtain ⟨q, hq⟩ : ∃ q : Bool, q = true ↔ ((TabOk W1 rows1 ∧ 0 ≤ ca ∧ ca < W1) ∧ (TabOk W2 rows2 ∧ 0 ≤ cb ∧ cb < W2)) := ⟨_, @decide_eq_true_iff _ (Classical.propDecidable _)⟩
  have HQ := Lib.hid hq
  have R1 := Lib.hid (fun (z : World) (hz : Below w3.heap.size w3 z) => show Rws z z.heap.size A1 rows1 from (sls_of' hs1 ht1).on hz)
  have R2 := Lib.hid (fun (z : World) (hz : Below w3.heap.size w3 z) => show Rws z z.heap.size A2 rows2 from (sls_of' hs2 ht2).on hz)
  have K1 := Lib.hid (fun (z : World) (hz : Below w3.heap.size w3 z) => implNotIn_ok W1 W2 A1 A2 c1 c2 rows1 rows2 ca cb z (by omega) (by omega) (R1.out z hz) (R2.out z hz) q HQ.out)
  have K2 := Lib.hid (fun (z : World) (hz : Below w3.heap.size w3 z) => specNotIn_ok W1 W2 A1 A2 c1 c2 svs1 rows1 rows2 ca cb z (by omega) (by omega) (hs1.on hz) (ht1.on hz) (R2.out z hz) q HQ.out)
  have HV : Hid (q = true → (rows1.filter (pNotIn ca.toNat cb.toNat rows2)).Perm (rows1.filter (pNotIn ca.toNat cb.toNat rows2)) ∧ ∀ r ∈ rows1.filter (pNotIn ca.toNat cb.toNat rows2), RowOk W1 r) := Lib.hid (by
    intro hq
    obtain ⟨⟨h1, _, _⟩, _⟩ := HQ.out.1 hq
    exact ⟨List.Perm.refl _, fun r hr => tabRows1 h1 r (List.mem_filter.1 hr).1⟩)
  obtain ⟨W5, hW5⟩ : ∃ z, (w3.alloc (.cells #[.int .i64 W1, .slice A1 rows1.length c1] 25)).alloc (.cells #[.int .i64 W2, .slice A2 rows2.length c2] 25) = z := ⟨_, rfl⟩
  have B5 : Below w3.heap.size w3 W5 := by rw [← hW5]; exact balloc (balloc (Below.refl _ _) _) _
  have x1 : Row W5 w3.heap.size 25 [.int .i64 W1, .slice A1 rows1.length c1] := by rw [← hW5]; exact Row.first _ _ _ _
  have x2 : Row W5 (w3.heap.size + 1) 25 [.int .i64 W2, .slice A2 rows2.length c2] := by rw [← hW5]; exact Row.second _ _ _ _
  have BX := Lib.hid (fun (z : World) (hz : Below W5.heap.size W5 z) => show (z.cell? ⟨w3.heap.size, 0, none⟩ = some (.int .i64 W1) ∧ z.cell? ⟨w3.heap.size, 1, none⟩ = some (.slice A1 rows1.length c1) ∧ z.cell? ⟨w3.heap.size + 1, 0, none⟩ = some (.int .i64 W2) ∧ z.cell? ⟨w3.heap.size + 1, 1, none⟩ = some (.slice A2 rows2.length c2))
    from ⟨(x1.on hz).cell 0, (x1.on hz).cell 1, (x2.on hz).cell 0, (x2.on hz).cell 1⟩)
  have HB3 := Lib.hid (And.intro hb3 B5)
  have HW5 := Lib.hid hW5
  have HL := Lib.hid (And.intro hl1 hl2)
  have HCA := Lib.hid (And.intro hc11 (And.intro hc12 (And.intro hc21 hc22)))
  have BL5 := Lib.hid (And.intro x1.lt x2.lt)
  have z5 := BX.out _ (Below.refl _ _)
  clear hd1 hd2 hb3 hs1 hs2 ht1 ht2 hr1 hr2 hq x1 x2 B5 hW5 hc11 hc12 hc21 hc22
  go_upto_region 4 with fail
  rw [HW5.out]
  go_wp2_with fail
  refine (K1.out _ HB3.out.2).mono ?_
  intro e w8 hex
  obtain ⟨W8, A8, c8, out, rfl, hT8, hr8, hc81, hc82, hb8⟩ := TabRes.read2 hex
  obtain ⟨W9, hW9⟩ : ∃ z, w8.alloc (.cells #[.int .i64 W8, .slice A8 out.length c8] 25) = z := ⟨_, rfl⟩
  have B9 : Below w8.heap.size w8 W9 := by rw [← hW9]; exact balloc (Below.refl _ _) _
  have x9 : Row W9 w8.heap.size 25 [.int .i64 W8, .slice A8 out.length c8] := by rw [← hW9]; exact Row.new _ _ _
  have H9 := Lib.hid (And.intro (bch hb8 B9) (And.intro x9 (hr8.on B9)))
  have HW9 := Lib.hid hW9
  have HT8 := Lib.hid hT8
  have HC8 := Lib.hid (And.intro hc81 hc82)
  clear hex hT8 hr8 hc81 hc82 hb8 hW9 B9 x9 z5
  go_upto_region 5 with fail
  rw [HW9.out]
  have z9 := BX.out _ H9.out.1
  go_wp2_with fail
  refine (K2.out _ (bch HB3.out.2 H9.out.1)).mono ?_
  intro e w10 hex
  obtain ⟨W10, A10, c10, out10, rfl, hT10, hr10, hc101, hc102, hb10⟩ := SpecTab.read2 hex
  obtain ⟨hWe, hoe⟩ := tab_same HV.out hT10 HT8.out
  subst hWe
  subst hoe
  have hol := (tabC_bd (fun hq r hr => (HV.out hq).2 r ((HV.out hq).1.mem_iff.2 hr)) HT8.out).1
  obtain ⟨W11, hW11⟩ : ∃ z, w10.alloc (.cells #[.int .i64 W8, .slice A10 out.length c10] 25) = z := ⟨_, rfl⟩
  have B11 : Below w10.heap.size w10 W11 := by rw [← hW11]; exact balloc (Below.refl _ _) _
  have x11 : Row W11 w10.heap.size 25 [.int .i64 W8, .slice A10 out.length c10] := by rw [← hW11]; exact Row.new _ _ _
  have hb911 := bch hb10 B11
  have HE := Lib.hid (equalTables_ok W8 W8 A8 A10 c8 c10 out out W11 (by unfold maxLen; omega) (by unfold maxLen; omega) (H9.out.2.2.on hb911) (hr10.on B11) true (by simp))
  have H11 := Lib.hid (And.intro hb911 (H9.out.2.1.on hb911))
  have e0 : W11.cell? ⟨w10.heap.size, 0, none⟩ = some (.int .i64 W8) := x11.cell 0
  have e1 : W11.cell? ⟨w10.heap.size, 1, none⟩ = some (.slice A10 out.length c10) := x11.cell 1
  have e2 : W11.cell? ⟨w8.heap.size, 0, none⟩ = some (.int .i64 W8) := H11.out.2.cell 0
  have e3 : W11.cell? ⟨w8.heap.size, 1, none⟩ = some (.slice A8 out.length c8) := H11.out.2.cell 1
  have HW11 := Lib.hid hW11
  have hqq : (q != q) = false := by simp
  have hqe : (q == q) = true := by simp
  have X11 := Lib.hid x11
  have HR10 := Lib.hid (hr10.on B11)
  have HOL := Lib.hid hol
  clear hex hT10 hr10 hc101 hc102 hb10 hW11 B11 x11 z9 hb911 hol
  have H3 := Lib.hid (show Below w3.heap.size w3 W11 from bch HB3.out.2 (bch H9.out.1 H11.out.1))
  have KF := Lib.hid (fun (z : World) (hz : Below W11.heap.size W11 z) => show (z.cell? ⟨w3.heap.size, 0, none⟩ = some (.int .i64 W1) ∧ z.cell? ⟨w3.heap.size, 1, none⟩ = some (.slice A1 rows1.length c1) ∧ z.cell? ⟨w3.heap.size + 1, 0, none⟩ = some (.int .i64 W2) ∧ z.cell? ⟨w3.heap.size + 1, 1, none⟩ = some (.slice A2 rows2.length c2) ∧ z.cell? ⟨w8.heap.size, 0, none⟩ = some (.int .i64 W8) ∧ z.cell? ⟨w8.heap.size, 1, none⟩ = some (.slice A8 out.length c8) ∧ z.cell? ⟨w10.heap.size, 0, none⟩ = some (.int .i64 W8) ∧ z.cell? ⟨w10.heap.size, 1, none⟩ = some (.slice A10 out.length c10))
    from have h5 := BX.out z (bch H9.out.1 (bch H11.out.1 hz)); ⟨h5.1, h5.2.1, h5.2.2.1, h5.2.2.2, (H11.out.2.on hz).cell 0, (H11.out.2.on hz).cell 1, (X11.out.on hz).cell 0, (X11.out.on hz).cell 1⟩)
  have KRT := Lib.hid (fun (z : World) (hz : Below W11.heap.size W11 z) => show Rws z z.heap.size A8 out from (H9.out.2.2.on H11.out.1).on hz)
  have KQ := Lib.hid (fun (z : World) (hz : Below W11.heap.size W11 z) => equalTables_ok W8 W8 A8 A10 c8 c10 out out z (by have := HOL.out; unfold maxLen; omega) (by have := HOL.out; unfold maxLen; omega) (KRT.out z hz) (HR10.out.on hz) true (by simp))
  have HD0 := Lib.hid (show Below W11.heap.size W11 W11.drew from (Below.refl _ _).drew)
  clear e0 e1 e2 e3
  have y0 := KF.out _ HD0.out
  cases hq1 : q
  · clear hq1
    go_upto_region 6 with fail
    rw [HW11.out]
    have d0 := fun z : Aft W11.heap.size W11 => z.cell H11.out.2.lt (KF.out _ (Below.refl _ _)).2.2.2.2.1
    have d1 := fun z : Aft W11.heap.size W11 => z.cell H11.out.2.lt (KF.out _ (Below.refl _ _)).2.2.2.2.2.1
    have d2 := fun z : Aft W11.heap.size W11 => z.cell X11.out.lt (KF.out _ (Below.refl _ _)).2.2.2.2.2.2.1
    have d3 := fun z : Aft W11.heap.size W11 => z.cell X11.out.lt (KF.out _ (Below.refl _ _)).2.2.2.2.2.2.2
    have HQ3 := Lib.hid (fun z : Aft W11.heap.size W11 => KQ.out z.v z.h)
    refine wp_region_aft W11.heap.size (by kernel_rfl) (by kernel_rfl) ?_
    repeat (go_big_quiet_step ((go_at_call 18; exact Calls.aft (Nat.le_refl _) (HQ3.out _))))
    refine wpQuiet_nil ?_
    intro w12 hw'
    obtain ⟨⟨_, hb12⟩, rfl⟩ := hw'
    have H12 := Lib.hid hb12
    have y12 := KF.out _ hb12
    clear hb12 d0 d1 d2 d3
    go_wp2_with fail
    refine (KQ.out _ H12.out).mono ?_
    rintro e w20 ⟨rfl, hb20⟩
    have H20 := Lib.hid (bch H12.out hb20)
    clear hb20
    go_wp2
    go_ret
    exact ⟨rfl, bch HB3.out.1 (bch H3.out H20.out)⟩
  · obtain ⟨⟨hT1, hca0, hca1⟩, ⟨hT2, hcb0, hcb1⟩⟩ := HQ.out.1 hq1
    have ht8 := HT8.out
    rw [hq1] at ht8
    have ⟨hTe, hTp, hTo⟩ := tabC_ok hT1 List.filter_sublist ht8
    subst hTe
    clear hq1 HT8 K1 K2 HV HQ
    have HC := Lib.hid (And.intro hca0 (And.intro hca1 (And.intro hcb0 hcb1)))
    obtain ⟨ci, rfl⟩ := Int.eq_ofNat_of_zero_le hca0
    obtain ⟨cj, rfl⟩ := Int.eq_ofNat_of_zero_le hcb0
    have HT := Lib.hid (And.intro hT1 (And.intro hT2 (And.intro hTo hTp)))
    obtain ⟨L1, hL1⟩ : ∃ L, idxOf rows1 ci = L := ⟨_, rfl⟩
    obtain ⟨L2, hL2⟩ : ∃ L, idxOf rows2 cj = L := ⟨_, rfl⟩
    have I1 := Lib.hid (fun (z : World) (hz : Below W11.heap.size W11 z) => implIndexOf_ok W8 ci A1 c1 rows1 z (by have := HT.out.1.2.2.1; omega) (R1.out z (bch H3.out hz)) true (iff_of_true rfl ⟨HT.out.1, HC.out.1, HC.out.2.1⟩))
    have I2 := Lib.hid (fun (z : World) (hz : Below W11.heap.size W11 z) => implIndexOf_ok W2 cj A2 c2 rows2 z (by have := HT.out.2.1.2.2.1; omega) (R2.out z (bch H3.out hz)) true (iff_of_true rfl ⟨HT.out.2.1, HC.out.2.2.1, HC.out.2.2.2⟩))
    simp only [if_true, Int.toNat_natCast] at I1 I2
    rw [hL1] at I1
    rw [hL2] at I2
    have HL12 := Lib.hid (And.intro hL1 hL2)
    clear hT1 hT2 hTo hTp ht8 hca0 hca1 hcb0 hcb1 hL1 hL2
    by_cases hl1 : L1.length = rows1.length
    · have hb1 : (((L1.length : Nat) : Int) != ((rows1.length : Nat) : Int)) = false := by simp [hl1]
      have HL1 := Lib.hid hl1
      clear hl1
      by_cases hl2 : L2.length = rows2.length
      · have hb2 : (((L2.length : Nat) : Int) != ((rows2.length : Nat) : Int)) = false := by simp [hl2]
        have HL2 := Lib.hid hl2
        clear hl2
        have hfe : rows1.filter (pNotIn ci cj rows2) = rows1.filter (pAnti ci cj rows2) := by
          have n1 := idxOf_full (rows := rows1) (cn := ci) (by rw [HL12.out.1]; exact HL1.out)
          have n2 := idxOf_full (rows := rows2) (cn := cj) (by rw [HL12.out.2]; exact HL2.out)
          have nn : ∀ (c : Nat) (r : Row1), (r.getD c (false, 0)).1 = false → isNl c r = false := fun c r h => by
            rw [List.getD_eq_getElem?_getD] at h
            unfold isNl
            split
            · rename_i m hm
              rw [hm] at h
              simp at h
            · rfl
          have hc0 : colNull cj rows2 = 0 := by
            unfold colNull
            rw [List.length_eq_zero_iff, List.filter_eq_nil_iff]
            intro r hr
            have h := n2 r hr
            rw [List.getD_eq_getElem?_getD] at h
            cases hq : r[cj]? with
            | none => simp
            | some v =>
              obtain ⟨b, m⟩ := v
              rw [hq] at h
              simp only [Option.getD_some] at h
              subst h
              simp
          refine List.filter_congr fun r hr => ?_
          unfold pNotIn pAnti
          rw [hc0, nn ci r (n1 r hr)]
          split
          · rename_i h0
            rw [List.eq_nil_of_length_eq_zero h0]
            unfold mt colN
            split <;> simp
          · simp
        have HFE := Lib.hid hfe
        clear hfe
        have KK14 := Lib.hid (fun (z : World) (hz : Below W11.heap.size W11 z) => implAntiJoin_ok W8 W2 A1 A2 c1 c2 rows1 rows2 ci cj z (by have := HT.out.1.2.2.1; omega) (by have := HT.out.2.1.2.2.1; omega) (R1.out z (bch H3.out hz)) (R2.out z (bch H3.out hz)) true (iff_of_true rfl ⟨⟨HT.out.1, HC.out.1, HC.out.2.1⟩, ⟨HT.out.2.1, HC.out.2.2.1, HC.out.2.2.2⟩⟩))
        go_upto_region 6 with fail
        rw [HW11.out]
        go_region_held3 (fun z => z.cell? ⟨w3.heap.size, 0, none⟩ = some (.int .i64 W8) ∧ z.cell? ⟨w3.heap.size, 1, none⟩ = some (.slice A1 rows1.length c1) ∧ z.cell? ⟨w3.heap.size + 1, 0, none⟩ = some (.int .i64 W2) ∧ z.cell? ⟨w3.heap.size + 1, 1, none⟩ = some (.slice A2 rows2.length c2) ∧ z.cell? ⟨w8.heap.size, 0, none⟩ = some (.int .i64 W8) ∧ z.cell? ⟨w8.heap.size, 1, none⟩ = some (.slice A8 out.length c8) ∧ z.cell? ⟨w10.heap.size, 0, none⟩ = some (.int .i64 W8) ∧ z.cell? ⟨w10.heap.size, 1, none⟩ = some (.slice A10 out.length c10))
          (first | assumption | exact KF.out _ HD0.out | exact KF.out _ H12.out | exact KF.out _ H13.out | exact KF.out _ H14.out)
          (first
            | (go_at_call 18; refine (KQ.out _ HD0.out).mono ?_; rintro e w12 ⟨rfl, hb12⟩; have H12 := Lib.hid (bch HD0.out hb12); have y12 := KF.out _ H12.out; clear hb12)
            | (go_at_call_of 24 (Value.agg #[.int .i64 W8, .slice A1 rows1.length c1]); refine (I1.out _ H12.out).mono ?_; rintro e w13 ⟨v13, rfl, how13, hb13⟩; obtain ⟨A13, d13, rfl, _, _, _⟩ := how13.shape intC_length; have H13 := Lib.hid (bch H12.out hb13); have y13 := KF.out _ H13.out; clear hb13 how13)
            | (go_at_call_of 24 (Value.agg #[.int .i64 W2, .slice A2 rows2.length c2]); refine (I2.out _ H13.out).mono ?_; rintro e w14 ⟨v14, rfl, how14, hb14⟩; obtain ⟨A14, d14, rfl, _, _, _⟩ := how14.shape intC_length; have H14 := Lib.hid (bch H13.out hb14); have y14 := KF.out _ H14.out; clear hb14 how14))
        all_goals (
          go_wp2_with fail
          refine (KK14.out _ H14.out).mono ?_
          intro e w15 hex
          obtain ⟨W15, A15, c15, out15, rfl, hT15, hr15, hc151, hc152, hb15⟩ := TabRes.read2 hex
          obtain ⟨rfl, hp15, ho15⟩ := tabC_ok HT.out.1 List.filter_sublist hT15
          have hoe : out15 = out := srt_unique (W := W15) (fun r hr => tabRows1 ho15 r hr) (hp15.trans (by
            have h1 := HT.out.2.2.2.symm
            have h2 := HFE.out
            simp only [Int.toNat_natCast] at h1 h2 ⊢
            rw [← h2]; exact h1)) ho15.srt.2 HT.out.2.2.1.srt.2
          subst hoe
          obtain ⟨V15, hV15⟩ : ∃ z, w15.alloc (.cells #[.int .i64 W15, .slice A15 out15.length c15] 25) = z := ⟨_, rfl⟩
          have hv15 : Below w15.heap.size w15 V15 := by rw [← hV15]; exact balloc (Below.refl _ _) _
          have xv15 : Row V15 w15.heap.size 25 [.int .i64 W15, .slice A15 out15.length c15] := by rw [← hV15]; exact Row.new _ _ _
          have H15 := Lib.hid (bch H14.out (bch hb15 hv15))
          have g0 : V15.cell? ⟨w15.heap.size, 0, none⟩ = some (.int .i64 W15) := xv15.cell 0
          have g1 : V15.cell? ⟨w15.heap.size, 1, none⟩ = some (.slice A15 out15.length c15) := xv15.cell 1
          have HV15 := Lib.hid hV15
          have HE := Lib.hid (equalTables_ok W15 W15 A8 A15 c8 c15 out15 out15 V15 (by have := HOL.out; unfold maxLen; omega) (by have := HOL.out; unfold maxLen; omega) (KRT.out _ H15.out) (hr15.on hv15) true (by simp))
          clear hex hT15 hr15 hc151 hc152 hb15 hV15 hv15 xv15 hp15 ho15
          have y15 := KF.out _ H15.out
          go_upto_region 9 with fail
          rw [HV15.out]
          go_wp2_with fail
          refine HE.out.mono ?_
          rintro e w20 ⟨rfl, hb20⟩
          have H20 := Lib.hid (bch H15.out hb20)
          clear hb20
          go_wp2
          go_ret
          exact ⟨rfl, bch HB3.out.1 (bch H3.out H20.out)⟩)
      · have hb2 : (((L2.length : Nat) : Int) != ((rows2.length : Nat) : Int)) = true := by simp; omega
        clear hl2
        go_upto_region 6 with fail
        rw [HW11.out]
        go_region_held3 (fun z => z.cell? ⟨w3.heap.size, 0, none⟩ = some (.int .i64 W8) ∧ z.cell? ⟨w3.heap.size, 1, none⟩ = some (.slice A1 rows1.length c1) ∧ z.cell? ⟨w3.heap.size + 1, 0, none⟩ = some (.int .i64 W2) ∧ z.cell? ⟨w3.heap.size + 1, 1, none⟩ = some (.slice A2 rows2.length c2) ∧ z.cell? ⟨w8.heap.size, 0, none⟩ = some (.int .i64 W8) ∧ z.cell? ⟨w8.heap.size, 1, none⟩ = some (.slice A8 out.length c8) ∧ z.cell? ⟨w10.heap.size, 0, none⟩ = some (.int .i64 W8) ∧ z.cell? ⟨w10.heap.size, 1, none⟩ = some (.slice A10 out.length c10))
          (first | assumption | exact KF.out _ HD0.out | exact KF.out _ H12.out | exact KF.out _ H13.out | exact KF.out _ H14.out)
          (first
            | (go_at_call 18; refine (KQ.out _ HD0.out).mono ?_; rintro e w12 ⟨rfl, hb12⟩; have H12 := Lib.hid (bch HD0.out hb12); have y12 := KF.out _ H12.out; clear hb12)
            | (go_at_call_of 24 (Value.agg #[.int .i64 W8, .slice A1 rows1.length c1]); refine (I1.out _ H12.out).mono ?_; rintro e w13 ⟨v13, rfl, how13, hb13⟩; obtain ⟨A13, d13, rfl, _, _, _⟩ := how13.shape intC_length; have H13 := Lib.hid (bch H12.out hb13); have y13 := KF.out _ H13.out; clear hb13 how13)
            | (go_at_call_of 24 (Value.agg #[.int .i64 W2, .slice A2 rows2.length c2]); refine (I2.out _ H13.out).mono ?_; rintro e w14 ⟨v14, rfl, how14, hb14⟩; obtain ⟨A14, d14, rfl, _, _, _⟩ := how14.shape intC_length; have H14 := Lib.hid (bch H13.out hb14); have y14 := KF.out _ H14.out; clear hb14 how14))
        all_goals (
          go_wp2_with fail
          refine (KQ.out _ H14.out).mono ?_
          rintro e w20 ⟨rfl, hb20⟩
          have H20 := Lib.hid (bch H14.out hb20)
          clear hb20
          go_wp2
          go_ret
          exact ⟨rfl, bch HB3.out.1 (bch H3.out H20.out)⟩)
    · have hb1 : (((L1.length : Nat) : Int) != ((rows1.length : Nat) : Int)) = true := by simp; omega
      clear hl1
      go_upto_region 6 with fail
      rw [HW11.out]
      refine wp_region_held_drew (S := (fun z => z.cell? ⟨w3.heap.size, 0, none⟩ = some (.int .i64 W8) ∧ z.cell? ⟨w3.heap.size, 1, none⟩ = some (.slice A1 rows1.length c1) ∧ z.cell? ⟨w3.heap.size + 1, 0, none⟩ = some (.int .i64 W2) ∧ z.cell? ⟨w3.heap.size + 1, 1, none⟩ = some (.slice A2 rows2.length c2) ∧ z.cell? ⟨w8.heap.size, 0, none⟩ = some (.int .i64 W8) ∧ z.cell? ⟨w8.heap.size, 1, none⟩ = some (.slice A8 out.length c8) ∧ z.cell? ⟨w10.heap.size, 0, none⟩ = some (.int .i64 W8) ∧ z.cell? ⟨w10.heap.size, 1, none⟩ = some (.slice A10 out.length c10))) (by kernel_rfl) ?_ (fun hHeld => ?_)
      · exact KF.out _ HD0.out
      refine takeL (i := 0) (v := ?v0) rfl (by kernel_rfl) (by kernel_rfl) (by kernel_rfl) (fun _ _ _ h => h) (Or.inl ⟨by rfl, ?hy0⟩) (by assumption) ?_
      case hy0 => ((intro w' hSw; (try dsimp only at hSw); go_simp) <;> with_reducible rfl)
      try simp only [Act.put, List.setIfInBounds_toArray, List.set_cons_zero, List.set_cons_succ]
      refine takeL (i := 1) (v := ?v1) rfl (by kernel_rfl) (by kernel_rfl) (by kernel_rfl) (fun _ _ _ h => h) (Or.inl ⟨by rfl, ?hy1⟩) (by assumption) ?_
      case hy1 => ((intro w' hSw; (try dsimp only at hSw); go_simp) <;> with_reducible rfl)
      try simp only [Act.put, List.setIfInBounds_toArray, List.set_cons_zero, List.set_cons_succ]
      refine takeL (i := 2) (v := ?v2) rfl (by kernel_rfl) (by kernel_rfl) (by kernel_rfl) (fun _ _ _ h => h) (Or.inl ⟨by rfl, ?hy2⟩) (by assumption) ?_
      case hy2 => ((intro w' hSw; (try dsimp only at hSw); go_simp) <;> with_reducible rfl)
      try simp only [Act.put, List.setIfInBounds_toArray, List.set_cons_zero, List.set_cons_succ]
      refine takeL (i := 3) (v := ?v3) rfl (by kernel_rfl) (by kernel_rfl) (by kernel_rfl) (fun _ _ _ h => h) (Or.inl ⟨by rfl, ?hy3⟩) (by assumption) ?_
      case hy3 => ((intro w' hSw; (try dsimp only at hSw); go_simp) <;> with_reducible rfl)
      try simp only [Act.put, List.setIfInBounds_toArray, List.set_cons_zero, List.set_cons_succ]
      refine takeL (i := 4) (v := ?v4) rfl (by kernel_rfl) (by kernel_rfl) (by kernel_rfl) (fun _ _ _ h => h) (Or.inl ⟨by rfl, ?hy4⟩) (by assumption) ?_
      case hy4 => ((intro w' hSw; (try dsimp only at hSw); go_simp) <;> with_reducible rfl)
      try simp only [Act.put, List.setIfInBounds_toArray, List.set_cons_zero, List.set_cons_succ]
      refine takeL (i := 5) (v := ?v5) rfl (by kernel_rfl) (by kernel_rfl) (by kernel_rfl) (fun _ _ _ h => h) (Or.inl ⟨by rfl, ?hy5⟩) (by assumption) ?_
      case hy5 => ((intro w' hSw; (try dsimp only at hSw); go_simp) <;> with_reducible rfl)
      try simp only [Act.put, List.setIfInBounds_toArray, List.set_cons_zero, List.set_cons_succ]
      refine wpAnyH_ready (rs := [6]) (by kernel_rfl) (by simp) ?_
      refine readyL rfl (fun K hK => ?_) AllReadyH.nil
      go_simp; go_at_call 18; refine (KQ.out _ HD0.out).mono ?_; rintro e w12 ⟨rfl, hb12⟩; have H12 := Lib.hid (bch HD0.out hb12); have y12 := KF.out _ H12.out; clear hb12
      refine hK.out _ _ ?hS6 (fun hHeld => ?_)
      case hS6 => exact KF.out _ H12.out
      clear hK K
      try simp only [Act.put, List.setIfInBounds_toArray, List.set_cons_zero, List.set_cons_succ]
      refine takeL (i := 7) (v := ?v7) rfl (by kernel_rfl) (by kernel_rfl) (by kernel_rfl) (fun _ _ _ h => h) (Or.inl ⟨by rfl, ?hy7⟩) (by assumption) ?_
      case hy7 => ((intro w' hSw; (try dsimp only at hSw); go_simp) <;> with_reducible rfl)
      try simp only [Act.put, List.setIfInBounds_toArray, List.set_cons_zero, List.set_cons_succ]
      refine takeL (i := 8) (v := ?v8) rfl (by kernel_rfl) (by kernel_rfl) (by kernel_rfl) (fun _ _ _ h => h) (Or.inl ⟨by rfl, ?hy8⟩) (by assumption) ?_
      case hy8 => ((intro w' hSw; (try dsimp only at hSw); go_simp) <;> with_reducible rfl)
      try simp only [Act.put, List.setIfInBounds_toArray, List.set_cons_zero, List.set_cons_succ]
      refine takeL (i := 9) (v := ?v9) rfl (by kernel_rfl) (by kernel_rfl) (by kernel_rfl) (fun _ _ _ h => h) (Or.inl ⟨by rfl, ?hy9⟩) (by assumption) ?_
      case hy9 => ((intro w' hSw; (try dsimp only at hSw); go_simp) <;> with_reducible rfl)
      try simp only [Act.put, List.setIfInBounds_toArray, List.set_cons_zero, List.set_cons_succ]
      refine takeL (i := 10) (v := ?v10) rfl (by kernel_rfl) (by kernel_rfl) (by kernel_rfl) (fun _ _ _ h => h) (Or.inl ⟨by rfl, ?hy10⟩) (by assumption) ?_
      case hy10 => ((intro w' hSw; (try dsimp only at hSw); go_simp) <;> with_reducible rfl)
      try simp only [Act.put, List.setIfInBounds_toArray, List.set_cons_zero, List.set_cons_succ]
      refine takeL (i := 11) (v := ?v11) rfl (by kernel_rfl) (by kernel_rfl) (by kernel_rfl) (fun _ _ _ h => h) (Or.inl ⟨by rfl, ?hy11⟩) (by assumption) ?_
      case hy11 => ((intro w' hSw; (try dsimp only at hSw); go_simp) <;> with_reducible rfl)
      try simp only [Act.put, List.setIfInBounds_toArray, List.set_cons_zero, List.set_cons_succ]
      refine takeL (i := 12) (v := ?v12) rfl (by kernel_rfl) (by kernel_rfl) (by kernel_rfl) (fun _ _ _ h => h) (Or.inl ⟨by rfl, ?hy12⟩) (by assumption) ?_
      case hy12 => ((intro w' hSw; (try dsimp only at hSw); go_simp) <;> with_reducible rfl)
      try simp only [Act.put, List.setIfInBounds_toArray, List.set_cons_zero, List.set_cons_succ]
      refine takeL (i := 13) (v := ?v13) rfl (by kernel_rfl) (by kernel_rfl) (by kernel_rfl) (fun _ _ _ h => h) (Or.inl ⟨by rfl, ?hy13⟩) (by assumption) ?_
      case hy13 => ((intro w' hSw; (try dsimp only at hSw); go_simp) <;> with_reducible rfl)
      try simp only [Act.put, List.setIfInBounds_toArray, List.set_cons_zero, List.set_cons_succ]
      refine takeL (i := 14) (v := ?v14) rfl (by kernel_rfl) (by kernel_rfl) (by kernel_rfl) (fun _ _ _ h => h) (Or.inl ⟨by rfl, ?hy14⟩) (by assumption) ?_
      case hy14 => ((intro w' hSw; (try dsimp only at hSw); go_simp) <;> with_reducible rfl)
      try simp only [Act.put, List.setIfInBounds_toArray, List.set_cons_zero, List.set_cons_succ]
      refine takeL (i := 15) (v := ?v15) rfl (by kernel_rfl) (by kernel_rfl) (by kernel_rfl) (fun _ _ _ h => h) (Or.inl ⟨by rfl, ?hy15⟩) (by assumption) ?_
      case hy15 => ((intro w' hSw; (try dsimp only at hSw); go_simp) <;> with_reducible rfl)
      try simp only [Act.put, List.setIfInBounds_toArray, List.set_cons_zero, List.set_cons_succ]
      refine takeL (i := 18) (v := ?v18) rfl (by kernel_rfl) (by kernel_rfl) (by kernel_rfl) (fun _ _ _ h => h) (Or.inl ⟨by rfl, ?hy18⟩) (by assumption) ?_
      case hy18 => ((intro w' hSw; (try dsimp only at hSw); go_simp) <;> with_reducible rfl)
      try simp only [Act.put, List.setIfInBounds_toArray, List.set_cons_zero, List.set_cons_succ]
      refine takeL (i := 19) (v := ?v19) rfl (by kernel_rfl) (by kernel_rfl) (by kernel_rfl) (fun _ _ _ h => h) (Or.inl ⟨by rfl, ?hy19⟩) (by assumption) ?_
      case hy19 => ((intro w' hSw; (try dsimp only at hSw); go_simp) <;> with_reducible rfl)
      try simp only [Act.put, List.setIfInBounds_toArray, List.set_cons_zero, List.set_cons_succ]
      refine takeL (i := 20) (v := ?v20) rfl (by kernel_rfl) (by kernel_rfl) (by kernel_rfl) (fun _ _ _ h => h) (Or.inl ⟨by rfl, ?hy20⟩) (by assumption) ?_
      case hy20 => ((intro w' hSw; (try dsimp only at hSw); go_simp) <;> with_reducible rfl)
      try simp only [Act.put, List.setIfInBounds_toArray, List.set_cons_zero, List.set_cons_succ]
      refine wpAnyH_ready (rs := [16]) (by kernel_rfl) (by simp) ?_
      refine readyL rfl (fun K hK => ?_) AllReadyH.nil
      go_simp; go_at_call 24; refine (I1.out _ H12.out).mono ?_; rintro e w13 ⟨v13, rfl, how13, hb13⟩; obtain ⟨A13, d13, rfl, _, _, _⟩ := how13.shape intC_length; have H13 := Lib.hid (bch H12.out hb13); have y13 := KF.out _ H13.out; clear hb13 how13
      refine hK.out _ _ ?hS16 (fun hHeld => ?_)
      case hS16 => exact KF.out _ H13.out
      clear hK K
      try simp only [Act.put, List.setIfInBounds_toArray, List.set_cons_zero, List.set_cons_succ]
      refine takeL (i := 17) (v := ?v17) rfl (by kernel_rfl) (by kernel_rfl) (by kernel_rfl) (fun _ _ _ h => h) (Or.inl ⟨by rfl, ?hy17⟩) (by assumption) ?_
      case hy17 => ((intro w' hSw; (try dsimp only at hSw); go_simp) <;> with_reducible rfl)
      try simp only [Act.put, List.setIfInBounds_toArray, List.set_cons_zero, List.set_cons_succ]
      refine takeL (i := 21) (v := ?v21) rfl (by kernel_rfl) (by kernel_rfl) (by kernel_rfl) (fun _ _ _ h => h) (Or.inl ⟨by rfl, ?hy21⟩) (by assumption) ?_
      case hy21 => ((intro w' hSw; (try dsimp only at hSw); go_simp) <;> with_reducible rfl)
      try simp only [Act.put, List.setIfInBounds_toArray, List.set_cons_zero, List.set_cons_succ]
      refine takeL (i := 22) (v := ?v22) rfl (by kernel_rfl) (by kernel_rfl) (by kernel_rfl) (fun _ _ _ h => h) (Or.inl ⟨by rfl, ?hy22⟩) (by assumption) ?_
      case hy22 => ((intro w' hSw; (try dsimp only at hSw); go_simp) <;> with_reducible rfl)
      try simp only [Act.put, List.setIfInBounds_toArray, List.set_cons_zero, List.set_cons_succ]
      refine takeL (i := 23) (v := ?v23) rfl (by kernel_rfl) (by kernel_rfl) (by kernel_rfl) (fun _ _ _ h => h) (Or.inl ⟨by rfl, ?hy23⟩) (by assumption) ?_
      case hy23 => ((intro w' hSw; (try dsimp only at hSw); go_simp) <;> with_reducible rfl)
      try simp only [Act.put, List.setIfInBounds_toArray, List.set_cons_zero, List.set_cons_succ]
      refine takeL (i := 24) (v := undef) rfl (by kernel_rfl) (by kernel_rfl) (by kernel_rfl) (fun _ _ _ h => h) (Or.inr ⟨by rfl, rfl⟩) (by assumption) ?_
      try simp only [Act.put, List.setIfInBounds_toArray, List.set_cons_zero, List.set_cons_succ]
      refine takeL (i := 25) (v := undef) rfl (by kernel_rfl) (by kernel_rfl) (by kernel_rfl) (fun _ _ _ h => h) (Or.inr ⟨by rfl, rfl⟩) (by assumption) ?_
      try simp only [Act.put, List.setIfInBounds_toArray, List.set_cons_zero, List.set_cons_succ]
      refine takeL (i := 26) (v := undef) rfl (by kernel_rfl) (by kernel_rfl) (by kernel_rfl) (fun _ _ _ h => h) (Or.inr ⟨by rfl, rfl⟩) (by assumption) ?_
      try simp only [Act.put, List.setIfInBounds_toArray, List.set_cons_zero, List.set_cons_succ]
      refine takeL (i := 27) (v := undef) rfl (by kernel_rfl) (by kernel_rfl) (by kernel_rfl) (fun _ _ _ h => h) (Or.inr ⟨by rfl, rfl⟩) (by assumption) ?_
      try simp only [Act.put, List.setIfInBounds_toArray, List.set_cons_zero, List.set_cons_succ]
      refine takeL (i := 28) (v := undef) rfl (by kernel_rfl) (by kernel_rfl) (by kernel_rfl) (fun _ _ _ h => h) (Or.inr ⟨by rfl, rfl⟩) (by assumption) ?_
      try simp only [Act.put, List.setIfInBounds_toArray, List.set_cons_zero, List.set_cons_succ]
      refine takeL (i := 29) (v := undef) rfl (by kernel_rfl) (by kernel_rfl) (by kernel_rfl) (fun _ _ _ h => h) (Or.inr ⟨by rfl, rfl⟩) (by assumption) ?_
      try simp only [Act.put, List.setIfInBounds_toArray, List.set_cons_zero, List.set_cons_succ]
      refine takeL (i := 30) (v := undef) rfl (by kernel_rfl) (by kernel_rfl) (by kernel_rfl) (fun _ _ _ h => h) (Or.inr ⟨by rfl, rfl⟩) (by assumption) ?_
      try simp only [Act.put, List.setIfInBounds_toArray, List.set_cons_zero, List.set_cons_succ]
      refine takeL (i := 31) (v := undef) rfl (by kernel_rfl) (by kernel_rfl) (by kernel_rfl) (fun _ _ _ h => h) (Or.inr ⟨by rfl, rfl⟩) (by assumption) ?_
      try simp only [Act.put, List.setIfInBounds_toArray, List.set_cons_zero, List.set_cons_succ]
      refine takeL (i := 32) (v := ?v32) rfl (by kernel_rfl) (by kernel_rfl) (by kernel_rfl) (fun _ _ _ h => h) (Or.inl ⟨by rfl, ?hy32⟩) (by assumption) ?_
      case hy32 => ((intro w' hSw; (try dsimp only at hSw); go_simp) <;> with_reducible rfl)
      try simp only [Act.put, List.setIfInBounds_toArray, List.set_cons_zero, List.set_cons_succ]
      refine wpAnyH_done (by kernel_rfl) ?_ _
      go_wp2_with fail
      refine (KQ.out _ H13.out).mono ?_
      rintro e w20 ⟨rfl, hb20⟩
      have H20 := Lib.hid (bch H13.out hb20)
      clear hb20
      go_wp2
      go_ret
      exact ⟨rfl, bch HB3.out.1 (bch H3.out H20.out)⟩

namespace lawFnNotInExact
theorem own : ownKnob Try.prog.godebug = none := by kernel_rfl
theorem laidOut : laidOutB Try.prog = true := by kernel_rfl

set_option maxRecDepth 100000 in
theorem lifted (os : Os) (started : os.Started) (H : Type) (enc : TypeId × Value → H) :
    ReturnsInHanded {} Try.checked os 5 .any (Rows.fnNotInExactSpec.pre6 enc Try.prog Try.f5 Rows.fnNotInExactRow.domain false) (Rows.fnNotInExactSpec.post enc Try.prog Try.f5 false true false false) := by
  refine returnsInHanded_of_change (C := Try.checked) own started (by kernel_rfl) Try.func5
    (ChangeSpec.witness6 (enc := enc) (C := Try.checked) false ⟨#[], #[.slice none 0 0], []⟩ 8 (by kernel_rfl) (by kernel_rfl) (by kernel_rfl) (by kernel_rfl)) ?_
  intro W base args ds gs before hval0 hW hcnd _
  have hval : ∀ (j : Nat) t v, Try.f5.params[j]? = some t → args[j]? = some v → Value.okWide Try.prog W .any base t v := hval0
  have hW' := hW
  obtain ⟨p, q, hA0, hV, rfl, hfz, hnd⟩ := hW
  have hA : DataW.TrodAll enc Try.prog W 0 (fun _ => true) true Try.f5.params.toList args.toList ds p := hA0
  rw [Try.params5] at hA hval
  obtain ⟨v0, vs0, d0, ds0, p0, q0, hargs, rfl, rfl, h0, r0⟩ := trodAll_cons hA
  obtain ⟨rfl, rfl, rfl⟩ := trodAll_nil r0
  obtain rfl : args = #[v0] := by cases args; simp_all
  obtain ⟨rfl, rfl⟩ := trodVars_none hV
  obtain ⟨a0, len0, c0, rfl⟩ := okWide_slice Try.underlying22 (hval 0 22 v0 rfl rfl)
  have k0 := h0
  have lt0 : ∀ x ∈ p0, x.block < W.heap.size := by obtain ⟨m, hm⟩ := k0; exact DataW.trod_lt m _ _ _ hm
  obtain ⟨f0, h0⟩ := h0
  obtain ⟨xs0, rfl, hc0, hm0, g0, s0⟩ := open_sl (sz := 1) (ec := byteC) Try.underlying22 (by kernel_rfl) (by omega) byteC_length (el_byte Try.underlying5) h0
  clear hA0 hval0
  refine (FnNotInExact_walk a0 c0 xs0 W hc0 hm0 g0 s0).mono fun e W' ⟨he, bel⟩ => ?_
  subst he
  exact ⟨_, rfl, _, _, _, [], _, [], hW', trodAll_mk1 (shut_bool Try.underlying4 _), (trodAll_cons_mk (Below.trod laidOut (by kernel_rfl) (of_decide_eq_true (by kernel_rfl)) k0 bel lt0) trodAll_mk0), rfl, bel.frame _, fun h => by cases h⟩

theorem over : Rows.fnNotInExactRow.holds Try.pinned (OpenSpec.ofChange Rows.fnNotInExactSpec) :=
  OpenClaim.holds_of_wide 5 Try.f5 rfl rfl rfl rfl rfl rfl rfl ⟨rfl, rfl, rfl, rfl, rfl⟩ rfl rfl rfl rfl rfl (by kernel_rfl) Try.func5 (by kernel_rfl)
    (of_decide_eq_true (by kernel_rfl)) (by unfold Func.isWrapper; first | (rw [if_pos (by decide +kernel)]; kernel_rfl) | (rw [if_neg (by decide +kernel)]; exact ⟨rfl, rfl⟩))
    (fun os started H enc _ => lifted os started H enc)

theorem proved : Rows.FnNotInExactSaid := over
end lawFnNotInExact
#print axioms lawFnNotInExact.proved

end Go.Proofs.Ytldndapcbgaliaa
