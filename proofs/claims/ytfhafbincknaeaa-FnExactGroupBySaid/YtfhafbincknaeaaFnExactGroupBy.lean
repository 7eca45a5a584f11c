/-
  FnExactGroupBy returns true for all arguments and leaves them as they were. No condition.
-/
import Derived.Test.YtfhafbincknaeaaRows
import Derived.OpenShut
import Derived.Deep.RegionHeld3
import Derived.Deep.DeepCutAuto
import Derived.Test.YtfhafbincknaeaaGrb
import Derived.Test.YtfhafbincknaeaaTis
import Derived.Test.YtfhafbincknaeaaTwo
import Derived.Test.YtfhafbincknaeaaArg
import Derived.Test.YtfhafbincknaeaaArgT
import Derived.Test.YtfhafbincknaeaaArgB
namespace Go.Proofs.Ytfhafbincknaeaa
open Go.RowKit Go.Qo
open Go.ChangeShapes Go.WideShapes Go.ChangeAt
set_option linter.unusedVariables false
set_option linter.unusedSimpArgs false

set_option maxRecDepth 20000 in
set_option maxHeartbeats 4000000 in
theorem FnExactGroupBy_walk (W : Int) (A : Option Addr) (c : Nat) (xs : List Row1) (A' : Option Addr) (c' : Nat) (ys : List Int) (kd cl : Int) (w : World) (hn : xs.length ≤ maxLen) (h : Rws w w.heap.size A xs) (hc' : ys.length ≤ c') (hm' : c' ≤ maxLen) (hg' : ∀ y ∈ ys, (Lit.int .i64 y).wf = true) (h' : Sl 1 intC w w.heap.size A' ys) (wfk : (Lit.int .i64 kd).wf = true) (wfc : (Lit.int .i64 cl).wf = true) :
    Calls Try.prog 3 #[.agg #[.int .i64 W, .slice A xs.length c], .slice A' ys.length c', .int .i64 kd, .int .i64 cl] w fun e w' => e = .returned (.bool true) ∧ Below w.heap.size w w' := by
  have hn' : ys.length ≤ maxLen := Nat.le_trans hc' hm'
  clear wfk wfc hg'
  obtain ⟨W2, hW2⟩ : ∃ W2, w.alloc (.cells #[.int .i64 W, .slice A xs.length c] 24) = W2 := ⟨_, rfl⟩
  have HWE := Lib.hid hW2
  have hB2 : Below w.heap.size w W2 := by rw [← hW2]; exact balloc (Below.refl _ _) _
  have hRa : Row W2 w.heap.size 24 [.int .i64 W, .slice A xs.length c] := by rw [← hW2]; exact Row.new _ _ _
  have HW := Lib.hid (And.intro hB2 hRa)
  have BX := Lib.hid (fun (z : World) (hz : Below W2.heap.size W2 z) => show (z.cell? ⟨w.heap.size, 0, none⟩ = some (.int .i64 W) ∧ z.cell? ⟨w.heap.size, 1, none⟩ = some (.slice A xs.length c))
    from ⟨(HW.out.2.on hz).cell 0, (HW.out.2.on hz).cell 1⟩)
  clear hB2 hRa hW2
  by_cases hy : 1048576 < ys.length
  · clear h h' hc' hm'
    go_enter Try.func3, Try.ntmps3
    go_upto_region 1 with fail
    rw [HWE.out]
    go_wp2
    go_ret
    exact ⟨rfl, HW.out.1⟩
  · have hy : ys.length ≤ 1048576 := by omega
    clear hc' hm'
    obtain ⟨l, hl⟩ : ∃ l, szR 1048576 xs = l := ⟨_, rfl⟩
    have K1 := Lib.hid (fun (z : World) (hz : Below w.heap.size w z) => szTable_ok W A c xs 1048576 z hn (by omega) (by omega) (h.on hz) l hl)
    have hr1 := szR_range xs 1048576 (by omega)
    rw [hl] at hr1
    have Hr1 := Lib.hid hr1
    clear hr1 hl
    have x2 := BX.out _ (Below.refl _ _)
    rcases Hr1.out with rfl | ⟨hl0, hl1, hx1, hx2⟩
    · clear h h'
      go_enter Try.func3, Try.ntmps3
      go_upto_region 1 with fail
      rw [HWE.out]
      go_wp2_with fail
      refine (K1.out _ HW.out.1).mono ?_; rintro e w1 ⟨rfl, hb1⟩
      have H1 := Lib.hid (bch HW.out.1 hb1)
      clear hb1 x2
      go_wp2
      go_ret
      exact ⟨rfl, H1.out⟩
    · have HX := Lib.hid (show xs.length ≤ 1048576 ∧ ys.length ≤ 1048576 ∧ (∀ r ∈ xs, r.length ≤ 1048576) from
        ⟨by omega, by omega, fun r hr => by have := hx2 r hr; omega⟩)
      have HM := Lib.hid (fun r (hr : r ∈ xs) => show r.length ≤ maxLen by have := HX.out.2.2 r hr; unfold maxLen; omega)
      have Hn := Lib.hid (And.intro hn hn')
      obtain ⟨q, hq⟩ := bool_ofG (P := GbOk W xs ys kd cl)
      have Hq := Lib.hid hq
      clear hq
      obtain ⟨rs, hrs⟩ : ∃ rs, grpRows ys cl kd xs = rs := ⟨_, rfl⟩
      have HV : Hid (q = true → rs.Perm rs ∧ ∀ r ∈ rs, RowOk ((ys.length : Int) + 1) r) := Lib.hid (fun hq => by
        rw [← hrs]
        obtain ⟨h1, h2, h3, h4, h5⟩ := Hq.out.1 hq
        refine ⟨List.Perm.refl _, fun r hr => ?_⟩
        obtain ⟨k, hk, rfl⟩ := List.mem_map.1 hr
        exact grpRow_ok (tabRows1 h1) (colsOk_mem h2) h4 h3 hk)
      have SP := Lib.hid (fun (z : World) (B3 b3 : Nat) (bs3 : List Nat) (b4 : Nat) (h3 : OwnRs valC 42 44 z B3 b3 bs3 xs []) (h4 : Row z b4 3 (ys.flatMap intC)) => show
          Calls Try.prog 6 #[.agg #[.int .i64 W, .slice (some ⟨b3, 0, none⟩) xs.length xs.length], .slice (some ⟨b4, 0, none⟩) ys.length ys.length, .int .i64 kd, .int .i64 cl] z (SpecTab q ((ys.length : Int) + 1) rs z) from by
        rw [← hrs]
        exact specGroupBy_ok W _ _ _ _ xs ys kd cl z HX.out.1 HX.out.2.1 (h3.svs (by omega) valC_length HM.out) (Row.sl' intC_length h4) q Hq.out)
      have IP := Lib.hid (fun (z : World) (B3 b3 : Nat) (bs3 : List Nat) (b4 : Nat) (h3 : OwnRs valC 42 44 z B3 b3 bs3 xs []) (h4 : Row z b4 3 (ys.flatMap intC)) => show
          Calls Try.prog 9 #[.agg #[.int .i64 W, .slice (some ⟨b3, 0, none⟩) xs.length xs.length], .slice (some ⟨b4, 0, none⟩) ys.length ys.length, .int .i64 kd, .int .i64 cl] z (TabRes q ((ys.length : Int) + 1) rs z) from by
        rw [← hrs]
        exact implGroupBy_ok W _ _ _ _ xs ys kd cl z HX.out.1 HX.out.2.1 (h3.svs (by omega) valC_length HM.out) (Row.sl' intC_length h4) q Hq.out)
      have T1 := Lib.hid (fun (z : World) (hz : Below W2.heap.size W2 z) => toTable_ok W A c xs z HX.out.1 HX.out.2.2 (h.on (bch HW.out.1 hz)))
      have T2 := Lib.hid (fun (z : World) (hz : Below W2.heap.size W2 z) => toIntS_ok A' c' ys z HX.out.2.1 (h'.on (bch HW.out.1 hz)))
      obtain ⟨V, hV⟩ : ∃ V : Int, (ys.length : Int) + 1 = V := ⟨_, rfl⟩
      rw [hV] at HV SP IP
      clear h h' hn hn' hrs hV
      go_enter Try.func3, Try.ntmps3
      go_upto_region 1 with fail
      rw [HWE.out]
      go_wp2_with fail
      refine (K1.out _ HW.out.1).mono ?_; rintro e w2 ⟨rfl, hb1⟩
      have x3 := BX.out _ hb1
      have H2 := Lib.hid hb1
      clear hb1 x2
      go_wp2_with fail
      refine (T1.out _ H2.out).mono ?_
      rintro e w3 ⟨b3, bs3, rfl, hb3, ho3⟩
      have H3 := Lib.hid (bch H2.out hb3)
      have O3 := Lib.hid ho3
      clear hb3 ho3 x3
      go_wp2_with fail
      refine (T2.out _ H3.out).mono ?_
      rintro e w4 ⟨rfl, hb4, hr4⟩
      have H4 := Lib.hid (bch H3.out hb4)
      have HS := Lib.hid (SP.out w4 _ _ _ _ (O3.out.on hb4) hr4)
      clear hb4 hr4
      go_wp2_with fail
      refine Calls.mono HS.out ?_
      intro e w5 hsp
      obtain ⟨W1, A0, c0, svs, out, rfl, hD, how, hrt, hb5⟩ := hsp.read
      obtain ⟨C, hC⟩ : ∃ C, w5.alloc (.cells #[.int .i64 W1, .slice A0 out.length c0] 29) = C := ⟨_, rfl⟩
      have hBc : Below W2.heap.size W2 C := by rw [← hC]; exact balloc (bch H4.out hb5) _
      have hrc : Row C w5.heap.size 29 [.int .i64 W1, .slice A0 out.length c0] := by rw [← hC]; exact Row.new _ _ _
      have hrw : Rws C C.heap.size A0 out := by rw [← hC]; exact rws_sv (how.on (balloc (Below.refl _ _) _)) (hrt.on (balloc (Below.refl _ _) _))
      have HCE := Lib.hid hC
      clear hC how hrt hb5 hsp HS
      have hpl := hrc.lt
      have BD := Lib.hid (And.intro hBc (And.intro hrc (And.intro hD hrw)))
      have BY := Lib.hid (fun (z : World) (hz : Below C.heap.size C z) => BX.out z (bch BD.out.1 hz))
      have BW := Lib.hid (fun (z : World) (hz : Below C.heap.size C z) => show (z.cell? ⟨w5.heap.size, 0, none⟩ = some (.int .i64 W1) ∧ z.cell? ⟨w5.heap.size, 1, none⟩ = some (.slice A0 out.length c0)) from ⟨(BD.out.2.1.on hz).cell 0, (BD.out.2.1.on hz).cell 1⟩)
      have BR := Lib.hid (fun (z : World) (hz : Below C.heap.size C z) => show Rws z z.heap.size A0 out from BD.out.2.2.2.on hz)
      have U1 := Lib.hid (fun (z : World) (hz : Below C.heap.size C z) => T1.out z (bch BD.out.1 hz))
      have U2 := Lib.hid (fun (z : World) (hz : Below C.heap.size C z) => T2.out z (bch BD.out.1 hz))
      clear hBc hrc hD hrw H2 H3 H4 O3 K1 hpl
      have z0 := BY.out _ (Below.refl _ _)
      go_upto_region 8 with fail
      rw [HCE.out]
      go_wp2_with fail
      refine (U1.out _ (Below.refl _ _)).mono ?_
      rintro e w6 ⟨b6, bs6, rfl, hb6, ho6⟩
      obtain ⟨W6, hW6⟩ : ∃ z, w6.alloc (.cells #[.int .i64 W, .slice (some ⟨b6, 0, none⟩) xs.length xs.length] 29) = z := ⟨_, rfl⟩
      have B6 : Below w6.heap.size w6 W6 := by rw [← hW6]; exact balloc (Below.refl _ _) _
      have R6 : Row W6 w6.heap.size 29 [.int .i64 W, .slice (some ⟨b6, 0, none⟩) xs.length xs.length] := by rw [← hW6]; exact Row.new _ _ _
      have hb6' : ∀ x ∈ bs6, C.heap.size ≤ x ∧ x < w6.heap.size := fun x hx => ⟨(ho6.low x hx).1, by
        obtain ⟨i, hi⟩ := List.getElem?_of_mem hx
        have hil := (List.getElem?_eq_some_iff.1 hi).1
        rw [ho6.len] at hil
        exact (ho6.inner i x _ hi (List.getElem?_eq_getElem hil)).lt⟩
      have HBS := Lib.hid hb6'
      have H6 := Lib.hid (And.intro (bch hb6 B6) (And.intro R6 (And.intro (ho6.on B6) (And.intro hb6.size R6.lt))))
      have HW6 := Lib.hid hW6
      clear hb6 ho6 B6 R6 hb6' hW6 z0
      go_upto_region 9 with fail
      rw [HW6.out]
      go_wp2_with fail
      refine (U2.out _ H6.out.1).mono ?_
      rintro e D ⟨rfl, hb7, hr7⟩
      have hl7 := hr7.lt
      have XD := Lib.hid (And.intro (bch H6.out.1 hb7) (And.intro (H6.out.2.1.on hb7) (And.intro (H6.out.2.2.1.on hb7) hr7)))
      have BZ := Lib.hid (fun (z : World) (hz : Below D.heap.size D z) => show (z.cell? ⟨w6.heap.size, 0, none⟩ = some (.int .i64 W) ∧ z.cell? ⟨w6.heap.size, 1, none⟩ = some (.slice (some ⟨b6, 0, none⟩) xs.length xs.length))
        from ⟨(XD.out.2.1.on hz).cell 0, (XD.out.2.1.on hz).cell 1⟩)
      have zD := BZ.out _ (Below.refl _ _)
      have HZ := Lib.hid (show C.heap.size ≤ w6.heap.size ∧ w6.heap.size < W6.heap.size ∧ W6.heap.size < D.heap.size from ⟨H6.out.2.2.2.1, H6.out.2.2.2.2, hl7⟩)
      clear hb7 hr7 hl7
      go_wp2_with fail
      refine Calls.mono (IP.out _ _ _ _ _ XD.out.2.2.1 XD.out.2.2.2) ?_
      intro e w8 hip
      obtain ⟨W8, A8, c8, cp, rfl, hT8, how8, hcc8, hb8⟩ := hip.read
      obtain ⟨rfl, hout⟩ := tab_same HV.out BD.out.2.2.1 hT8
      have hbd := tabC_bd (fun hq r hr => (HV.out hq).2 r hr) hT8
      rw [hout] at hbd
      have hlen : cp.length = out.length := by rw [← hout, List.length_map]
      rw [hlen] at how8 ⊢
      have CP := Lib.hid (show Ow D.heap.size 42 1 svC w8 (.slice A8 cp.length c8) (cp.map (·.1)) ∧ Cps D.heap.size w8 cp from ⟨by rw [hlen]; exact how8, hcc8⟩)
      have BO := Lib.hid (And.intro hout (And.intro hlen hbd))
      have H8 := Lib.hid hb8
      have HC8 := Lib.hid (bch XD.out.1 hb8)
      have R8 := Lib.hid (fun (z : World) (h1 : Ow D.heap.size 42 1 svC z (.slice A8 cp.length c8) (cp.map (·.1))) (h2 : Cps D.heap.size z cp) => show Rws z z.heap.size A8 out from by rw [← BO.out.1]; exact rws_cp h1 h2)
      clear hip hT8 hout hbd how8 hcc8 hb8 zD hlen
      obtain ⟨E, hE⟩ : ∃ E, w8.alloc (.cells #[.int .i64 W8, .slice A8 out.length c8] 29) = E := ⟨_, rfl⟩
      have H8E : Below w8.heap.size w8 E := by rw [← hE]; exact balloc (Below.refl _ _) _
      have B8 : Row E w8.heap.size 29 [.int .i64 W8, .slice A8 out.length c8] := by rw [← hE]; exact Row.new _ _ _
      have HEE := Lib.hid hE
      have XE := Lib.hid (show Below C.heap.size C E ∧ Below D.heap.size D E ∧ Row E w8.heap.size 29 [.int .i64 W8, .slice A8 out.length c8] ∧ Ow D.heap.size 42 1 svC E (.slice A8 cp.length c8) (cp.map (·.1)) ∧ Cps D.heap.size E cp from
        ⟨bch HC8.out H8E, bch H8.out H8E, B8, CP.out.1.on H8E, CP.out.2.on H8E⟩)
      have hll : D.heap.size ≤ w8.heap.size := H8.out.size
      clear H8E B8 hE
      have HLL := Lib.hid hll
      clear hll
      -- a world behind E: what is read there
      have BE := Lib.hid (fun (z : World) (hz : Below E.heap.size E z) => show (z.cell? ⟨w8.heap.size, 0, none⟩ = some (.int .i64 W8) ∧ z.cell? ⟨w8.heap.size, 1, none⟩ = some (.slice A8 out.length c8) ∧ z.cell? ⟨w5.heap.size, 0, none⟩ = some (.int .i64 W8) ∧ z.cell? ⟨w5.heap.size, 1, none⟩ = some (.slice A0 out.length c0))
        from ⟨(XE.out.2.2.1.on hz).cell 0, (XE.out.2.2.1.on hz).cell 1, (BW.out z (bch XE.out.1 hz)).1, (BW.out z (bch XE.out.1 hz)).2⟩)
      have BQ := Lib.hid (fun (z : World) (hz : Below E.heap.size E z) => eqTable_ok W8 W8 A8 A0 c8 c0 out out z (by have := BO.out.2.2.1; unfold maxLen; omega) (by have := BO.out.2.2.1; unfold maxLen; omega) (R8.out z (XE.out.2.2.2.1.on hz) (XE.out.2.2.2.2.on hz)) (BR.out z (bch XE.out.1 hz)) true (by simp))
      have zE := BE.out _ (Below.refl _ _)
      have hqq : (q != q) = false := by simp
      go_upto_region 11 with fail
      rw [HEE.out]
      go_wp2_with fail
      refine (BQ.out _ (Below.refl _ _)).mono ?_
      rintro e w9 ⟨rfl, hb9⟩
      have H9 := Lib.hid hb9
      clear hb9 zE
      have KT := Lib.hid (fun (z : World) (hz : Below E.heap.size E z) => show ((z.cell? ⟨w6.heap.size, 0, none⟩ = some (.int .i64 W) ∧ z.cell? ⟨w6.heap.size, 1, none⟩ = some (.slice (some ⟨b6, 0, none⟩) xs.length xs.length)) ∧ z.cell? ⟨w.heap.size, 0, none⟩ = some (.int .i64 W) ∧ z.cell? ⟨w.heap.size, 1, none⟩ = some (.slice A xs.length c))
        from ⟨BZ.out z (bch XE.out.2.1 hz), BY.out z (bch XE.out.1 hz)⟩)
      have X6 := Lib.hid (fun (z : World) (hz : Below E.heap.size E z) => (XD.out.2.2.1.on (bch XE.out.2.1 hz)).svs (by omega) valC_length HM.out)
      have X7 := Lib.hid (fun (z : World) (hz : Below E.heap.size E z) => XD.out.2.2.2.on (bch XE.out.2.1 hz))
      go_upto_region 13 with fail
      have Hd9 := Lib.hid (show Below E.heap.size E w9.drew from H9.out.drew)
      have hS9 := KT.out _ Hd9.out
      go_region_held3 (fun z => (z.cell? ⟨w6.heap.size, 0, none⟩ = some (.int .i64 W) ∧ z.cell? ⟨w6.heap.size, 1, none⟩ = some (.slice (some ⟨b6, 0, none⟩) xs.length xs.length)) ∧ z.cell? ⟨w.heap.size, 0, none⟩ = some (.int .i64 W) ∧ z.cell? ⟨w.heap.size, 1, none⟩ = some (.slice A xs.length c))
        (assumption)
        (first
          | (go_at_call 7; refine (U1.out _ (bch XE.out.1 Hd9.out)).mono ?_; rintro e w10 ⟨b10, bs10, rfl, hb10, ho10⟩; have H10 := Lib.hid (bch Hd9.out hb10); have hS10 := KT.out _ H10.out; have O10 := Lib.hid ho10; clear hb10 ho10)
          | (go_at_call 10; refine (eqTable_ok W W _ _ _ _ xs xs _ Hn.out.1 Hn.out.1 (X6.out _ H10.out) (O10.out.svs (by omega) valC_length HM.out) true (by simp)).mono ?_; rintro e w11 ⟨rfl, hb11⟩; have H11 := Lib.hid (bch H10.out hb11); have hS11 := KT.out _ H11.out; clear hb11))
      all_goals (
      go_wp2_with fail
      refine (U2.out _ (bch XE.out.1 H11.out)).mono ?_
      rintro e w12 ⟨rfl, hb12, hr12⟩
      have H12 := Lib.hid (bch H11.out hb12)
      have HK := eqIntS_ok (some ⟨W6.heap.size, 0, none⟩) (some ⟨w11.heap.size, 0, none⟩) ys.length ys.length ys ys w12 Hn.out.2 Hn.out.2 (Row.sl' intC_length (X7.out _ H12.out)) (Row.sl' intC_length hr12)
      rw [decide_eq_true rfl] at HK
      have HK := Lib.hid HK
      clear hb12 hr12 hS9 hS10 hS11
      go_wp2_with fail
      refine HK.out.mono ?_
      rintro e w13 ⟨rfl, hb13⟩
      have H13 := Lib.hid (bch H12.out hb13)
      have s13 := (KT.out _ H13.out).1
      clear hb13
      have M14 := Lib.hid (markTable2_ok W C.heap.size b6 xs.length bs6 xs [] 1 w13 (by omega) (by omega) HX.out.1 HX.out.2.2 (XD.out.2.2.1.on (bch XE.out.2.1 H13.out)))
      go_wp2_with fail
      refine M14.out.mono ?_
      rintro e w14 ⟨k14, rfl, hk0, hk1, hon14⟩
      have F13 := Lib.hid (show Below C.heap.size C w13 from bch XE.out.1 H13.out)
      have R14 := Lib.hid ((XD.out.2.2.2.on (bch XE.out.2.1 H13.out)).only hon14 fun hx => by have := (HBS.out _ hx).2; have := HZ.out; omega)
      have HO14 := Lib.hid hon14
      have M15 := Lib.hid (markIntS2_ok W6.heap.size ys.length ys.length _ k14 w14 hk0 (by omega) HX.out.2.1 R14.out (by rw [flat_length 1 intC intC_length]; omega))
      have HK14 := Lib.hid (And.intro hk0 hk1)
      clear hon14 hk0 hk1 s13
      go_wp2_with fail
      refine M15.out.mono ?_
      rintro e w15 ⟨rfl, hon15⟩
      have hk15 : ¬ (k14 + (ys.length : Int) < 0) := by have := HK14.out; omega
      have F15 := Lib.hid (show Below C.heap.size C w15 from
        Only.from_ (Only.from_ F13.out rfl HO14.out fun i hi => (HBS.out i hi).1) rfl hon15 fun i hi => by subst hi; have := HZ.out; omega)
      have G13 := Lib.hid (show Ow D.heap.size 42 1 svC w13 (.slice A8 cp.length c8) (cp.map (·.1)) ∧ Cps D.heap.size w13 cp ∧ Row w13 w8.heap.size 29 [.int .i64 W8, .slice A8 out.length c8] from ⟨XE.out.2.2.2.1.on H13.out, XE.out.2.2.2.2.on H13.out, XE.out.2.2.1.on H13.out⟩)
      have G15 := Lib.hid (show Ow D.heap.size 42 1 svC w15 (.slice A8 cp.length c8) (cp.map (·.1)) ∧ Cps D.heap.size w15 cp ∧ Row w15 w8.heap.size 29 [.int .i64 W8, .slice A8 out.length c8] from
        ⟨(G13.out.1.only HO14.out fun b hb => .inl (by have := (HBS.out b hb).2; have := HZ.out; omega)).only hon15 fun b hb => .inl (by subst hb; have := HZ.out; omega),
         (G13.out.2.1.only HO14.out fun b hb => .inl (by have := (HBS.out b hb).2; have := HZ.out; omega)).only hon15 fun b hb => .inl (by subst hb; have := HZ.out; omega),
         (G13.out.2.2.only HO14.out fun hx => by have := (HBS.out _ hx).2; have := HZ.out; have := HLL.out; omega).only hon15 fun hx => by have := HZ.out; have := HLL.out; omega⟩)
      clear hon15
      have g0 : w15.cell? ⟨w8.heap.size, 0, none⟩ = some (.int .i64 W8) := G15.out.2.2.cell 0
      have g1 : w15.cell? ⟨w8.heap.size, 1, none⟩ = some (.slice A8 out.length c8) := G15.out.2.2.cell 1
      have g2 := BW.out _ F15.out
      have Q15 := Lib.hid (eqTable_ok W8 W8 A8 A0 c8 c0 out out w15 (by have := BO.out.2.2.1; unfold maxLen; omega) (by have := BO.out.2.2.1; unfold maxLen; omega) (R8.out w15 G15.out.1 G15.out.2.1) (BR.out w15 F15.out) true (by simp))
      go_wp2_with fail
      refine Q15.out.mono ?_
      rintro e w16 ⟨rfl, hb16⟩
      have G16 := Lib.hid (show Ow D.heap.size 42 1 svC w16 (.slice A8 cp.length c8) (cp.map (·.1)) ∧ Cps D.heap.size w16 cp ∧ Row w16 w8.heap.size 29 [.int .i64 W8, .slice A8 out.length c8] from ⟨G15.out.1.on hb16, G15.out.2.1.on hb16, G15.out.2.2.on hb16⟩)
      have F16 := Lib.hid (bch F15.out hb16)
      clear hb16 g0 g1 g2
      have g0 : w16.cell? ⟨w8.heap.size, 0, none⟩ = some (.int .i64 W8) := G16.out.2.2.cell 0
      have g1 : w16.cell? ⟨w8.heap.size, 1, none⟩ = some (.slice A8 cp.length c8) := by rw [BO.out.2.1]; exact G16.out.2.2.cell 1
      have HCL : ∀ p' ∈ cp, p'.2.length ≤ 16 := fun p' hp => BO.out.2.2.2 p'.2 (by rw [← BO.out.1]; exact List.mem_map_of_mem hp)
      have hcl : cp.length ≤ 400 := by rw [BO.out.2.1]; exact BO.out.2.2.1
      have M8 := Lib.hid (markTableC_ok W8 D.heap.size D.heap.size A8 c8 cp 1 w16 (by omega) (by omega) hcl HCL G16.out.1 G16.out.2.1)
      have HCL := Lib.hid HCL
      have hml : mlen cp ≤ 16 * 400 := Nat.le_trans (mlen_le HCL.out) (Nat.mul_le_mul_left _ hcl)
      obtain ⟨mk, hmk⟩ : ∃ mk : Int, 1 + 2 * (mlen cp : Int) = mk := ⟨_, rfl⟩
      have hmk0 : ¬ (mk < 0) := by omega
      have hmkk : (mk != mk) = false := by simp
      rw [hmk] at M8
      have HMK := Lib.hid (And.intro hmk hcl)
      clear hml hmk hcl
      go_upto_region 22 with fail
      go_wp2_with fail
      refine M8.out.mono ?_
      rintro e w17 ⟨rfl, how17, hcp17, hon17⟩
      have hin : ∀ i, (∃ p' ∈ cp, svB p'.1 = some i) → D.heap.size ≤ i ∧ TyAt w16 i 44 := fun i ⟨p', hp, hi⟩ => by
        have := (G16.out.2.1.1 p' hp).2.ty i hi
        exact ⟨this.1, this.2.2⟩
      have G17 := Lib.hid (show Ow D.heap.size 42 1 svC w17 (.slice A8 cp.length c8) (cp.map (·.1)) ∧ Cps D.heap.size w17 (marks 1 cp) ∧ Row w17 w8.heap.size 29 [.int .i64 W8, .slice A8 out.length c8] from
        ⟨how17, hcp17, G16.out.2.2.only hon17 fun hx => by obtain ⟨_, ht⟩ := hin _ hx; exact (TyAt.ne G16.out.2.2.ty ht (by decide)) rfl⟩)
      have F17 := Lib.hid (Only.from_ F16.out rfl hon17 fun i hi => by have := (hin i hi).1; have := XD.out.1.size; omega)
      clear how17 hcp17 hon17 hin g0 g1
      have g0 : w17.cell? ⟨w8.heap.size, 0, none⟩ = some (.int .i64 W8) := G17.out.2.2.cell 0
      have g1 : w17.cell? ⟨w8.heap.size, 1, none⟩ = some (.slice A8 cp.length c8) := by rw [BO.out.2.1]; exact G17.out.2.2.cell 1
      have M9 := Lib.hid (fun (z : World) (hz : Below w17.heap.size w17 z) => heldTable_ok W8 D.heap.size D.heap.size A8 c8 cp 1 z (by omega) (by omega) HMK.out.2 HCL.out (G17.out.1.on hz) (G17.out.2.1.on hz))
      rw [HMK.out.1] at M9
      go_wp2_with fail
      refine (M9.out _ (Below.refl _ _)).mono ?_
      rintro e w18 ⟨rfl, hb18⟩
      have H18 := Lib.hid hb18
      have F18 := Lib.hid (bch F17.out hb18)
      clear hb18 g0 g1
      have x18 := BY.out _ F18.out
      go_wp2_with fail
      refine (U1.out _ F18.out).mono ?_
      rintro e w21 ⟨b21, bs21, rfl, hb21, ho21⟩
      have H21 := Lib.hid (bch H18.out hb21)
      have F21 := Lib.hid (bch F18.out hb21)
      have O21 := Lib.hid ho21
      clear hb21 ho21 x18
      go_wp2_with fail
      refine (U2.out _ F21.out).mono ?_
      rintro e w22 ⟨rfl, hb22, hr22⟩
      have H22 := Lib.hid (bch H21.out hb22)
      have F22 := Lib.hid (bch F21.out hb22)
      have HI := Lib.hid (IP.out w22 _ _ _ _ (O21.out.on hb22) hr22)
      clear hb22 hr22
      go_wp2_with fail
      refine Calls.mono HI.out ?_
      intro e w23 hip
      obtain ⟨W9, A9, c9, cp1, rfl, hT9, how9, hcc9, hb23⟩ := hip.read
      obtain ⟨rfl, hout⟩ := tab_same HV.out BD.out.2.2.1 hT9
      have hlen : cp1.length = out.length := by rw [← hout, List.length_map]
      have hcps : Ow w22.heap.size 42 1 svC w23 (.slice A9 cp1.length c9) (cp1.map (·.1)) := how9
      rw [hlen] at how9 ⊢
      obtain ⟨L, hL⟩ : ∃ L, w23.alloc (.cells #[.int .i64 W9, .slice A9 out.length c9] 29) = L := ⟨_, rfl⟩
      have hBc : Below w23.heap.size w23 L := by rw [← hL]; exact balloc (Below.refl _ _) _
      have hrc : Row L w23.heap.size 29 [.int .i64 W9, .slice A9 out.length c9] := by rw [← hL]; exact Row.new _ _ _
      have hrw : Rws L L.heap.size A9 out := by rw [← hout]; exact rws_cp (hcps.on hBc) (hcc9.on hBc)
      have HLE := Lib.hid hL
      have FL := Lib.hid (bch (bch F22.out hb23) hBc)
      have HL := Lib.hid (bch (bch H22.out hb23) hBc)
      have g2 := BW.out _ FL.out
      have g3 : L.cell? ⟨w23.heap.size, 0, none⟩ = some (.int .i64 W9) := hrc.cell 0
      have g4 : L.cell? ⟨w23.heap.size, 1, none⟩ = some (.slice A9 out.length c9) := hrc.cell 1
      have Q9 := Lib.hid (eqTable_ok W9 W9 A9 A0 c9 c0 out out L (by have := BO.out.2.2.1; unfold maxLen; omega) (by have := BO.out.2.2.1; unfold maxLen; omega) hrw (BR.out _ FL.out) true (by simp))
      clear hBc hrc hrw hcps hip hT9 how9 hcc9 hb23 hout hlen hL
      go_upto_region 31 with fail
      rw [HLE.out]
      go_wp2_with fail
      refine Q9.out.mono ?_
      rintro e w19 ⟨rfl, hb19⟩
      have F19 := Lib.hid (bch FL.out hb19)
      have H19 := Lib.hid (bch HL.out hb19)
      clear hb19 g2 g3 g4
      have g0 : w19.cell? ⟨w8.heap.size, 0, none⟩ = some (.int .i64 W9) := (G17.out.2.2.on H19.out).cell 0
      have g1 : w19.cell? ⟨w8.heap.size, 1, none⟩ = some (.slice A8 cp.length c8) := by rw [BO.out.2.1]; exact (G17.out.2.2.on H19.out).cell 1
      go_upto_region 34 with fail
      go_wp2_with fail
      refine (M9.out _ H19.out).mono ?_
      rintro e w20 ⟨rfl, hb20⟩
      have F20 := Lib.hid (bch HW.out.1 (bch BD.out.1 (bch F19.out hb20)))
      clear hb20 g0 g1
      go_wp2_with fail
      go_ret
      exact ⟨rfl, F20.out⟩)

namespace lawFnExactGroupBy
theorem own : ownKnob Try.prog.godebug = none := by kernel_rfl
theorem laidOut : laidOutB Try.prog = true := by kernel_rfl
theorem valTypes : ValTypes Try.prog 96 4 3 := ⟨⟨_, _, Try.underlying96, rfl, rfl, rfl, rfl⟩, Try.underlying4, Try.underlying3, by kernel_rfl, by kernel_rfl, by kernel_rfl⟩

set_option maxRecDepth 100000 in
theorem lifted (os : Os) (started : os.Started) (H : Type) (enc : TypeId × Value → H) :
    ReturnsInHanded {} Try.checked os 3 .any (Rows.fnExactGroupBySpec.pre6 enc Try.prog Try.f3 Rows.fnExactGroupByRow.domain false) (Rows.fnExactGroupBySpec.post enc Try.prog Try.f3 false true false false) := by
  refine returnsInHanded_of_change (C := Try.checked) own started (by kernel_rfl) Try.func3
    (ChangeSpec.witness6 (enc := enc) (C := Try.checked) false ⟨#[], #[.agg #[.int .i64 0, .slice none 0 0], .slice none 0 0, .int .i64 0, .int .i64 0], []⟩ 8 (by kernel_rfl) (by kernel_rfl) (by kernel_rfl) (by kernel_rfl)) ?_
  intro W base args ds gs before hval0 hW hcnd _
  have hval : ∀ (j : Nat) t v, Try.f3.params[j]? = some t → args[j]? = some v → Value.okWide Try.prog W .any base t v := hval0
  have hW' := hW
  obtain ⟨p, q, hA0, hV, rfl, hfz, hnd⟩ := hW
  have hA : DataW.TrodAll enc Try.prog W 0 (fun _ => true) true Try.f3.params.toList args.toList ds p := hA0
  rw [Try.params3] at hA hval
  obtain ⟨v0, vs0, d0, ds0, p0, q0, hargs, rfl, rfl, h0, r0⟩ := trodAll_cons hA
  obtain ⟨v1, vs1, d1, ds1, p1, q1, rfl, rfl, rfl, h1, r1⟩ := trodAll_cons r0
  obtain ⟨v2, vs2, d2, ds2, p2, q2, rfl, rfl, rfl, h2, r2⟩ := trodAll_cons r1
  obtain ⟨v3, vs3, d3, ds3, p3, q3, rfl, rfl, rfl, h3, r3⟩ := trodAll_cons r2
  obtain ⟨rfl, rfl, rfl⟩ := trodAll_nil r3
  obtain rfl : args = #[v0, v1, v2, v3] := by cases args; simp_all
  obtain ⟨rfl, rfl⟩ := trodVars_none hV
  obtain ⟨cs0, rfl, hz0⟩ := okWide_struct Try.underlying24 (hval 0 24 v0 rfl rfl)
  obtain ⟨cs0⟩ := cs0
  obtain ⟨a1, len1, c1, rfl⟩ := okWide_slice Try.underlying25 (hval 1 25 v1 rfl rfl)
  obtain ⟨n2, rfl⟩ := okWide_int Try.underlying3 (hval 2 3 v2 rfl rfl)
  obtain ⟨n3, rfl⟩ := okWide_int Try.underlying3 (hval 3 3 v3 rfl rfl)
  have k0 := h0
  have lt0 : ∀ x ∈ p0, x.block < W.heap.size := by obtain ⟨m, hm⟩ := k0; exact DataW.trod_lt m _ _ _ hm
  obtain ⟨f0, h0⟩ := h0
  have k1 := h1
  have lt1 : ∀ x ∈ p1, x.block < W.heap.size := by obtain ⟨m, hm⟩ := k1; exact DataW.trod_lt m _ _ _ hm
  obtain ⟨f1, h1⟩ := h1
  have k2 := h2
  have lt2 : ∀ x ∈ p2, x.block < W.heap.size := by obtain ⟨m, hm⟩ := k2; exact DataW.trod_lt m _ _ _ hm
  obtain ⟨f2, h2⟩ := h2
  have k3 := h3
  have lt3 : ∀ x ∈ p3, x.block < W.heap.size := by obtain ⟨m, hm⟩ := k3; exact DataW.trod_lt m _ _ _ hm
  obtain ⟨f3, h3⟩ := h3
  obtain ⟨W0, a0, c0, xs0, hcs0, _, hc0, hm0, s0⟩ := open_tab valTypes Try.underlying22 Try.underlying72 (by kernel_rfl) (by kernel_rfl) ⟨_, _, Try.underlying24, rfl, rfl, rfl, rfl⟩ (hz0.trans (by kernel_rfl)) h0
  have hcs0 : cs0 = [.int .i64 W0, .slice a0 xs0.length c0] := hcs0
  subst hcs0
  obtain ⟨xs1, rfl, hc1, hm1, g1, s1⟩ := open_sl (sz := 1) (ec := intC) Try.underlying25 (by kernel_rfl) (by omega) intC_length (el_int Try.underlying3) h1
  have wf2 : (Lit.int .i64 n2).wf = true := by
    obtain ⟨_, hq, _, wq⟩ := DataW.trod_int Try.underlying3 h2
    cases hq
    exact wq
  have wf3 : (Lit.int .i64 n3).wf = true := by
    obtain ⟨_, hq, _, wq⟩ := DataW.trod_int Try.underlying3 h3
    cases hq
    exact wq
  clear hA0 hval0
  refine (FnExactGroupBy_walk W0 a0 c0 xs0 a1 c1 xs1 n2 n3 W (Nat.le_trans hc0 hm0) s0 hc1 hm1 g1 s1 wf2 wf3).mono fun e W' ⟨he, bel⟩ => ?_
  subst he
  exact ⟨_, rfl, _, _, _, [], _, [], hW', trodAll_mk1 (shut_bool Try.underlying4 _), (trodAll_cons_mk (Below.trod laidOut (by kernel_rfl) (of_decide_eq_true (by kernel_rfl)) k0 bel lt0) (trodAll_cons_mk (Below.trod laidOut (by kernel_rfl) (of_decide_eq_true (by kernel_rfl)) k1 bel lt1) (trodAll_cons_mk (Below.trod laidOut (by kernel_rfl) (of_decide_eq_true (by kernel_rfl)) k2 bel lt2) (trodAll_cons_mk (Below.trod laidOut (by kernel_rfl) (of_decide_eq_true (by kernel_rfl)) k3 bel lt3) trodAll_mk0)))), rfl, bel.frame _, fun h => by cases h⟩

theorem over : Rows.fnExactGroupByRow.holds Try.pinned (OpenSpec.ofChange Rows.fnExactGroupBySpec) :=
  OpenClaim.holds_of_wide 3 Try.f3 rfl rfl rfl rfl rfl rfl rfl ⟨rfl, rfl, rfl, rfl, rfl⟩ rfl rfl rfl rfl rfl (by kernel_rfl) Try.func3 (by kernel_rfl)
    (of_decide_eq_true (by kernel_rfl)) (by unfold Func.isWrapper; first | (rw [if_pos (by decide +kernel)]; kernel_rfl) | (rw [if_neg (by decide +kernel)]; exact ⟨rfl, rfl⟩))
    (fun os started H enc _ => lifted os started H enc)

theorem proved : Rows.FnExactGroupBySaid := over
end lawFnExactGroupBy
#print axioms lawFnExactGroupBy.proved

end Go.Proofs.Ytfhafbincknaeaa
