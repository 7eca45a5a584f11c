/-
  FnExactMergeJoin returns true for all arguments and leaves them as they were. No condition.
-/
import Derived.Test.YtldndapcbgaliaaRows
import Derived.OpenShut
import Derived.Deep.RegionHeld3
import Derived.Deep.DeepCutAuto
import Derived.Test.YtldndapcbgaliaaMjM
import Derived.Test.YtldndapcbgaliaaMjS
import Derived.Test.YtldndapcbgaliaaTwo
import Derived.Test.YtldndapcbgaliaaArg
import Derived.Test.YtldndapcbgaliaaArgT
namespace Go.Proofs.Ytldndapcbgaliaa
open Go.RowKit Go.Qo
open Go.ChangeShapes Go.WideShapes Go.ChangeAt
set_option linter.unusedVariables false
set_option linter.unusedSimpArgs false

set_option maxRecDepth 20000 in
set_option maxHeartbeats 4000000 in
theorem FnExactMergeJoin_walk (W : Int) (A : Option Addr) (c : Nat) (xs : List Row1) (W' : Int) (A' : Option Addr) (c' : Nat) (ys : List Row1) (i : Int) (j : Int) (w : World) (hn : xs.length ≤ maxLen) (h : Rws w w.heap.size A xs) (hn' : ys.length ≤ maxLen) (h' : Rws w w.heap.size A' ys) (wfi : (Lit.int .i64 i).wf = true) (wfj : (Lit.int .i64 j).wf = true) :
    Calls Try.prog 8 #[.agg #[.int .i64 W, .slice A xs.length c], .agg #[.int .i64 W', .slice A' ys.length c'], .int .i64 i, .int .i64 j] w fun e w' => e = .returned (.bool true) ∧ Below w.heap.size w w' := by
  clear wfi wfj
  obtain ⟨l, hl⟩ : ∃ l, szR 1048576 xs = l := ⟨_, rfl⟩
  obtain ⟨W2, hW2⟩ : ∃ W2, (w.alloc (.cells #[.int .i64 W, .slice A xs.length c] 46)).alloc (.cells #[.int .i64 W', .slice A' ys.length c'] 46) = W2 := ⟨_, rfl⟩
  have HWE := Lib.hid hW2
  have hB2 : Below w.heap.size w W2 := by rw [← hW2]; exact balloc (balloc (Below.refl _ _) _) _
  have hRa : Row W2 w.heap.size 46 [.int .i64 W, .slice A xs.length c] := by rw [← hW2]; exact Row.first _ _ _ _
  have hRb : Row W2 (w.heap.size + 1) 46 [.int .i64 W', .slice A' ys.length c'] := by rw [← hW2]; exact Row.second _ _ _ _
  have HW := Lib.hid (And.intro hB2 (And.intro hRa hRb))
  have K1 := Lib.hid (fun (z : World) (hz : Below w.heap.size w z) => szTable_ok W A c xs 1048576 z hn (by omega) (by omega) (h.on hz) l hl)
  have BX := Lib.hid (fun (z : World) (hz : Below W2.heap.size W2 z) => show (z.cell? ⟨w.heap.size, 0, none⟩ = some (.int .i64 W) ∧ z.cell? ⟨w.heap.size, 1, none⟩ = some (.slice A xs.length c) ∧ z.cell? ⟨w.heap.size + 1, 0, none⟩ = some (.int .i64 W') ∧ z.cell? ⟨w.heap.size + 1, 1, none⟩ = some (.slice A' ys.length c'))
    from ⟨(HW.out.2.1.on hz).cell 0, (HW.out.2.1.on hz).cell 1, (HW.out.2.2.on hz).cell 0, (HW.out.2.2.on hz).cell 1⟩)
  clear hB2 hRa hRb hW2
  have hr1 := szR_range xs 1048576 (by omega)
  rw [hl] at hr1
  have Hr1 := Lib.hid hr1
  clear hr1 hl
  have x2 := BX.out _ (Below.refl _ _)
  rcases Hr1.out with rfl | ⟨hl0, hl1, hx1, hx2⟩
  · clear h h'
    go_enter Try.func8, Try.ntmps8
    go_upto_region 1 with fail
    rw [HWE.out]
    go_wp2_with fail
    refine (K1.out _ HW.out.1).mono ?_; rintro e w1 ⟨rfl, hb1⟩
    have H1 := Lib.hid (bch HW.out.1 hb1)
    clear hb1 x2
    go_wp2
    go_ret
    exact ⟨rfl, H1.out⟩
  · obtain ⟨m, hm⟩ : ∃ m, szR l ys = m := ⟨_, rfl⟩
    have K2 := Lib.hid (fun (z : World) (hz : Below w.heap.size w z) => szTable_ok W' A' c' ys l z hn' hl0 hl1 (h'.on hz) m hm)
    have hr2 := szR_range ys l hl0
    rw [hm] at hr2
    have Hr2 := Lib.hid hr2
    have Hx := Lib.hid (And.intro hx1 hx2)
    clear hr2 hm hx1 hx2
    rcases Hr2.out with rfl | ⟨hm0, hm1, hy1, hy2⟩
    · clear h h'
      go_enter Try.func8, Try.ntmps8
      go_upto_region 1 with fail
      rw [HWE.out]
      go_wp2_with fail
      refine (K1.out _ HW.out.1).mono ?_; rintro e w1 ⟨rfl, hb1⟩
      have x1 := BX.out _ hb1
      have H1 := Lib.hid (bch HW.out.1 hb1)
      clear hb1 x2
      go_wp2_with fail
      refine (K2.out _ H1.out).mono ?_; rintro e w2 ⟨rfl, hb2⟩
      have H2 := Lib.hid (bch H1.out hb2)
      clear hb2 x1
      go_wp2
      go_ret
      exact ⟨rfl, H2.out⟩
    · have HX := Lib.hid (show xs.length ≤ 1048576 ∧ ys.length ≤ 1048576 ∧ (∀ r ∈ xs, r.length ≤ 1048576) ∧ (∀ r ∈ ys, r.length ≤ 1048576) from
        ⟨by have := Hx.out.1; omega, by omega, fun r hr => by have := Hx.out.2 r hr; omega, fun r hr => by have := hy2 r hr; omega⟩)
      have HM := Lib.hid (And.intro (fun r (hr : r ∈ xs) => show r.length ≤ maxLen by have := HX.out.2.2.1 r hr; unfold maxLen; omega) (fun r (hr : r ∈ ys) => show r.length ≤ maxLen by have := HX.out.2.2.2 r hr; unfold maxLen; omega))
      have Hn := Lib.hid (And.intro hn hn')
      obtain ⟨q, hq⟩ : ∃ q : Bool, q = true ↔ (((TabOk W xs ∧ 0 ≤ i ∧ i < W) ∧ (TabOk W' ys ∧ 0 ≤ j ∧ j < W')) ∧ W + W' ≤ 6) := ⟨_, @decide_eq_true_iff _ (Classical.propDecidable _)⟩
      have Hq := Lib.hid hq
      clear hq
      obtain ⟨rs, hrs⟩ : ∃ rs, mjAll xs ys i.toNat j.toNat = rs := ⟨_, rfl⟩
      obtain ⟨ri, hri⟩ : ∃ ri, mjAll xs ys i.toNat j.toNat = ri := ⟨_, rfl⟩
      have HV : Hid (q = true → rs.Perm ri ∧ ∀ r ∈ rs, RowOk (W + W') r) := Lib.hid (fun hq => by
        rw [← hrs, ← hri]
        obtain ⟨⟨⟨h1, h1a, h1b⟩, ⟨h2, h2a, h2b⟩⟩, h6⟩ := Hq.out.1 hq
        exact ⟨List.Perm.refl _, mjAll_ok (tabRows1 h1) (tabRows1 h2) h6⟩)
      have SP : Hid (∀ (z : World) (B3 b3 B4 b4 : Nat) (bs3 bs4 : List Nat) (h3 : OwnRs valC 41 40 z B3 b3 bs3 xs []) (h4 : OwnRs valC 41 40 z B4 b4 bs4 ys []),
          Calls Try.prog 27 #[.agg #[.int .i64 W, .slice (some ⟨b3, 0, none⟩) xs.length xs.length], .agg #[.int .i64 W', .slice (some ⟨b4, 0, none⟩) ys.length ys.length], .int .i64 i, .int .i64 j] z (SpecTab q (W + W') rs z)) := Lib.hid (by
        intro z B3 b3 B4 b4 bs3 bs4 h3 h4
        obtain ⟨svs, hs3, ht3⟩ := OwnRs.sv h3 HM.out.1
        rw [← hrs]
        exact specMergeJoin_ok W W' _ _ _ _ xs ys i j z HX.out.1 HX.out.2.1 (h3.svs (by omega) valC_length HM.out.1) (h4.svs (by omega) valC_length HM.out.2) q Hq.out)
      have IP : Hid (∀ (z : World) (B3 b3 B4 b4 : Nat) (bs3 bs4 : List Nat) (h3 : OwnRs valC 41 40 z B3 b3 bs3 xs []) (h4 : OwnRs valC 41 40 z B4 b4 bs4 ys []),
          Calls Try.prog 26 #[.agg #[.int .i64 W, .slice (some ⟨b3, 0, none⟩) xs.length xs.length], .agg #[.int .i64 W', .slice (some ⟨b4, 0, none⟩) ys.length ys.length], .int .i64 i, .int .i64 j] z (TabRes q (W + W') ri z)) := Lib.hid (by
        intro z B3 b3 B4 b4 bs3 bs4 h3 h4
        rw [← hri]
        exact implMergeJoin_ok W W' _ _ _ _ xs ys i j z HX.out.1 HX.out.2.1 (h3.svs (by omega) valC_length HM.out.1) (h4.svs (by omega) valC_length HM.out.2) q Hq.out)
      have T1 := Lib.hid (fun (z : World) (hz : Below W2.heap.size W2 z) => toTable_ok W A c xs z HX.out.1 HX.out.2.2.1 (h.on (bch HW.out.1 hz)))
      have T2 := Lib.hid (fun (z : World) (hz : Below W2.heap.size W2 z) => toTable_ok W' A' c' ys z HX.out.2.1 HX.out.2.2.2 (h'.on (bch HW.out.1 hz)))
      clear h h' hn hn' hrs hri hy1 hy2
      go_enter Try.func8, Try.ntmps8
      go_upto_region 1 with fail
      rw [HWE.out]
      go_wp2_with fail
      refine (K1.out _ HW.out.1).mono ?_; rintro e w1 ⟨rfl, hb1⟩
      have x1 := BX.out _ hb1
      have H1 := Lib.hid hb1
      clear hb1 x2
      go_wp2_with fail
      refine (K2.out _ (bch HW.out.1 H1.out)).mono ?_; rintro e w2 ⟨rfl, hb2⟩
      have H2 := Lib.hid (bch H1.out hb2)
      have x2 := BX.out _ H2.out
      clear hb2 x1
      go_upto_region 8 with fail
      have H2d := Lib.hid (show Below W2.heap.size W2 w2.drew from H2.out.drew)
      have y2 := BX.out _ H2d.out
      have hw2 : W2.heap.size ≤ w2.heap.size := H2.out.size
      go_cut [10, 11] (fun s6 s7 wx => s7 = .bool q ∧ ∃ (p : Nat) (W1 : Int) (A0 : Option Addr) (c0 : Nat) (svs : List SV) (out : List Row1), s6 = .pointer (some ⟨p, 0, none⟩) ∧ Below W2.heap.size W2 wx ∧ W2.heap.size ≤ p ∧ Row wx p 25 [.int .i64 W1, .slice A0 out.length c0] ∧ TabD q (W + W') rs W1 out ∧ Rws wx wx.heap.size A0 out)
      case first =>
        go_region_held3 (fun z => z.cell? ⟨w.heap.size, 0, none⟩ = some (.int .i64 W) ∧ z.cell? ⟨w.heap.size, 1, none⟩ = some (.slice A xs.length c) ∧ z.cell? ⟨w.heap.size + 1, 0, none⟩ = some (.int .i64 W') ∧ z.cell? ⟨w.heap.size + 1, 1, none⟩ = some (.slice A' ys.length c'))
          (first | assumption | exact BX.out _ (balloc H2d.out _) | exact BX.out _ (balloc H3.out _) | exact BX.out _ (balloc H4.out _) | exact BX.out _ (balloc H5.out _) | exact BX.out _ (belT H5.out (by first | exact hw2 | exact H3.out.size | exact H4.out.size) _ _))
          (first
            | (go_at_call 27; refine Calls.mono (SP.out _ _ _ _ _ _ _ (by first | exact O3'.out | exact O3'.out.on (balloc (Below.refl _ _) _)) (by first | exact O4.out | exact O4.out.on (balloc (Below.refl _ _) _))) ?_; intro e w5 hsp; obtain ⟨W1, A0, c0, svs, out, rfl, hD, how, hrt, hb5⟩ := hsp.read; have H5 : Hid (Below W2.heap.size W2 w5) := Lib.hid (by first | exact bch H4.out hb5 | exact bch (balloc H4.out _) hb5); have x5 := BX.out _ H5.out; (first | (have R7 := Lib.hid (R7.out.on hb5)) | (have R7 := Lib.hid ((Row.new w4 25 #[.int .i64 0, .slice none 0 0]).on hb5)) | skip); have G5 := Lib.hid (And.intro hD (rws_sv how hrt)); have G6 := Lib.hid (And.intro how hrt); clear hb5 hsp hD how hrt; (first | (have q0 := R7.out.lt; have q1 := R7.out.frozen 0; have q2 := R7.out.frozen 1; have q3 := (show _ = some (Value.int .i64 0) from R7.out.cell 0); have q4 := (show _ = some (Value.slice none 0 0) from R7.out.cell 1)) | skip))
            | (go_at_call_of 29 (Value.int .i64 W'); refine (T2.out _ (by first | exact H3.out | exact balloc H3.out _)).mono ?_; rintro e w4 ⟨b4, bs4, rfl, hb4, ho4⟩; have H4 : Hid (Below W2.heap.size W2 w4) := Lib.hid (by first | exact bch H3.out hb4 | exact bch (balloc H3.out _) hb4); have x4 := BX.out _ H4.out; have O3' : Hid (OwnRs valC 41 40 w4 _ b3 bs3 xs []) := Lib.hid (by first | exact O3.out.on hb4 | exact (O3.out.on (balloc (Below.refl _ _) _)).on hb4); have O4 := Lib.hid ho4; (first | (have R7 := Lib.hid (R7.out.on hb4)) | (have R7 := Lib.hid ((Row.new w3 25 #[.int .i64 0, .slice none 0 0]).on hb4)) | skip); clear hb4 ho4)
            | (go_at_call_of 29 (Value.int .i64 W); refine (T1.out _ (by first | exact H2d.out | exact balloc H2d.out _)).mono ?_; rintro e w3 ⟨b3, bs3, rfl, hb3, ho3⟩; have H3 : Hid (Below W2.heap.size W2 w3) := Lib.hid (by first | exact bch H2d.out hb3 | exact bch (balloc H2d.out _) hb3); have x3 := BX.out _ H3.out; have O3 := Lib.hid ho3; (first | (have R7 := Lib.hid (show Row w3 w2.heap.size 25 [.int .i64 0, .slice none 0 0] from (Row.new w2.drew 25 #[.int .i64 0, .slice none 0 0]).on hb3)) | skip); clear hb3 ho3))
        all_goals
          go_wp2_with fail
          go_meet
          first
          | exact ⟨rfl, _, W1, A0, c0, svs, out, rfl, balloc H5.out _, H5.out.size, Row.new w5 _ _, G5.out.1, rws_sv (G6.out.1.on (balloc (Below.refl _ _) _)) (G6.out.2.on (balloc (Below.refl _ _) _))⟩
          | exact ⟨rfl, _, W1, A0, c0, svs, out, rfl, belT H5.out (by first | exact hw2 | exact H3.out.size | exact H4.out.size) _ _, (by first | exact hw2 | exact H3.out.size | exact H4.out.size), putT R7.out _ _, G5.out.1, rws_sv (G6.out.1.only (onlyT _ _ _ _) fun b hb => .inr ⟨25, by decide, by subst hb; exact R7.out.ty⟩) (G6.out.2.only (onlyT _ _ _ _) fun b hb => .inr ⟨25, by decide, by subst hb; exact R7.out.ty⟩)⟩
      case rest =>
      obtain ⟨rfl, p, W1, A0, c0, svs, out, rfl, hBc, hpc, hrc, hD, hrw⟩ := hcut
      obtain ⟨C, hC⟩ : ∃ C, C = wc := ⟨_, rfl⟩
      subst hC
      have hpl := hrc.lt
      have BD := Lib.hid (And.intro hBc (And.intro hrc (And.intro hD hrw)))
      have BY := Lib.hid (fun (z : World) (hz : Below C.heap.size C z) => BX.out z (bch BD.out.1 hz))
      have BW := Lib.hid (fun (z : World) (hz : Below C.heap.size C z) => show (z.cell? ⟨p, 0, none⟩ = some (.int .i64 W1) ∧ z.cell? ⟨p, 1, none⟩ = some (.slice A0 out.length c0)) from ⟨(BD.out.2.1.on hz).cell 0, (BD.out.2.1.on hz).cell 1⟩)
      have BR := Lib.hid (fun (z : World) (hz : Below C.heap.size C z) => show Rws z z.heap.size A0 out from BD.out.2.2.2.on hz)
      have U1 := Lib.hid (fun (z : World) (hz : Below C.heap.size C z) => T1.out z (bch BD.out.1 hz))
      have U2 := Lib.hid (fun (z : World) (hz : Below C.heap.size C z) => T2.out z (bch BD.out.1 hz))
      clear hBc hpc hrc hD hrw x2 y2 hw2 H2 H2d K1 K2 H1 hpl
      have z0 := BY.out _ (Below.refl _ _)
      go_wp2_with fail
      refine (U1.out _ (Below.refl _ _)).mono ?_
      rintro e w6 ⟨b6, bs6, rfl, hb6, ho6⟩
      have H6 := Lib.hid hb6
      have O6 := Lib.hid ho6
      have z6 := fun o => BY.out (w6.alloc o) (balloc H6.out o)
      clear hb6 ho6
      go_wp2_with fail
      refine (U2.out _ (balloc H6.out _)).mono ?_
      rintro e w7 ⟨b7, bs7, rfl, hb7, ho7⟩
      have H7 := Lib.hid (bch (balloc H6.out _) hb7)
      have O7 := Lib.hid ho7
      have B6 := Lib.hid ((Row.new w6 25 #[.int .i64 W, .slice (some ⟨b6, 0, none⟩) xs.length xs.length]).on hb7)
      have O6' := Lib.hid ((O6.out.on (balloc (Below.refl _ w6) (.cells #[.int .i64 W, .slice (some ⟨b6, 0, none⟩) xs.length xs.length] 25))).on hb7)
      clear hb7 ho7 z6 z0
      obtain ⟨D, hD⟩ : ∃ D, w7.alloc (.cells #[.int .i64 W', .slice (some ⟨b7, 0, none⟩) ys.length ys.length] 25) = D := ⟨_, rfl⟩
      have H7D : Below w7.heap.size w7 D := by rw [← hD]; exact balloc (Below.refl _ _) _
      have B7 : Row D w7.heap.size 25 [.int .i64 W', .slice (some ⟨b7, 0, none⟩) ys.length ys.length] := by rw [← hD]; exact Row.new _ _ _
      have XD := Lib.hid (show Below C.heap.size C D ∧ Row D w6.heap.size 25 [.int .i64 W, .slice (some ⟨b6, 0, none⟩) xs.length xs.length] ∧ Row D w7.heap.size 25 [.int .i64 W', .slice (some ⟨b7, 0, none⟩) ys.length ys.length] ∧ OwnRs valC 41 40 D C.heap.size b6 bs6 xs [] ∧ OwnRs valC 41 40 D (w6.heap.size + 1) b7 bs7 ys [] from
        ⟨bch H7.out H7D, B6.out.on H7D, B7, O6'.out.on H7D, by have := O7.out.on H7D; simpa using this⟩)
      have HDE := Lib.hid hD
      have BZ := Lib.hid (fun (z : World) (hz : Below D.heap.size D z) => show (z.cell? ⟨w6.heap.size, 0, none⟩ = some (.int .i64 W) ∧ z.cell? ⟨w6.heap.size, 1, none⟩ = some (.slice (some ⟨b6, 0, none⟩) xs.length xs.length) ∧ z.cell? ⟨w7.heap.size, 0, none⟩ = some (.int .i64 W') ∧ z.cell? ⟨w7.heap.size, 1, none⟩ = some (.slice (some ⟨b7, 0, none⟩) ys.length ys.length))
        from ⟨(XD.out.2.1.on hz).cell 0, (XD.out.2.1.on hz).cell 1, (XD.out.2.2.1.on hz).cell 0, (XD.out.2.2.1.on hz).cell 1⟩)
      have zD := BZ.out _ (Below.refl _ _)
      clear H7D B7 hD
      go_upto_region 11 with fail
      rw [HDE.out]
      go_wp2_with fail
      refine Calls.mono (IP.out _ _ _ _ _ _ _ XD.out.2.2.2.1 XD.out.2.2.2.2) ?_
      intro e w8 hip
      obtain ⟨W8, A8, c8, cp, rfl, hT8, how8, hcc8, hb8⟩ := hip.read
      obtain ⟨rfl, hout⟩ := tab_same HV.out BD.out.2.2.1 hT8
      have hbd := tabC_bd (fun hq r hr => (HV.out hq).2 r ((HV.out hq).1.mem_iff.2 hr)) hT8
      rw [hout] at hbd
      have hlen : cp.length = out.length := by rw [← hout, List.length_map]
      rw [hlen] at how8 ⊢
      have CP := Lib.hid (show Ow D.heap.size 41 1 svC w8 (.slice A8 cp.length c8) (cp.map (·.1)) ∧ Cps D.heap.size w8 cp from ⟨by rw [hlen]; exact how8, hcc8⟩)
      have BO := Lib.hid (And.intro hout (And.intro hlen hbd))
      have H8 := Lib.hid hb8
      have HC8 := Lib.hid (bch XD.out.1 hb8)
      have R8 := Lib.hid (fun (z : World) (h1 : Ow D.heap.size 41 1 svC z (.slice A8 cp.length c8) (cp.map (·.1))) (h2 : Cps D.heap.size z cp) => show Rws z z.heap.size A8 out from by rw [← BO.out.1]; exact rws_cp h1 h2)
      clear hip hT8 hout hbd how8 hcc8 hb8 zD hlen
      obtain ⟨E, hE⟩ : ∃ E, w8.alloc (.cells #[.int .i64 W8, .slice A8 out.length c8] 25) = E := ⟨_, rfl⟩
      have H8E : Below w8.heap.size w8 E := by rw [← hE]; exact balloc (Below.refl _ _) _
      have B8 : Row E w8.heap.size 25 [.int .i64 W8, .slice A8 out.length c8] := by rw [← hE]; exact Row.new _ _ _
      have HEE := Lib.hid hE
      have XE := Lib.hid (show Below C.heap.size C E ∧ Below D.heap.size D E ∧ Row E w8.heap.size 25 [.int .i64 W8, .slice A8 out.length c8] ∧ Ow D.heap.size 41 1 svC E (.slice A8 cp.length c8) (cp.map (·.1)) ∧ Cps D.heap.size E cp from
        ⟨bch HC8.out H8E, bch H8.out H8E, B8, CP.out.1.on H8E, CP.out.2.on H8E⟩)
      have hll : D.heap.size ≤ w8.heap.size := H8.out.size
      clear H8E B8 hE
      have HLL := Lib.hid hll
      clear hll
      -- a world behind E: what is read there
      have BE := Lib.hid (fun (z : World) (hz : Below E.heap.size E z) => show (z.cell? ⟨w8.heap.size, 0, none⟩ = some (.int .i64 W8) ∧ z.cell? ⟨w8.heap.size, 1, none⟩ = some (.slice A8 out.length c8) ∧ z.cell? ⟨p, 0, none⟩ = some (.int .i64 W8) ∧ z.cell? ⟨p, 1, none⟩ = some (.slice A0 out.length c0))
        from ⟨(XE.out.2.2.1.on hz).cell 0, (XE.out.2.2.1.on hz).cell 1, (BW.out z (bch XE.out.1 hz)).1, (BW.out z (bch XE.out.1 hz)).2⟩)
      have BQ := Lib.hid (fun (z : World) (hz : Below E.heap.size E z) => eqTable_ok W8 W8 A8 A0 c8 c0 out out z (by have := BO.out.2.2.1; unfold maxLen; omega) (by have := BO.out.2.2.1; unfold maxLen; omega) (R8.out z (XE.out.2.2.2.1.on hz) (XE.out.2.2.2.2.on hz)) (BR.out z (bch XE.out.1 hz)) true (by simp))
      have zE := BE.out _ (Below.refl _ _)
      have hqq : (q != q) = false := by simp
      go_upto_region 12 with fail
      rw [HEE.out]
      go_wp2_with fail
      refine (BQ.out _ (Below.refl _ _)).mono ?_
      rintro e w9 ⟨rfl, hb9⟩
      have H9 := Lib.hid hb9
      clear hb9 zE
      have KT := Lib.hid (fun (z : World) (hz : Below E.heap.size E z) => show ((z.cell? ⟨w6.heap.size, 0, none⟩ = some (.int .i64 W) ∧ z.cell? ⟨w6.heap.size, 1, none⟩ = some (.slice (some ⟨b6, 0, none⟩) xs.length xs.length)) ∧ (z.cell? ⟨w7.heap.size, 0, none⟩ = some (.int .i64 W') ∧ z.cell? ⟨w7.heap.size, 1, none⟩ = some (.slice (some ⟨b7, 0, none⟩) ys.length ys.length)) ∧ z.cell? ⟨w.heap.size, 0, none⟩ = some (.int .i64 W) ∧ z.cell? ⟨w.heap.size, 1, none⟩ = some (.slice A xs.length c) ∧ z.cell? ⟨w.heap.size + 1, 0, none⟩ = some (.int .i64 W') ∧ z.cell? ⟨w.heap.size + 1, 1, none⟩ = some (.slice A' ys.length c'))
        from ⟨⟨(BZ.out z (bch XE.out.2.1 hz)).1, (BZ.out z (bch XE.out.2.1 hz)).2.1⟩, ⟨(BZ.out z (bch XE.out.2.1 hz)).2.2.1, (BZ.out z (bch XE.out.2.1 hz)).2.2.2⟩, BY.out z (bch XE.out.1 hz)⟩)
      have X6 := Lib.hid (fun (z : World) (hz : Below E.heap.size E z) => (XD.out.2.2.2.1.on (bch XE.out.2.1 hz)).svs (by omega) valC_length HM.out.1)
      have X7 := Lib.hid (fun (z : World) (hz : Below E.heap.size E z) => (XD.out.2.2.2.2.on (bch XE.out.2.1 hz)).svs (by omega) valC_length HM.out.2)
      go_upto_region 14 with fail
      have Hd9 := Lib.hid (show Below E.heap.size E w9.drew from H9.out.drew)
      have hS9 := KT.out _ Hd9.out
      go_region_held3 (fun z => (z.cell? ⟨w6.heap.size, 0, none⟩ = some (.int .i64 W) ∧ z.cell? ⟨w6.heap.size, 1, none⟩ = some (.slice (some ⟨b6, 0, none⟩) xs.length xs.length)) ∧ (z.cell? ⟨w7.heap.size, 0, none⟩ = some (.int .i64 W') ∧ z.cell? ⟨w7.heap.size, 1, none⟩ = some (.slice (some ⟨b7, 0, none⟩) ys.length ys.length)) ∧ z.cell? ⟨w.heap.size, 0, none⟩ = some (.int .i64 W) ∧ z.cell? ⟨w.heap.size, 1, none⟩ = some (.slice A xs.length c) ∧ z.cell? ⟨w.heap.size + 1, 0, none⟩ = some (.int .i64 W') ∧ z.cell? ⟨w.heap.size + 1, 1, none⟩ = some (.slice A' ys.length c'))
        (assumption)
        (first
          | (go_at_call 29; refine (U1.out _ (bch XE.out.1 Hd9.out)).mono ?_; rintro e w10 ⟨b10, bs10, rfl, hb10, ho10⟩; have H10 := Lib.hid (bch Hd9.out hb10); have hS10 := KT.out _ H10.out; have O10 := Lib.hid ho10; clear hb10 ho10)
          | (go_at_call 30; refine (eqTable_ok W W _ _ _ _ xs xs _ Hn.out.1 Hn.out.1 (X6.out _ H10.out) (O10.out.svs (by omega) valC_length HM.out.1) true (by simp)).mono ?_; rintro e w11 ⟨rfl, hb11⟩; have H11 := Lib.hid (bch H10.out hb11); have hS11 := KT.out _ H11.out; clear hb11))
      go_upto_region 16 with fail
      have Hd11 := Lib.hid (show Below E.heap.size E w11.drew from H11.out.drew)
      have hS11' := KT.out _ Hd11.out
      go_region_held3 (fun z => (z.cell? ⟨w6.heap.size, 0, none⟩ = some (.int .i64 W) ∧ z.cell? ⟨w6.heap.size, 1, none⟩ = some (.slice (some ⟨b6, 0, none⟩) xs.length xs.length)) ∧ (z.cell? ⟨w7.heap.size, 0, none⟩ = some (.int .i64 W') ∧ z.cell? ⟨w7.heap.size, 1, none⟩ = some (.slice (some ⟨b7, 0, none⟩) ys.length ys.length)) ∧ z.cell? ⟨w.heap.size, 0, none⟩ = some (.int .i64 W) ∧ z.cell? ⟨w.heap.size, 1, none⟩ = some (.slice A xs.length c) ∧ z.cell? ⟨w.heap.size + 1, 0, none⟩ = some (.int .i64 W') ∧ z.cell? ⟨w.heap.size + 1, 1, none⟩ = some (.slice A' ys.length c'))
        (assumption)
        (first
          | (go_at_call 29; refine (U2.out _ (bch XE.out.1 Hd11.out)).mono ?_; rintro e w12 ⟨b12, bs12, rfl, hb12, ho12⟩; have H12 := Lib.hid (bch Hd11.out hb12); have hS12 := KT.out _ H12.out; have O12 := Lib.hid ho12; clear hb12 ho12)
          | (go_at_call 30; refine (eqTable_ok W' W' _ _ _ _ ys ys _ Hn.out.2 Hn.out.2 (X7.out _ H12.out) (O12.out.svs (by omega) valC_length HM.out.2) true (by simp)).mono ?_; rintro e w13 ⟨rfl, hb13⟩; have H13 := Lib.hid (bch H12.out hb13); have hS13 := KT.out _ H13.out; clear hb13))
      clear hS9 hS10 hS11 hS11' hS12 Hd9 Hd11 H9 H10 H11 H12 O10 O12
      have h61 : w6.heap.size + 1 ≤ w7.heap.size := B6.out.lt
      have HSZ := Lib.hid (show C.heap.size ≤ w6.heap.size ∧ w6.heap.size + 1 ≤ w7.heap.size ∧ w7.heap.size < D.heap.size from ⟨H6.out.size, h61, XD.out.2.2.1.lt⟩)
      have hb6' : ∀ x ∈ bs6, C.heap.size ≤ x ∧ x < w6.heap.size := fun x hx => ⟨(O6.out.low x hx).1, by
        obtain ⟨i, hi⟩ := List.getElem?_of_mem hx
        have hil := (List.getElem?_eq_some_iff.1 hi).1
        rw [O6.out.len] at hil
        exact (O6.out.inner i x _ hi (List.getElem?_eq_getElem hil)).lt⟩
      have hb7' : ∀ x ∈ bs7, w6.heap.size + 1 ≤ x ∧ x < w7.heap.size := fun x hx => ⟨by have := (O7.out.low x hx).1; simpa using this, by
        obtain ⟨i, hi⟩ := List.getElem?_of_mem hx
        have hil := (List.getElem?_eq_some_iff.1 hi).1
        rw [O7.out.len] at hil
        exact (O7.out.inner i x _ hi (List.getElem?_eq_getElem hil)).lt⟩
      have HS67 := Lib.hid (And.intro hb6' hb7')
      clear h61 hb6' hb7'
      have y13 := BE.out _ H13.out
      have M6 := Lib.hid (markTable2_ok W C.heap.size b6 xs.length bs6 xs [] 1 w13 (by omega) (by omega) HX.out.1 HX.out.2.2.1 (XD.out.2.2.2.1.on (bch XE.out.2.1 H13.out)))
      go_upto_region 19 with fail
      go_wp2_with fail
      refine M6.out.mono ?_
      rintro e w14 ⟨k6, rfl, hk6, hk6', hon6⟩
      have F13 := Lib.hid (show Below C.heap.size C w13 from bch XE.out.1 H13.out)
      have O7m := Lib.hid ((XD.out.2.2.2.2.on (bch XE.out.2.1 H13.out)).keep (w' := w14) fun x h1 h2 => hon6.block x h2 fun hx => by have := (HS67.out.1 x hx).2; omega)
      have B7m := Lib.hid (((XD.out.2.2.1.on (bch XE.out.2.1 H13.out))).only hon6 fun hx => by have := (HS67.out.1 _ hx).2; have := HSZ.out.2.1; omega)
      have M7 := Lib.hid (markTable2_ok W' (w6.heap.size + 1) b7 ys.length bs7 ys [] k6 w14 hk6 (by omega) HX.out.2.1 HX.out.2.2.2 O7m.out)
      have d0 : w14.cell? ⟨w7.heap.size, 0, none⟩ = some (.int .i64 W') := B7m.out.cell 0
      have d1 : w14.cell? ⟨w7.heap.size, 1, none⟩ = some (.slice (some ⟨b7, 0, none⟩) ys.length ys.length) := B7m.out.cell 1
      have HO6 := Lib.hid hon6
      have HK6 := Lib.hid (And.intro hk6 hk6')
      clear hon6 hk6 hk6' hS13 y13
      go_wp2_with fail
      refine M7.out.mono ?_
      rintro e w15 ⟨k7, rfl, hk7, hk7', hon7⟩
      -- the marks of x0 and x1 lie between C and D
      have F15 := Lib.hid (show Below C.heap.size C w15 from
        Only.from_ (Only.from_ F13.out rfl HO6.out fun i hi => (HS67.out.1 i hi).1) rfl hon7 fun i hi => by have := (HS67.out.2 i hi).1; have := HSZ.out.1; omega)
      have G13 := Lib.hid (show Ow D.heap.size 41 1 svC w13 (.slice A8 cp.length c8) (cp.map (·.1)) ∧ Cps D.heap.size w13 cp ∧ Row w13 w8.heap.size 25 [.int .i64 W8, .slice A8 out.length c8] from ⟨XE.out.2.2.2.1.on H13.out, XE.out.2.2.2.2.on H13.out, XE.out.2.2.1.on H13.out⟩)
      have G15 := Lib.hid (show Ow D.heap.size 41 1 svC w15 (.slice A8 cp.length c8) (cp.map (·.1)) ∧ Cps D.heap.size w15 cp ∧ Row w15 w8.heap.size 25 [.int .i64 W8, .slice A8 out.length c8] from
        ⟨(G13.out.1.only HO6.out fun b hb => .inl (by have := (HS67.out.1 b hb).2; have := HSZ.out; omega)).only hon7 fun b hb => .inl (by have := (HS67.out.2 b hb).2; have := HSZ.out; omega),
         (G13.out.2.1.only HO6.out fun b hb => .inl (by have := (HS67.out.1 b hb).2; have := HSZ.out; omega)).only hon7 fun b hb => .inl (by have := (HS67.out.2 b hb).2; have := HSZ.out; omega),
         (G13.out.2.2.only HO6.out fun hx => by have := (HS67.out.1 _ hx).2; have := HSZ.out; have := HLL.out; omega).only hon7 fun hx => by have := (HS67.out.2 _ hx).2; have := HSZ.out; have := HLL.out; omega⟩)
      have hk7n : ¬ (k7 < 0) := by omega
      have HK7 := Lib.hid hk7
      clear hon7 hk7 hk7' d0 d1
      have g0 : w15.cell? ⟨w8.heap.size, 0, none⟩ = some (.int .i64 W8) := G15.out.2.2.cell 0
      have g1 : w15.cell? ⟨w8.heap.size, 1, none⟩ = some (.slice A8 out.length c8) := G15.out.2.2.cell 1
      have g2 := BW.out _ F15.out
      have Q15 := Lib.hid (eqTable_ok W8 W8 A8 A0 c8 c0 out out w15 (by have := BO.out.2.2.1; unfold maxLen; omega) (by have := BO.out.2.2.1; unfold maxLen; omega) (R8.out w15 G15.out.1 G15.out.2.1) (BR.out w15 F15.out) true (by simp))
      go_wp2_with fail
      refine Q15.out.mono ?_
      rintro e w16 ⟨rfl, hb16⟩
      have G16 := Lib.hid (show Ow D.heap.size 41 1 svC w16 (.slice A8 cp.length c8) (cp.map (·.1)) ∧ Cps D.heap.size w16 cp ∧ Row w16 w8.heap.size 25 [.int .i64 W8, .slice A8 out.length c8] from ⟨G15.out.1.on hb16, G15.out.2.1.on hb16, G15.out.2.2.on hb16⟩)
      have F16 := Lib.hid (bch F15.out hb16)
      clear hb16 g0 g1 g2
      have g0 : w16.cell? ⟨w8.heap.size, 0, none⟩ = some (.int .i64 W8) := G16.out.2.2.cell 0
      have g1 : w16.cell? ⟨w8.heap.size, 1, none⟩ = some (.slice A8 cp.length c8) := by rw [BO.out.2.1]; exact G16.out.2.2.cell 1
      have HCL : ∀ p' ∈ cp, p'.2.length ≤ 16 := fun p' hp => BO.out.2.2.2 p'.2 (by rw [← BO.out.1]; exact List.mem_map_of_mem hp)
      have hcl : cp.length ≤ 400 := by rw [BO.out.2.1]; exact BO.out.2.2.1
      have M8 := Lib.hid (markTableC_ok W8 D.heap.size D.heap.size A8 c8 cp 1 w16 (by omega) (by omega) hcl HCL G16.out.1 G16.out.2.1)
      have HCL := Lib.hid HCL
      have hml : mlen cp ≤ 16 * 400 := Nat.le_trans (mlen_le HCL.out) (Nat.mul_le_mul_left _ hcl)
      obtain ⟨mk, hmk⟩ : ∃ mk : Int, 1 + 2 * (mlen cp : Int) = mk := ⟨_, rfl⟩
      have hmk0 : ¬ (mk < 0) := by omega
      have hmkk : (mk != mk) = false := by simp
      rw [hmk] at M8
      have HMK := Lib.hid (And.intro hmk hcl)
      clear hml hmk hcl
      go_upto_region 24 with fail
      go_wp2_with fail
      refine M8.out.mono ?_
      rintro e w17 ⟨rfl, how17, hcp17, hon17⟩
      have hin : ∀ i, (∃ p' ∈ cp, svB p'.1 = some i) → D.heap.size ≤ i ∧ TyAt w16 i 40 := fun i ⟨p', hp, hi⟩ => by
        have := (G16.out.2.1.1 p' hp).2.ty i hi
        exact ⟨this.1, this.2.2⟩
      have G17 := Lib.hid (show Ow D.heap.size 41 1 svC w17 (.slice A8 cp.length c8) (cp.map (·.1)) ∧ Cps D.heap.size w17 (marks 1 cp) ∧ Row w17 w8.heap.size 25 [.int .i64 W8, .slice A8 out.length c8] from
        ⟨how17, hcp17, G16.out.2.2.only hon17 fun hx => by obtain ⟨_, ht⟩ := hin _ hx; exact (TyAt.ne G16.out.2.2.ty ht (by decide)) rfl⟩)
      have F17 := Lib.hid (Only.from_ F16.out rfl hon17 fun i hi => by have := (hin i hi).1; have := XD.out.1.size; omega)
      clear how17 hcp17 hon17 hin g0 g1
      have g0 : w17.cell? ⟨w8.heap.size, 0, none⟩ = some (.int .i64 W8) := G17.out.2.2.cell 0
      have g1 : w17.cell? ⟨w8.heap.size, 1, none⟩ = some (.slice A8 cp.length c8) := by rw [BO.out.2.1]; exact G17.out.2.2.cell 1
      have M9 := Lib.hid (fun (z : World) (hz : Below w17.heap.size w17 z) => heldTable_ok W8 D.heap.size D.heap.size A8 c8 cp 1 z (by omega) (by omega) HMK.out.2 HCL.out (G17.out.1.on hz) (G17.out.2.1.on hz))
      rw [HMK.out.1] at M9
      go_wp2_with fail
      refine (M9.out _ (Below.refl _ _)).mono ?_
      rintro e w18 ⟨rfl, hb18⟩
      have H18 := Lib.hid hb18
      have F18 := Lib.hid (bch F17.out hb18)
      clear hb18 g0 g1
      go_upto_region 31 with fail
      have H2d := Lib.hid (show Below C.heap.size C w18.drew from F18.out.drew)
      have K2d := Lib.hid (show Below w18.heap.size w18 w18.drew from (Below.refl _ _).drew)
      have y2 := BY.out _ H2d.out
      go_cut [19, 20] (fun s6 s7 wx => s7 = .bool q ∧ ∃ (p2 : Nat) (A0 : Option Addr) (c0 : Nat), s6 = .pointer (some ⟨p2, 0, none⟩) ∧ Below w18.heap.size w18 wx ∧ Row wx p2 25 [.int .i64 W8, .slice A0 out.length c0] ∧ Rws wx wx.heap.size A0 out)
      case first =>
        go_region_held3 (fun z => z.cell? ⟨w.heap.size, 0, none⟩ = some (.int .i64 W) ∧ z.cell? ⟨w.heap.size, 1, none⟩ = some (.slice A xs.length c) ∧ z.cell? ⟨w.heap.size + 1, 0, none⟩ = some (.int .i64 W') ∧ z.cell? ⟨w.heap.size + 1, 1, none⟩ = some (.slice A' ys.length c'))
          (first | assumption | exact BY.out _ (balloc H2d.out _) | exact BY.out _ (bch F18.out (balloc K3.out _)) | exact BY.out _ (bch F18.out (balloc K4.out _)) | exact BY.out _ (bch F18.out (balloc K5.out _)) | exact BY.out _ (bch F18.out (belT K5.out (by first | exact Nat.le_refl _ | exact K3.out.size | exact K4.out.size) _ _)))
          (first
            | (go_at_call 26; refine Calls.mono (IP.out _ _ _ _ _ _ _ (by first | exact O3'.out | exact O3'.out.on (balloc (Below.refl _ _) _)) (by first | exact O4.out | exact O4.out.on (balloc (Below.refl _ _) _))) ?_; intro e w5 hsp; obtain ⟨W1, A0, c0, cp1, rfl, hD, how, hcc, hb5⟩ := hsp.read; obtain ⟨rfl, hout⟩ := tab_same HV.out BD.out.2.2.1 hD; have hlen : cp1.length = out.length := (by rw [← hout, List.length_map]); rw [hlen] at how ⊢; have K5 : Hid (Below w18.heap.size w18 w5) := Lib.hid (by first | exact bch K4.out hb5 | exact bch (balloc K4.out _) hb5); have x5 := BY.out _ (bch F18.out K5.out); (first | (have R7 := Lib.hid (R7.out.on hb5)) | (have R7 := Lib.hid ((Row.new w4 25 #[.int .i64 0, .slice none 0 0]).on hb5)) | skip); have G6 := Lib.hid (And.intro hout (And.intro (show Ow _ 41 1 svC w5 (.slice A0 cp1.length c0) (cp1.map (·.1)) by rw [hlen]; exact how) hcc)); clear hb5 hsp hD how hcc hout hlen; (first | (have q0 := R7.out.lt; have q1 := R7.out.frozen 0; have q2 := R7.out.frozen 1; have q3 := (show _ = some (Value.int .i64 0) from R7.out.cell 0); have q4 := (show _ = some (Value.slice none 0 0) from R7.out.cell 1)) | skip))
            | (go_at_call_of 29 (Value.int .i64 W'); refine (U2.out _ (by first | exact bch F18.out K3.out | exact bch F18.out (balloc K3.out _))).mono ?_; rintro e w4 ⟨b4, bs4, rfl, hb4, ho4⟩; have K4 : Hid (Below w18.heap.size w18 w4) := Lib.hid (by first | exact bch K3.out hb4 | exact bch (balloc K3.out _) hb4); have x4 := BY.out _ (bch F18.out K4.out); have O3' : Hid (OwnRs valC 41 40 w4 _ b3 bs3 xs []) := Lib.hid (by first | exact O3.out.on hb4 | exact (O3.out.on (balloc (Below.refl _ _) _)).on hb4); have O4 := Lib.hid ho4; (first | (have R7 := Lib.hid (R7.out.on hb4)) | (have R7 := Lib.hid ((Row.new w3 25 #[.int .i64 0, .slice none 0 0]).on hb4)) | skip); clear hb4 ho4)
            | (go_at_call_of 29 (Value.int .i64 W); refine (U1.out _ (by first | exact H2d.out | exact balloc H2d.out _)).mono ?_; rintro e w3 ⟨b3, bs3, rfl, hb3, ho3⟩; have K3 : Hid (Below w18.heap.size w18 w3) := Lib.hid (by first | exact bch K2d.out hb3 | exact bch (balloc K2d.out _) hb3); have x3 := BY.out _ (bch F18.out K3.out); have O3 := Lib.hid ho3; (first | (have R7 := Lib.hid (show Row w3 w18.heap.size 25 [.int .i64 0, .slice none 0 0] from (Row.new w18.drew 25 #[.int .i64 0, .slice none 0 0]).on hb3)) | skip); clear hb3 ho3))
        all_goals
          go_wp2_with fail
          go_meet
          first
          | exact ⟨rfl, _, A0, c0, rfl, balloc K5.out _, Row.new w5 _ _, by rw [← G6.out.1]; exact rws_cp (G6.out.2.1.on (balloc (Below.refl _ _) _)) (G6.out.2.2.on (balloc (Below.refl _ _) _))⟩
          | exact ⟨rfl, _, A0, c0, rfl, belT K5.out (by first | exact Nat.le_refl _ | exact K3.out.size | exact K4.out.size) _ _, putT R7.out _ _, by rw [← G6.out.1]; exact rws_cp (G6.out.2.1.only (onlyT _ _ _ _) fun b hb => .inr ⟨25, by decide, by subst hb; exact R7.out.ty⟩) (G6.out.2.2.only (onlyT _ _ _ _) fun b hb => .inr ⟨25, by decide, by subst hb; exact R7.out.ty⟩)⟩
      case rest =>
      obtain ⟨rfl, p2, A9, c9, rfl, hBc, hrc, hrw⟩ := hcut
      obtain ⟨L, hL⟩ : ∃ L, L = wc := ⟨_, rfl⟩
      subst hL
      have FL := Lib.hid (bch F18.out hBc)
      have HL := Lib.hid (bch H18.out hBc)
      have g2 := BW.out _ FL.out
      have g3 : L.cell? ⟨p2, 0, none⟩ = some (.int .i64 W8) := hrc.cell 0
      have g4 : L.cell? ⟨p2, 1, none⟩ = some (.slice A9 out.length c9) := hrc.cell 1
      have Q9 := Lib.hid (eqTable_ok W8 W8 A9 A0 c9 c0 out out L (by have := BO.out.2.2.1; unfold maxLen; omega) (by have := BO.out.2.2.1; unfold maxLen; omega) hrw (BR.out _ FL.out) true (by simp))
      clear hBc hrc hrw y2
      go_wp2_with fail
      refine Q9.out.mono ?_
      rintro e w19 ⟨rfl, hb19⟩
      have F19 := Lib.hid (bch FL.out hb19)
      have H19 := Lib.hid (bch HL.out hb19)
      clear hb19 g2 g3 g4
      have g0 : w19.cell? ⟨w8.heap.size, 0, none⟩ = some (.int .i64 W8) := (G17.out.2.2.on H19.out).cell 0
      have g1 : w19.cell? ⟨w8.heap.size, 1, none⟩ = some (.slice A8 cp.length c8) := by rw [BO.out.2.1]; exact (G17.out.2.2.on H19.out).cell 1
      go_upto_region 35 with fail
      go_wp2_with fail
      refine (M9.out _ H19.out).mono ?_
      rintro e w20 ⟨rfl, hb20⟩
      have F20 := Lib.hid (bch HW.out.1 (bch BD.out.1 (bch F19.out hb20)))
      clear hb20 g0 g1
      go_wp2_with fail
      go_ret
      exact ⟨rfl, F20.out⟩

namespace lawFnExactMergeJoin
theorem own : ownKnob Try.prog.godebug = none := by kernel_rfl
theorem laidOut : laidOutB Try.prog = true := by kernel_rfl
theorem valTypes : ValTypes Try.prog 144 4 3 := ⟨⟨_, _, Try.underlying144, rfl, rfl, rfl, rfl⟩, Try.underlying4, Try.underlying3, by kernel_rfl, by kernel_rfl, by kernel_rfl⟩

set_option maxRecDepth 100000 in
theorem lifted (os : Os) (started : os.Started) (H : Type) (enc : TypeId × Value → H) :
    ReturnsInHanded {} Try.checked os 8 .any (Rows.fnExactMergeJoinSpec.pre6 enc Try.prog Try.f8 Rows.fnExactMergeJoinRow.domain false) (Rows.fnExactMergeJoinSpec.post enc Try.prog Try.f8 false true false false) := by
  refine returnsInHanded_of_change (C := Try.checked) own started (by kernel_rfl) Try.func8
    (ChangeSpec.witness6 (enc := enc) (C := Try.checked) false ⟨#[], #[.agg #[.int .i64 0, .slice none 0 0], .agg #[.int .i64 0, .slice none 0 0], .int .i64 0, .int .i64 0], []⟩ 8 (by kernel_rfl) (by kernel_rfl) (by kernel_rfl) (by kernel_rfl)) ?_
  intro W base args ds gs before hval0 hW hcnd _
  have hval : ∀ (j : Nat) t v, Try.f8.params[j]? = some t → args[j]? = some v → Value.okWide Try.prog W .any base t v := hval0
  have hW' := hW
  obtain ⟨p, q, hA0, hV, rfl, hfz, hnd⟩ := hW
  have hA : DataW.TrodAll enc Try.prog W 0 (fun _ => true) true Try.f8.params.toList args.toList ds p := hA0
  rw [Try.params8] at hA hval
  obtain ⟨v0, vs0, d0, ds0, p0, q0, hargs, rfl, rfl, h0, r0⟩ := trodAll_cons hA
  obtain ⟨v1, vs1, d1, ds1, p1, q1, rfl, rfl, rfl, h1, r1⟩ := trodAll_cons r0
  obtain ⟨v2, vs2, d2, ds2, p2, q2, rfl, rfl, rfl, h2, r2⟩ := trodAll_cons r1
  obtain ⟨v3, vs3, d3, ds3, p3, q3, rfl, rfl, rfl, h3, r3⟩ := trodAll_cons r2
  obtain ⟨rfl, rfl, rfl⟩ := trodAll_nil r3
  obtain rfl : args = #[v0, v1, v2, v3] := by cases args; simp_all
  obtain ⟨rfl, rfl⟩ := trodVars_none hV
  obtain ⟨cs0, rfl, hz0⟩ := okWide_struct Try.underlying46 (hval 0 46 v0 rfl rfl)
  obtain ⟨cs0⟩ := cs0
  obtain ⟨cs1, rfl, hz1⟩ := okWide_struct Try.underlying46 (hval 1 46 v1 rfl rfl)
  obtain ⟨cs1⟩ := cs1
  obtain ⟨n2, rfl⟩ := okWide_int Try.underlying3 (hval 2 3 v2 rfl rfl)
  obtain ⟨n3, rfl⟩ := okWide_int Try.underlying3 (hval 3 3 v3 rfl rfl)
  have k0 := h0
  have lt0 : ∀ x ∈ p0, x.block < W.heap.size := by obtain ⟨m, hm⟩ := k0; exact DataW.trod_lt m _ _ _ hm
  obtain ⟨f0, h0⟩ := h0
  have k1 := h1
  have lt1 : ∀ x ∈ p1, x.block < W.heap.size := by obtain ⟨m, hm⟩ := k1; exact DataW.trod_lt m _ _ _ hm
  obtain ⟨f1, h1⟩ := h1
  have k2 := h2
  have lt2 : ∀ x ∈ p2, x.block < W.heap.size := by obtain ⟨m, hm⟩ := k2; exact DataW.trod_lt m _ _ _ hm
  obtain ⟨f2, h2⟩ := h2
  have k3 := h3
  have lt3 : ∀ x ∈ p3, x.block < W.heap.size := by obtain ⟨m, hm⟩ := k3; exact DataW.trod_lt m _ _ _ hm
  obtain ⟨f3, h3⟩ := h3
  obtain ⟨W0, a0, c0, xs0, hcs0, _, hc0, hm0, s0⟩ := open_tab valTypes Try.underlying44 Try.underlying128 (by kernel_rfl) (by kernel_rfl) ⟨_, _, Try.underlying46, rfl, rfl, rfl, rfl⟩ (hz0.trans (by kernel_rfl)) h0
  have hcs0 : cs0 = [.int .i64 W0, .slice a0 xs0.length c0] := hcs0
  subst hcs0
  obtain ⟨W1, a1, c1, xs1, hcs1, _, hc1, hm1, s1⟩ := open_tab valTypes Try.underlying44 Try.underlying128 (by kernel_rfl) (by kernel_rfl) ⟨_, _, Try.underlying46, rfl, rfl, rfl, rfl⟩ (hz1.trans (by kernel_rfl)) h1
  have hcs1 : cs1 = [.int .i64 W1, .slice a1 xs1.length c1] := hcs1
  subst hcs1
  have wf2 : (Lit.int .i64 n2).wf = true := by
    obtain ⟨_, hq, _, wq⟩ := DataW.trod_int Try.underlying3 h2
    cases hq
    exact wq
  have wf3 : (Lit.int .i64 n3).wf = true := by
    obtain ⟨_, hq, _, wq⟩ := DataW.trod_int Try.underlying3 h3
    cases hq
    exact wq
  clear hA0 hval0
  refine (FnExactMergeJoin_walk W0 a0 c0 xs0 W1 a1 c1 xs1 n2 n3 W (Nat.le_trans hc0 hm0) s0 (Nat.le_trans hc1 hm1) s1 wf2 wf3).mono fun e W' ⟨he, bel⟩ => ?_
  subst he
  exact ⟨_, rfl, _, _, _, [], _, [], hW', trodAll_mk1 (shut_bool Try.underlying4 _), (trodAll_cons_mk (Below.trod laidOut (by kernel_rfl) (of_decide_eq_true (by kernel_rfl)) k0 bel lt0) (trodAll_cons_mk (Below.trod laidOut (by kernel_rfl) (of_decide_eq_true (by kernel_rfl)) k1 bel lt1) (trodAll_cons_mk (Below.trod laidOut (by kernel_rfl) (of_decide_eq_true (by kernel_rfl)) k2 bel lt2) (trodAll_cons_mk (Below.trod laidOut (by kernel_rfl) (of_decide_eq_true (by kernel_rfl)) k3 bel lt3) trodAll_mk0)))), rfl, bel.frame _, fun h => by cases h⟩

theorem over : Rows.fnExactMergeJoinRow.holds Try.pinned (OpenSpec.ofChange Rows.fnExactMergeJoinSpec) :=
  OpenClaim.holds_of_wide 8 Try.f8 rfl rfl rfl rfl rfl rfl rfl ⟨rfl, rfl, rfl, rfl, rfl⟩ rfl rfl rfl rfl rfl (by kernel_rfl) Try.func8 (by kernel_rfl)
    (of_decide_eq_true (by kernel_rfl)) (by unfold Func.isWrapper; first | (rw [if_pos (by decide +kernel)]; kernel_rfl) | (rw [if_neg (by decide +kernel)]; exact ⟨rfl, rfl⟩))
    (fun os started H enc _ => lifted os started H enc)

theorem proved : Rows.FnExactMergeJoinSaid := over
end lawFnExactMergeJoin
#print axioms lawFnExactMergeJoin.proved

end Go.Proofs.Ytldndapcbgaliaa
