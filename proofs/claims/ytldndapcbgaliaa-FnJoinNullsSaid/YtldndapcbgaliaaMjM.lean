/-
  Contract of MergeJoin: the program's.
-/
import Derived.Test.YtldndapcbgaliaaProg
import Derived.Test.YtldndapcbgaliaaMjI
namespace Go.Proofs.Ytldndapcbgaliaa
open Go.RowKit Go.Qo
set_option linter.unusedVariables false
set_option linter.unusedSimpArgs false

set_option maxHeartbeats 2000000 in
theorem canJoin_ok (W W' : Int) (A A' : Option Addr) (c c' : Nat) (xs ys : List Row1) (ca cb : Int) (w : World) (hn : xs.length ≤ 1048576) (hn' : ys.length ≤ 1048576) (h : Rws w w.heap.size A xs) (h' : Rws w w.heap.size A' ys)
    (q : Bool) (hq : q = true ↔ (((TabOk W xs ∧ 0 ≤ ca ∧ ca < W) ∧ (TabOk W' ys ∧ 0 ≤ cb ∧ cb < W')) ∧ W + W' ≤ 6)) :
    Calls Try.prog 78 #[.agg #[.int .i64 W, .slice A xs.length c], .agg #[.int .i64 W', .slice A' ys.length c'], .int .i64 ca, .int .i64 cb] w fun e w' => e = .returned (.bool q) ∧ Below w.heap.size w w' := by
  have Hq := Lib.hid hq
  obtain ⟨W0, hW0⟩ : ∃ z, (w.alloc (.cells #[.int .i64 W, .slice A xs.length c] 25)).alloc (.cells #[.int .i64 W', .slice A' ys.length c'] 25) = z := ⟨_, rfl⟩
  have B0 : Below w.heap.size w W0 := by rw [← hW0]; exact balloc (balloc (Below.refl _ _) _) _
  have r0 : Row W0 w.heap.size 25 [.int .i64 W, .slice A xs.length c] := by rw [← hW0]; exact Row.first _ _ _ _
  have r1 : Row W0 (w.heap.size + 1) 25 [.int .i64 W', .slice A' ys.length c'] := by rw [← hW0]; exact Row.second _ _ _ _
  obtain ⟨t1, ht1⟩ : ∃ t : Bool, t = true ↔ (TabOk W xs ∧ 0 ≤ ca ∧ ca < W) := ⟨_, @decide_eq_true_iff _ (Classical.propDecidable _)⟩
  obtain ⟨t2, ht2⟩ : ∃ t : Bool, t = true ↔ (TabOk W' ys ∧ 0 ≤ cb ∧ cb < W') := ⟨_, @decide_eq_true_iff _ (Classical.propDecidable _)⟩
  have H1 := Lib.hid (hasColumn_ok W ca A c xs W0 hn (h.on B0) t1 ht1)
  have H2 := Lib.hid (fun (z : World) (hz : Below w.heap.size w z) => hasColumn_ok W' cb A' c' ys z hn' (h'.on hz) t2 ht2)
  have Ht := Lib.hid (And.intro ht1 ht2)
  have HW := Lib.hid hW0
  have HB := Lib.hid (And.intro B0 (And.intro r0 r1))
  have a0 : W0.cell? ⟨w.heap.size, 0, none⟩ = some (.int .i64 W) := r0.cell 0
  have a1 : W0.cell? ⟨w.heap.size, 1, none⟩ = some (.slice A xs.length c) := r0.cell 1
  clear hq ht1 ht2 h h' B0 r0 r1 hW0
  cases t1
  · have hf : q = false := bfalse Hq.out fun ht => by have := Ht.out.1.2 ht.1.1; cases this
    subst hf
    go_enter Try.func78, Try.ntmps78
    go_upto_region 1 with fail
    rw [HW.out]
    go_wp2_with fail
    refine H1.out.mono ?_
    rintro e w1 ⟨rfl, hb1⟩
    have H1' := Lib.hid (bch HB.out.1 hb1)
    clear hb1 a0 a1
    go_wp2
    go_ret
    exact ⟨rfl, H1'.out⟩
  · cases t2
    · have hf : q = false := bfalse Hq.out fun ht => by have := Ht.out.2.2 ht.1.2; cases this
      subst hf
      go_enter Try.func78, Try.ntmps78
      go_upto_region 1 with fail
      rw [HW.out]
      go_wp2_with fail
      refine H1.out.mono ?_
      rintro e w1 ⟨rfl, hb1⟩
      have H1' := Lib.hid (bch HB.out.1 hb1)
      have b0 : w1.cell? ⟨w.heap.size + 1, 0, none⟩ = some (.int .i64 W') := (HB.out.2.2.on hb1).cell 0
      have b1 : w1.cell? ⟨w.heap.size + 1, 1, none⟩ = some (.slice A' ys.length c') := (HB.out.2.2.on hb1).cell 1
      clear hb1 a0 a1
      go_wp2_with fail
      refine (H2.out _ H1'.out).mono ?_
      rintro e w2 ⟨rfl, hb2⟩
      have H2' := Lib.hid (bch H1'.out hb2)
      clear hb2 b0 b1
      go_wp2
      go_ret
      exact ⟨rfl, H2'.out⟩
    · have hT1 := (Ht.out.1.1 rfl).1
      have hT2 := (Ht.out.2.1 rfl).1
      have hW1 := hT1.1
      have hW6 : W ≤ 6 := hT1.2.1
      have hW1' := hT2.1
      have hW6' : W' ≤ 6 := hT2.2.1
      have hwr : IntKind.i64.wrap (W + W') = W + W' := IntWalk.i64_in _ (by omega)
      have hqd : decide (W + W' ≤ 6) = q := by
        cases q
        · exact decide_eq_false fun h => by have := Hq.out.2 ⟨⟨Ht.out.1.1 rfl, Ht.out.2.1 rfl⟩, h⟩; cases this
        · exact decide_eq_true (Hq.out.1 rfl).2
      have HD := Lib.hid hqd
      clear hT1 hT2 hqd
      go_enter Try.func78, Try.ntmps78
      go_upto_region 1 with fail
      rw [HW.out]
      go_wp2_with fail
      refine H1.out.mono ?_
      rintro e w1 ⟨rfl, hb1⟩
      have H1' := Lib.hid (bch HB.out.1 hb1)
      have R1 := Lib.hid (And.intro (HB.out.2.1.on hb1) (HB.out.2.2.on hb1))
      have b0 : w1.cell? ⟨w.heap.size + 1, 0, none⟩ = some (.int .i64 W') := R1.out.2.cell 0
      have b1 : w1.cell? ⟨w.heap.size + 1, 1, none⟩ = some (.slice A' ys.length c') := R1.out.2.cell 1
      clear hb1 a0 a1
      go_wp2_with fail
      refine (H2.out _ H1'.out).mono ?_
      rintro e w2 ⟨rfl, hb2⟩
      have H2' := Lib.hid (bch H1'.out hb2)
      have a0 : w2.cell? ⟨w.heap.size, 0, none⟩ = some (.int .i64 W) := (R1.out.1.on hb2).cell 0
      have b0 : w2.cell? ⟨w.heap.size + 1, 0, none⟩ = some (.int .i64 W') := (R1.out.2.on hb2).cell 0
      clear hb2
      go_wp2
      go_ret
      exact ⟨congrArg (fun b => Ending.returned (Value.bool b)) HD.out, H2'.out⟩

theorem resMergeJoin {b : Nat} {v0 v1 : Value} {r : Bool} (tmps : Array Value) (hp : tmps.getD 8 undef = .pointer (some ⟨b, 0, none⟩)) (hr : tmps.getD 9 undef = .bool r) (w : World) (c0 : w.cell? ⟨b, 0, none⟩ = some v0) (c1 : w.cell? ⟨b, 1, none⟩ = some v1) :
    (results Try.f26 tmps).run Try.prog w = .ok (.tuple #[.agg #[v0, v1], .bool r]) w := by
  simp only [Array.getD_eq_getD_getElem?] at hp hr
  simp [results, Try.results26, go_sem, hp, hr, c0, c1]

set_option maxRecDepth 20000 in
set_option maxHeartbeats 4000000 in
theorem implMergeJoin_ok (W W' : Int) (A A' : Option Addr) (c c' : Nat) (xs ys : List Row1) (ca cb : Int) (w : World) (hn : xs.length ≤ 1048576) (hn' : ys.length ≤ 1048576) (h : Rws w w.heap.size A xs) (h' : Rws w w.heap.size A' ys)
    (q : Bool) (hq : q = true ↔ (((TabOk W xs ∧ 0 ≤ ca ∧ ca < W) ∧ (TabOk W' ys ∧ 0 ≤ cb ∧ cb < W')) ∧ W + W' ≤ 6)) :
    Calls Try.prog 26 #[.agg #[.int .i64 W, .slice A xs.length c], .agg #[.int .i64 W', .slice A' ys.length c'], .int .i64 ca, .int .i64 cb] w (TabRes q (W + W') (mjAll xs ys ca.toNat cb.toNat) w) := by
  have Hq := Lib.hid hq
  obtain ⟨W0, hW0⟩ : ∃ z, ((w.alloc (.cells #[.int .i64 W, .slice A xs.length c] 25)).alloc (.cells #[.int .i64 W', .slice A' ys.length c'] 25)).alloc (.cells #[.int .i64 0, .slice none 0 0] 25) = z := ⟨_, rfl⟩
  have B0 : Below w.heap.size w W0 := by rw [← hW0]; exact balloc (balloc (balloc (Below.refl _ _) _) _) _
  have r0 : Row W0 w.heap.size 25 [.int .i64 W, .slice A xs.length c] := by rw [← hW0]; exact ((Row.new _ _ _).alloc _).alloc _
  have r1 : Row W0 (w.heap.size + 1) 25 [.int .i64 W', .slice A' ys.length c'] := by rw [← hW0]; exact (Row.second _ _ _ _).alloc _
  have r2 : Row W0 (w.heap.size + 2) 25 [.int .i64 0, .slice none 0 0] := by rw [← hW0]; exact Row.third _ _ _ _ _
  have H1 := Lib.hid (canJoin_ok W W' A A' c c' xs ys ca cb W0 hn hn' (h.on B0) (h'.on B0) q hq)
  have HH := Lib.hid (And.intro h h')
  have HW := Lib.hid hW0
  have HB0 := Lib.hid B0
  have HR0 := Lib.hid (And.intro r0 (And.intro r1 r2))
  have a0 : W0.cell? ⟨w.heap.size, 0, none⟩ = some (.int .i64 W) := r0.cell 0
  have a1 : W0.cell? ⟨w.heap.size, 1, none⟩ = some (.slice A xs.length c) := r0.cell 1
  have b0 : W0.cell? ⟨w.heap.size + 1, 0, none⟩ = some (.int .i64 W') := r1.cell 0
  have b1 : W0.cell? ⟨w.heap.size + 1, 1, none⟩ = some (.slice A' ys.length c') := r1.cell 1
  clear hq h h' B0 r0 r1 r2 hW0
  cases q
  · go_enter Try.func26, Try.ntmps26
    go_upto_region 1 with fail
    rw [HW.out]
    go_wp2_with fail
    refine H1.out.mono ?_
    rintro e w1 ⟨rfl, hb1⟩
    have r2 := HR0.out.2.2.on hb1
    have e0 : w1.cell? ⟨w.heap.size + 2, 0, none⟩ = some (.int .i64 0) := r2.cell 0
    have e1 : w1.cell? ⟨w.heap.size + 2, 1, none⟩ = some (.slice none 0 0) := r2.cell 1
    have f0 := r2.frozen 0
    have f1 := r2.frozen 1
    have l2 := r2.lt
    have H1' := Lib.hid (bch HB0.out hb1)
    clear hb1 r2 a0 a1 b0 b1
    go_wp2
    refine bodyPost_ret (resMergeJoin (b := w.heap.size + 2) (r := false) _ rfl rfl _ (v0 := .int .i64 0) (v1 := .slice none 0 0) (by simp [go_sem, e0, e1, l2]) (by simp [go_sem, e0, e1, l2])) rfl ?_
    exact TabRes.no ((H1'.out.setCell (p := ⟨w.heap.size + 2, 0, none⟩) (by simp) _).setCell (p := ⟨w.heap.size + 2, 1, none⟩) (by simp) _)
  · obtain ⟨⟨⟨hT1, hca0, hca1⟩, ⟨hT2, hcb0, hcb1⟩⟩, h6⟩ := Hq.out.1 rfl
    have HT := Lib.hid (And.intro hT1 (And.intro hT2 (And.intro hca1 (And.intro hcb1 h6))))
    have hW1 := hT1.1
    have hW6 : W ≤ 6 := hT1.2.1
    have hW1' := hT2.1
    have hW6' : W' ≤ 6 := hT2.2.1
    obtain ⟨ci, rfl⟩ := Int.eq_ofNat_of_zero_le hca0
    obtain ⟨cj, rfl⟩ := Int.eq_ofNat_of_zero_le hcb0
    rw [Int.toNat_natCast, Int.toNat_natCast] at *
    have hwr : IntKind.i64.wrap (W + W') = W + W' := IntWalk.i64_in _ (by omega)
    clear hT1 hT2 hca0 hca1 hcb0 hcb1 h6
    go_enter Try.func26, Try.ntmps26
    go_upto_region 1 with fail
    rw [HW.out]
    go_wp2_with fail
    refine H1.out.mono ?_
    rintro e w2 ⟨rfl, hb2⟩
    have H2' := Lib.hid (bch HB0.out hb2)
    have R2 := Lib.hid (And.intro (HR0.out.1.on hb2) (And.intro (HR0.out.2.1.on hb2) (HR0.out.2.2.on hb2)))
    have KC := Lib.hid (fun (z : World) (hz : Below w2.heap.size w2 z) => show ((z.cell? ⟨w.heap.size, 0, none⟩ = some (.int .i64 W) ∧ z.cell? ⟨w.heap.size, 1, none⟩ = some (.slice A xs.length c)) ∧ (z.cell? ⟨w.heap.size + 1, 0, none⟩ = some (.int .i64 W') ∧ z.cell? ⟨w.heap.size + 1, 1, none⟩ = some (.slice A' ys.length c'))) from
      ⟨⟨(R2.out.1.on hz).cell 0, (R2.out.1.on hz).cell 1⟩, ⟨(R2.out.2.1.on hz).cell 0, (R2.out.2.1.on hz).cell 1⟩⟩)
    have KS := Lib.hid (fun (z : World) (hz : Below w2.heap.size w2 z) (u u' : Value) => show ((((z.setCell ⟨w.heap.size + 2, 0, none⟩ u).setCell ⟨w.heap.size + 2, 1, none⟩ u').cell? ⟨w.heap.size, 0, none⟩ = some (.int .i64 W) ∧ ((z.setCell ⟨w.heap.size + 2, 0, none⟩ u).setCell ⟨w.heap.size + 2, 1, none⟩ u').cell? ⟨w.heap.size, 1, none⟩ = some (.slice A xs.length c)) ∧ (((z.setCell ⟨w.heap.size + 2, 0, none⟩ u).setCell ⟨w.heap.size + 2, 1, none⟩ u').cell? ⟨w.heap.size + 1, 0, none⟩ = some (.int .i64 W') ∧ ((z.setCell ⟨w.heap.size + 2, 0, none⟩ u).setCell ⟨w.heap.size + 2, 1, none⟩ u').cell? ⟨w.heap.size + 1, 1, none⟩ = some (.slice A' ys.length c'))) from
      have k0 := (((R2.out.1.on hz).far (p := ⟨w.heap.size + 2, 0, none⟩) (by simp) u).far (p := ⟨w.heap.size + 2, 1, none⟩) (by simp) u')
      have k1 := (((R2.out.2.1.on hz).far (p := ⟨w.heap.size + 2, 0, none⟩) (by simp) u).far (p := ⟨w.heap.size + 2, 1, none⟩) (by simp) u')
      ⟨⟨k0.cell 0, k0.cell 1⟩, ⟨k1.cell 0, k1.cell 1⟩⟩)
    have D2 := Lib.hid (show Below w2.heap.size w2 w2.drew from (Below.refl _ _).drew)
    clear hb2 a0 a1 b0 b1
    have x2 := KC.out _ D2.out
    go_wp2_with fail
    go_region_held3 (fun z => ((z.cell? ⟨w.heap.size, 0, none⟩ = some (.int .i64 W) ∧ z.cell? ⟨w.heap.size, 1, none⟩ = some (.slice A xs.length c)) ∧ (z.cell? ⟨w.heap.size + 1, 0, none⟩ = some (.int .i64 W') ∧ z.cell? ⟨w.heap.size + 1, 1, none⟩ = some (.slice A' ys.length c'))))
      (first | assumption | exact KC.out _ H4.out | exact KC.out _ H5.out | exact KS.out _ H5.out _ _)
      (first
        | (go_at_call 56; refine (HCOL.out).mono ?_; rintro e w5 ⟨v5, cp, rfl, hcp, how5, hcc, hb5⟩; obtain ⟨A5, c5, rfl, _, _, _⟩ := how5.shape svC_length; generalize (cp.map (·.1)).length = nn at how5 ⊢; have H5 := Lib.hid (bch H4.out hb5); have x5 := KC.out _ H5.out; have r2 := R2.out.2.2.on H5.out; have e0 : w5.cell? ⟨w.heap.size + 2, 0, none⟩ = some (.int .i64 0) := r2.cell 0; have e1 : w5.cell? ⟨w.heap.size + 2, 1, none⟩ = some (.slice none 0 0) := r2.cell 1; have f0 := r2.frozen 0; have f1 := r2.frozen 1; have l2 := r2.lt; have F5 := Lib.hid (And.intro hcp (And.intro how5 (And.intro hcc (And.intro hb5 r2)))); clear hcp how5 hcc hb5 r2)
        | (go_at_call 79; refine (mergedRows_ok W W' ci cj _ _ _).mono ?_; rintro e w4 ⟨rfl, hb4, ra, rb, rac, rbc⟩; have H4 := Lib.hid (bch D2.out hb4); have x4 := KC.out _ H4.out; have HCOL := Lib.hid (collectR_ok (W + W') (mjAll xs ys ci cj).length 114 _ (mjAll xs ys ci cj) w4 entersMerged1 (mergedIt_ok W W' A A' c c' xs ys ci cj _ _ _ _ w4 HT.out.1 HT.out.2.1 HT.out.2.2.1 HT.out.2.2.2.1 HT.out.2.2.2.2 (HH.out.1.on (bch H2'.out H4.out)) (HH.out.2.on (bch H2'.out H4.out)) ra rb rac rbc)); clear hb4 ra rb rac rbc))
    all_goals
      go_wp2
      refine bodyPost_ret (resMergeJoin (b := w.heap.size + 2) (r := true) _ rfl rfl _ (v0 := .int .i64 (W + W')) (v1 := .slice A5 nn c5) (by simp [go_sem, e0, e1, l2]) (by simp [go_sem, e0, e1, l2])) rfl ?_
      obtain ⟨hcp, how, hcc, hb5, r2⟩ := F5.out
      exact TabRes.yes hcp how hcc (bch H2'.out H4.out) hb5 r2 (by omega)
end Go.Proofs.Ytldndapcbgaliaa
