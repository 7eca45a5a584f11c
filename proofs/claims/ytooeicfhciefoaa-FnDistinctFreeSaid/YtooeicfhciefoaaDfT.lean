/-
  Contracts: IsDuplicateFree of the reference and of the program. (Printed by wip/dft.py.)
-/
import Derived.Test.YtooeicfhciefoaaProg
import Derived.Test.YtooeicfhciefoaaDfR
namespace Go.Proofs.Ytooeicfhciefoaa
open Go.RowKit Go.Qo
set_option linter.unusedVariables false
set_option linter.unusedSimpArgs false

open Classical in
/-- What IsDuplicateFree says. -/
noncomputable def dfP (ws : List Int) (ss : List Bool) (p : Pl) : Bool := if widthP ws p ≠ 0 ∧ ss.length = ws.length then dfW ws ss 9 p else false
theorem dfP_no {ws : List Int} {ss : List Bool} {p : Pl} (h : ¬ (widthP ws p ≠ 0 ∧ ss.length = ws.length)) : dfP ws ss p = false := by unfold dfP; rw [if_neg h]
theorem dfP_yes {ws : List Int} {ss : List Bool} {p : Pl} (h : widthP ws p ≠ 0 ∧ ss.length = ws.length) : dfP ws ss p = dfW ws ss 9 p := by unfold dfP; rw [if_pos h]
theorem widthQ_ok {ws : List Int} {p : Pl} (h : widthP ws p ≠ 0) : WsOk ws ∧ plW ws 8 p ≠ 0 := by
  unfold widthP at h
  split at h
  · rename_i hw; exact ⟨hw, h⟩
  · exact absurd rfl h

set_option maxRecDepth 20000 in
set_option maxHeartbeats 2000000 in
theorem specIsDf_ok (p : Pl) (f : FP) (ws : List Int) (ss : List Bool) (A A' : Option Addr) (c c' : Nat) (w : World) (R : Bool) (h : PlIn w w.heap.size f p) (hwl : ws.length ≤ maxLen) (hcl : ss.length ≤ maxLen) (hws : Sl 1 intC w w.heap.size A ws) (hcs : Sl 1 boolC w w.heap.size A' ss) (hr : dfP ws ss p = R) :
    Calls Try.prog 21 #[fpV f, .slice A ws.length c, .slice A' ss.length c'] w fun e w' => e = .returned (.bool R) ∧ Below w.heap.size w w' := by
  obtain ⟨W1, hW1⟩ : ∃ z, w.alloc (.cells #[.int .i64 f.kind, .int .i64 f.table, .slice f.es.A f.es.n f.es.c, .slice f.cs.A f.cs.n f.cs.c, .slice f.ks.A f.ks.n f.ks.c] 27) = z := ⟨_, rfl⟩
  have B1 : Below w.heap.size w W1 := by rw [← hW1]; exact balloc (Below.refl _ _) _
  have r1 : Row W1 w.heap.size 27 [.int .i64 f.kind, .int .i64 f.table, .slice f.es.A f.es.n f.es.c, .slice f.cs.A f.cs.n f.cs.c, .slice f.ks.A f.ks.n f.ks.c] := by rw [← hW1]; exact Row.new _ _ _
  obtain ⟨wd, hwd⟩ : ∃ x, widthP ws p = x := ⟨_, rfl⟩
  have HV := Lib.hid (widthOf_ok p f ws A c W1 wd (h.on B1) hwl (hws.on B1) hwd)
  unfold fpV at HV
  have HP := Lib.hid (fun (z : World) (hz : Below w.heap.size w z) => h.on hz)
  have HS := Lib.hid (fun (z : World) (hz : Below w.heap.size w z) => hcs.on hz)
  have HA := Lib.hid (fun (z : World) (hz : Below w.heap.size w z) => hws.on hz)
  have HW1 := Lib.hid hW1
  have HB1 := Lib.hid B1
  have HR := Lib.hid hr
  have Hrow := Lib.hid r1
  have Hwd := Lib.hid hwd
  have Hl := Lib.hid (And.intro hwl hcl)
  have hw0 : 0 ≤ wd := by rw [← hwd]; unfold widthP; split; exact (plW_range (by rename_i hw; exact hw.2) _ _).1; exact Int.le_refl _
  have c0 := r1.cell 0
  have c1 := r1.cell 1
  have c2 := r1.cell 2
  have c3 := r1.cell 3
  have c4 := r1.cell 4
  unfold maxLen at hwl hcl
  unfold fpV
  clear h hws hcs hr hwd hW1 B1 r1
  by_cases h0 : wd = 0
  · subst h0
    have Hz := Lib.hid (show R = false by rw [← HR.out]; exact dfP_no fun k => k.1 Hwd.out)
    go_enter Try.func21, Try.ntmps21
    go_upto_region 1 with fail
    rw [HW1.out]
    go_wp2_with fail
    refine HV.out.mono ?_
    rintro e w2 ⟨rfl, hb2⟩
    go_wp2
    go_ret
    exact ⟨ret_bool Hz.out.symm, bch HB1.out hb2⟩
  · have h0' : (wd == 0) = false := by simpa using h0
    have h0p : 0 < wd := by omega
    have H0 := Lib.hid h0
    clear h0
    by_cases hl : ss.length = ws.length
    case neg =>
      have hl' : ((ss.length : Int) != (ws.length : Int)) = true := by
        have : (ss.length : Int) ≠ (ws.length : Int) := by omega
        simpa using this
      have hl'' : ((ss.length : Int) == (ws.length : Int)) = false := by
        have : (ss.length : Int) ≠ (ws.length : Int) := by omega
        simpa using this
      have Hz := Lib.hid (show R = false by rw [← HR.out]; exact dfP_no fun k => hl k.2)
      clear hl
      go_enter Try.func21, Try.ntmps21
      go_upto_region 1 with fail
      rw [HW1.out]
      go_wp2_with fail
      refine HV.out.mono ?_
      rintro e w2 ⟨rfl, hb2⟩
      go_wp2
      go_ret
      exact ⟨ret_bool Hz.out.symm, bch HB1.out hb2⟩
    case pos =>
      have hl' : ((ss.length : Int) != (ws.length : Int)) = false := by simp [hl]
      have hl'' : ((ss.length : Int) == (ws.length : Int)) = true := by simp [hl]
      have Hle := Lib.hid hl
      clear hl
      have hyes := dfP_yes (p := p) (ws := ws) (ss := ss) ⟨by rw [Hwd.out]; exact H0.out, Hle.out⟩
      have hR : dfW ws ss (8 + 1) p = R := hyes.symm.trans HR.out
      obtain ⟨hwk, hpl⟩ := widthQ_ok (ws := ws) (p := p) (by rw [Hwd.out]; exact H0.out)
      have HX := Lib.hid (fun (z : World) (hz : Below W1.heap.size W1 z) => specDf_ok p f ws ss A A' c c' 8 z R (HP.out _ (bch HB1.out hz)) hwk hpl (by omega) Hle.out (HA.out _ (bch HB1.out hz)) (HS.out _ (bch HB1.out hz)) hR)
      unfold fpV at HX
      have RW := Lib.hid (fun (z : World) (hz : Below W1.heap.size W1 z) => Hrow.out.on hz)
      clear hyes hR hwk hpl
      go_enter Try.func21, Try.ntmps21
      go_upto_region 1 with fail
      rw [HW1.out]
      go_wp2_with fail
      refine HV.out.mono ?_
      rintro e w2 ⟨rfl, hb2⟩
      have HX2 := Lib.hid (HX.out w2 hb2)
      have q0 := (RW.out w2 hb2).cell 0
      have q1 := (RW.out w2 hb2).cell 1
      have q2 := (RW.out w2 hb2).cell 2
      have q3 := (RW.out w2 hb2).cell 3
      have q4 := (RW.out w2 hb2).cell 4
      have H2 := Lib.hid (bch HB1.out hb2)
      clear hb2 c0 c1 c2 c3 c4
      go_wp2_with fail
      refine HX2.out.mono ?_
      rintro e w4 ⟨rfl, hb4⟩
      go_wp2
      go_ret
      exact ⟨rfl, bch H2.out hb4⟩

set_option maxRecDepth 20000 in
set_option maxHeartbeats 2000000 in
theorem implIsDf_ok (p : Pl) (f : FP) (ws : List Int) (ss : List Bool) (A A' : Option Addr) (c c' : Nat) (w : World) (R : Bool) (h : PlIn w w.heap.size f p) (hwl : ws.length ≤ maxLen) (hcl : ss.length ≤ maxLen) (hws : Sl 1 intC w w.heap.size A ws) (hcs : Sl 1 boolC w w.heap.size A' ss) (hr : dfP ws ss p = R) :
    Calls Try.prog 20 #[fpV f, .slice A ws.length c, .slice A' ss.length c'] w fun e w' => e = .returned (.bool R) ∧ Below w.heap.size w w' := by
  obtain ⟨W1, hW1⟩ : ∃ z, w.alloc (.cells #[.int .i64 f.kind, .int .i64 f.table, .slice f.es.A f.es.n f.es.c, .slice f.cs.A f.cs.n f.cs.c, .slice f.ks.A f.ks.n f.ks.c] 27) = z := ⟨_, rfl⟩
  have B1 : Below w.heap.size w W1 := by rw [← hW1]; exact balloc (Below.refl _ _) _
  have r1 : Row W1 w.heap.size 27 [.int .i64 f.kind, .int .i64 f.table, .slice f.es.A f.es.n f.es.c, .slice f.cs.A f.cs.n f.cs.c, .slice f.ks.A f.ks.n f.ks.c] := by rw [← hW1]; exact Row.new _ _ _
  obtain ⟨wd, hwd⟩ : ∃ x, widthP ws p = x := ⟨_, rfl⟩
  have HV := Lib.hid (PlanWidth_ok p f ws A c W1 wd (h.on B1) hwl (hws.on B1) hwd)
  unfold fpV at HV
  have HP := Lib.hid (fun (z : World) (hz : Below w.heap.size w z) => h.on hz)
  have HS := Lib.hid (fun (z : World) (hz : Below w.heap.size w z) => hcs.on hz)
  have HA := Lib.hid (fun (z : World) (hz : Below w.heap.size w z) => hws.on hz)
  have HW1 := Lib.hid hW1
  have HB1 := Lib.hid B1
  have HR := Lib.hid hr
  have Hrow := Lib.hid r1
  have Hwd := Lib.hid hwd
  have Hl := Lib.hid (And.intro hwl hcl)
  have hw0 : 0 ≤ wd := by rw [← hwd]; unfold widthP; split; exact (plW_range (by rename_i hw; exact hw.2) _ _).1; exact Int.le_refl _
  have c0 := r1.cell 0
  have c1 := r1.cell 1
  have c2 := r1.cell 2
  have c3 := r1.cell 3
  have c4 := r1.cell 4
  unfold maxLen at hwl hcl
  unfold fpV
  clear h hws hcs hr hwd hW1 B1 r1
  by_cases h0 : wd = 0
  · subst h0
    have Hz := Lib.hid (show R = false by rw [← HR.out]; exact dfP_no fun k => k.1 Hwd.out)
    go_enter Try.func20, Try.ntmps20
    go_upto_region 1 with fail
    rw [HW1.out]
    go_wp2_with fail
    refine HV.out.mono ?_
    rintro e w2 ⟨rfl, hb2⟩
    go_wp2
    go_ret
    exact ⟨ret_bool Hz.out.symm, bch HB1.out hb2⟩
  · have h0' : (wd == 0) = false := by simpa using h0
    have h0p : 0 < wd := by omega
    have H0 := Lib.hid h0
    clear h0
    by_cases hl : ss.length = ws.length
    case neg =>
      have hl' : ((ss.length : Int) != (ws.length : Int)) = true := by
        have : (ss.length : Int) ≠ (ws.length : Int) := by omega
        simpa using this
      have hl'' : ((ss.length : Int) == (ws.length : Int)) = false := by
        have : (ss.length : Int) ≠ (ws.length : Int) := by omega
        simpa using this
      have Hz := Lib.hid (show R = false by rw [← HR.out]; exact dfP_no fun k => hl k.2)
      clear hl
      go_enter Try.func20, Try.ntmps20
      go_upto_region 1 with fail
      rw [HW1.out]
      go_wp2_with fail
      refine HV.out.mono ?_
      rintro e w2 ⟨rfl, hb2⟩
      go_wp2
      go_ret
      exact ⟨ret_bool Hz.out.symm, bch HB1.out hb2⟩
    case pos =>
      have hl' : ((ss.length : Int) != (ws.length : Int)) = false := by simp [hl]
      have hl'' : ((ss.length : Int) == (ws.length : Int)) = true := by simp [hl]
      have Hle := Lib.hid hl
      clear hl
      have hyes := dfP_yes (p := p) (ws := ws) (ss := ss) ⟨by rw [Hwd.out]; exact H0.out, Hle.out⟩
      have hR : dfW ws ss (8 + 1) p = R := hyes.symm.trans HR.out
      obtain ⟨hwk, hpl⟩ := widthQ_ok (ws := ws) (p := p) (by rw [Hwd.out]; exact H0.out)
      have HX := Lib.hid (fun (z : World) (hz : Below W1.heap.size W1 z) => implDf_ok p f w.heap.size 0 ws ss A A' c c' 8 z R (Hrow.out.on hz).lt ⟨(Hrow.out.on hz).cell 0, (Hrow.out.on hz).cell 1, (Hrow.out.on hz).cell 2, (Hrow.out.on hz).cell 3, (Hrow.out.on hz).cell 4⟩ (HP.out _ (bch HB1.out hz)) hwk hpl (by omega) Hle.out (HA.out _ (bch HB1.out hz)) (HS.out _ (bch HB1.out hz)) hR)
      skip
      have RW := Lib.hid (fun (z : World) (hz : Below W1.heap.size W1 z) => Hrow.out.on hz)
      clear hyes hR hwk hpl
      go_enter Try.func20, Try.ntmps20
      go_upto_region 1 with fail
      rw [HW1.out]
      go_wp2_with fail
      refine HV.out.mono ?_
      rintro e w2 ⟨rfl, hb2⟩
      have HX2 := Lib.hid (HX.out w2 hb2)
      have q0 := (RW.out w2 hb2).cell 0
      have q1 := (RW.out w2 hb2).cell 1
      have q2 := (RW.out w2 hb2).cell 2
      have q3 := (RW.out w2 hb2).cell 3
      have q4 := (RW.out w2 hb2).cell 4
      have H2 := Lib.hid (bch HB1.out hb2)
      clear hb2 c0 c1 c2 c3 c4
      go_wp2_with fail
      refine HX2.out.mono ?_
      rintro e w4 ⟨rfl, hb4⟩
      go_wp2
      go_ret
      exact ⟨rfl, bch H2.out hb4⟩
end Go.Proofs.Ytooeicfhciefoaa
