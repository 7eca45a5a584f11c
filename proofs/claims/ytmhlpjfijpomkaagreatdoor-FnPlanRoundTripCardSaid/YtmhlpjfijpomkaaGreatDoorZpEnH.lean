/-
  Contract: the reference's EncodePlan.
-/
import Derived.Test.YtmhlpjfijpomkaaGreatDoorProg
import Derived.Test.YtmhlpjfijpomkaaGreatDoorZpEnG
import Derived.Test.YtmhlpjfijpomkaaGreatDoorZpPlS
namespace Go.Proofs.YtmhlpjfijpomkaaGreatDoor
open Go.RowKit Go.Qo
set_option linter.unusedVariables false
set_option linter.unusedSimpArgs false

theorem widthP_tx {ws : List Int} {p : Pl} (h : widthP ws p ≠ 0) : TxOk 8 p := by
  unfold widthP at h
  split at h
  · rename_i hw
    exact plW_tx hw.1.2 hw.2 8 p h
  · exact absurd rfl h

set_option maxRecDepth 20000 in
set_option maxHeartbeats 1000000 in
/-- The reference's EncodePlan: the text of a valid plan, else nothing. -/
theorem specEncodePlan_ok (p : Pl) (f : FP) (ws : List Int) (A : Option Addr) (c : Nat) (w : World) (R : List UInt8) (h : PlIn w w.heap.size f p) (hwl : ws.length ≤ maxLen) (hsl : Sl 1 intC w w.heap.size A ws) (hv : widthP ws p ≠ 0 → R = plText p) (hn : widthP ws p = 0 → R = []) :
    Calls Tryz.prog 22 #[fpV f, .slice A ws.length c] w fun e w' => e = .returned (.string (bArr R)) ∧ Below w.heap.size w w' := by
  obtain ⟨W1, hW1⟩ : ∃ z, w.alloc (.cells #[.int .i64 f.kind, .int .i64 f.table, .slice f.es.A f.es.n f.es.c, .slice f.cs.A f.cs.n f.cs.c, .slice f.ks.A f.ks.n f.ks.c] 26) = z := ⟨_, rfl⟩
  have B1 : Below w.heap.size w W1 := by rw [← hW1]; exact balloc (Below.refl _ _) _
  have r1 : Row W1 w.heap.size 26 [.int .i64 f.kind, .int .i64 f.table, .slice f.es.A f.es.n f.es.c, .slice f.cs.A f.cs.n f.cs.c, .slice f.ks.A f.ks.n f.ks.c] := by rw [← hW1]; exact Row.new _ _ _
  obtain ⟨r, hr⟩ : ∃ r, widthP ws p = r := ⟨_, rfl⟩
  have HV0 := widthOf_ok p f ws A c W1 r (h.on B1) hwl (hsl.on B1) hr
  have HB1 := Lib.hid B1
  have HW1 := Lib.hid hW1
  have HH := Lib.hid (h.on B1)
  have Hr := Lib.hid r1
  have c0 : W1.cell? ⟨w.heap.size, 0, none⟩ = some (.int .i64 f.kind) := r1.cell 0
  have c1 : W1.cell? ⟨w.heap.size, 1, none⟩ = some (.int .i64 f.table) := r1.cell 1
  have c2 : W1.cell? ⟨w.heap.size, 2, none⟩ = some (.slice f.es.A f.es.n f.es.c) := r1.cell 2
  have c3 : W1.cell? ⟨w.heap.size, 3, none⟩ = some (.slice f.cs.A f.cs.n f.cs.c) := r1.cell 3
  have c4 : W1.cell? ⟨w.heap.size, 4, none⟩ = some (.slice f.ks.A f.ks.n f.ks.c) := r1.cell 4
  unfold fpV at HV0 ⊢
  have HV := Lib.hid HV0
  have HRd := Lib.hid (And.intro hr (And.intro hv hn))
  clear h hv hn B1 r1 hW1 HV0 hr hsl
  by_cases hr0 : r = 0
  · subst hr0
    have hR : R = [] := HRd.out.2.2 HRd.out.1
    rw [hR]
    clear hR
    go_enter Tryz.func22, Tryz.ntmps22
    go_upto_region 1 with fail
    rw [HW1.out]
    go_wp2_with fail
    refine HV.out.mono ?_
    rintro e w3 ⟨rfl, hb3⟩
    go_wp2
    go_ret
    exact ⟨rfl, bch HB1.out hb3⟩
  · have hne : widthP ws p ≠ 0 := by rw [HRd.out.1]; exact hr0
    have hR : R = plText p := HRd.out.2.1 hne
    have hr0' : (r == 0) = false := by simpa using hr0
    rw [hR]
    obtain ⟨S, hS⟩ : ∃ S, bArr (plText p) = S := ⟨_, rfl⟩
    have HX := Lib.hid (fun (z : World) (hz : Below W1.heap.size W1 z) => formatPlan_ok p f 8 z (HH.out.on hz) (by omega) (widthP_tx hne))
    rw [hS] at HX ⊢
    unfold fpV at HX
    clear hS hR hne hr0
    go_enter Tryz.func22, Tryz.ntmps22
    go_upto_region 1 with fail
    rw [HW1.out]
    go_wp2_with fail
    refine HV.out.mono ?_
    rintro e w3 ⟨rfl, hb3⟩
    have hrow := Hr.out.on hb3
    have k0 := hrow.cell 0
    have k1 := hrow.cell 1
    have k2 := hrow.cell 2
    have k3 := hrow.cell 3
    have k4 := hrow.cell 4
    have HB3 := Lib.hid hb3
    clear hb3 hrow
    go_wp2_with fail
    refine (HX.out w3 HB3.out).mono ?_
    rintro e w4 ⟨rfl, hb4⟩
    go_wp2
    go_ret
    exact ⟨rfl, bch (bch HB1.out HB3.out) hb4⟩
end Go.Proofs.YtmhlpjfijpomkaaGreatDoor
