/-
  Contract: the program's EncodePlan.
-/
import Derived.Test.YtmhlpjfijpomkaaGreatDoorProg
import Derived.Test.YtmhlpjfijpomkaaGreatDoorZqEnK
import Derived.Test.YtmhlpjfijpomkaaGreatDoorZqEnH
import Derived.Test.YtmhlpjfijpomkaaGreatDoorZqPlI
namespace Go.Proofs.YtmhlpjfijpomkaaGreatDoor
open Go.RowKit Go.Qo
set_option linter.unusedVariables false
set_option linter.unusedSimpArgs false

set_option maxRecDepth 20000 in
set_option maxHeartbeats 1000000 in
/-- The program's EncodePlan: the text of a valid plan, else nothing. -/
theorem implEncodePlan_ok (p : Pl) (f : FP) (ws : List Int) (A : Option Addr) (c : Nat) (w : World) (R : List UInt8) (lo : Nat) (ht : T10 lo w) (hlo : lo ≤ w.heap.size) (h : PlIn w w.heap.size f p) (hwl : ws.length ≤ maxLen) (hsl : Sl 1 intC w w.heap.size A ws) (hv : widthP ws p ≠ 0 → R = plText p) (hn : widthP ws p = 0 → R = []) :
    Calls Tryz.prog 21 #[fpV f, .slice A ws.length c] w fun e w' => e = .returned (.string (bArr R)) ∧ Below w.heap.size w w' := by
  obtain ⟨W1, hW1⟩ : ∃ z, w.alloc (.cells #[.int .i64 f.kind, .int .i64 f.table, .slice f.es.A f.es.n f.es.c, .slice f.cs.A f.cs.n f.cs.c, .slice f.ks.A f.ks.n f.ks.c] 26) = z := ⟨_, rfl⟩
  have B1 : Below w.heap.size w W1 := by rw [← hW1]; exact balloc (Below.refl _ _) _
  have r1 : Row W1 w.heap.size 26 [.int .i64 f.kind, .int .i64 f.table, .slice f.es.A f.es.n f.es.c, .slice f.cs.A f.cs.n f.cs.c, .slice f.ks.A f.ks.n f.ks.c] := by rw [← hW1]; exact Row.new _ _ _
  obtain ⟨r, hr⟩ : ∃ r, widthP ws p = r := ⟨_, rfl⟩
  have HV0 := PlanWidth_ok p f ws A c W1 r (h.on B1) hwl (hsl.on B1) hr
  have HB1 := Lib.hid B1
  have HW1 := Lib.hid hW1
  have HH := Lib.hid (h.on B1)
  have Hr := Lib.hid r1
  have HT := Lib.hid (ht.on (B1.mono hlo))
  have hlo1 : lo ≤ W1.heap.size := Nat.le_trans hlo B1.size
  clear ht
  have c0 : W1.cell? ⟨w.heap.size, 0, none⟩ = some (.int .i64 f.kind) := r1.cell 0
  have c1 : W1.cell? ⟨w.heap.size, 1, none⟩ = some (.int .i64 f.table) := r1.cell 1
  have c2 : W1.cell? ⟨w.heap.size, 2, none⟩ = some (.slice f.es.A f.es.n f.es.c) := r1.cell 2
  have c3 : W1.cell? ⟨w.heap.size, 3, none⟩ = some (.slice f.cs.A f.cs.n f.cs.c) := r1.cell 3
  have c4 : W1.cell? ⟨w.heap.size, 4, none⟩ = some (.slice f.ks.A f.ks.n f.ks.c) := r1.cell 4
  unfold fpV at HV0 ⊢
  have HV := Lib.hid HV0
  have HRd := Lib.hid (And.intro hr (And.intro hv hn))
  clear h hv hn B1 r1 hW1 HV0 hr hsl
  by_cases hr0 : r = 0
  · subst hr0
    have hR : R = [] := HRd.out.2.2 HRd.out.1
    rw [hR]
    clear hR
    go_enter Tryz.func21, Tryz.ntmps21
    go_upto_region 1 with fail
    rw [HW1.out]
    go_wp2_with fail
    refine HV.out.mono ?_
    rintro e w3 ⟨rfl, hb3⟩
    go_wp2
    go_ret
    exact ⟨rfl, bch HB1.out hb3⟩
  · have hne : widthP ws p ≠ 0 := by rw [HRd.out.1]; exact hr0
    have hR : R = plText p := HRd.out.2.1 hne
    have hr0' : (r == 0) = false := by simpa using hr0
    rw [hR]
    obtain ⟨S, hS⟩ : ∃ S, bArr (plText p) = S := ⟨_, rfl⟩
    have htx := widthP_tx hne
    have hlen := plText_len 8 p htx
    have HX := Lib.hid (fun (z : World) (hz : Below W1.heap.size W1 z) => appendPlan_ok p f w.heap.size 0 z.heap.size 8 (.slice none 0 0) [] z (Nat.lt_of_lt_of_le Hr.out.lt hz.size) (Nat.le_refl _)
      (by have hrow := Hr.out.on hz; exact ⟨hrow.cell 0, hrow.cell 1, hrow.cell 2, hrow.cell 3, hrow.cell 4⟩) (HH.out.on hz) (by omega) htx ((HT.out.on (hz.mono hlo1)).mono (Nat.le_trans hlo1 hz.size)) (by simp; omega) Bt.nil)
    have Hpos := Lib.hid (show 0 < (plText p).length by rw [plText_eq]; simp)
    rw [hS]
    have HS := Lib.hid hS
    clear htx hlen
    clear hS hR hne hr0
    go_enter Tryz.func21, Tryz.ntmps21
    go_upto_region 1 with fail
    rw [HW1.out]
    go_wp2_with fail
    refine HV.out.mono ?_
    rintro e w3 ⟨rfl, hb3⟩
    have HB3 := Lib.hid hb3
    clear hb3
    go_wp2_with fail
    refine (HX.out w3 HB3.out).mono ?_
    rintro e w4 ⟨v4, rfl, ho4, hb4⟩
    rw [List.nil_append] at ho4
    have hconv := conv_bt ho4 Hpos.out
    rw [HS.out] at hconv
    have HB4 := Lib.hid hb4
    clear ho4 hb4
    go_wp2
    go_ret
    exact ⟨rfl, bch (bch HB1.out HB3.out) HB4.out⟩
end Go.Proofs.YtmhlpjfijpomkaaGreatDoor
