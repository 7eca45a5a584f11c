/-
  Contracts: planSize, PlanSize of the reference and of the program. (Printed by wip/pzs.py.)
-/
import Derived.Test.YtooeicfhciefoaaProg
import Derived.Test.YtooeicfhciefoaaPzE
import Derived.Test.YtooeicfhciefoaaPlI
import Derived.Shelf.Abstract
namespace Go.Proofs.Ytooeicfhciefoaa
open Go.RowKit Go.Qo Go.Shelf
set_option linter.unusedVariables false
set_option linter.unusedSimpArgs false

open Classical in
/-- What PlanSize says. -/
noncomputable def szP (ws : List Int) (p : Pl) : Int := if widthP ws p = 0 then 0 else (p.parts.length : Nat)
theorem szP_no {ws : List Int} {p : Pl} (h : widthP ws p = 0) : szP ws p = 0 := by unfold szP; rw [if_pos h]
theorem widthZ_ok {ws : List Int} {p : Pl} (h : widthP ws p ≠ 0) : WsOk ws ∧ plW ws 8 p ≠ 0 := by
  unfold widthP at h
  split at h
  · rename_i hw; exact ⟨hw, h⟩
  · exact absurd rfl h
theorem szP_yes {ws : List Int} {p : Pl} (h : widthP ws p ≠ 0) : szP ws p = (p.parts.length : Nat) ∧ p.parts.length ≤ 511 := by
  refine ⟨by unfold szP; rw [if_neg h], ?_⟩
  have := parts_le 8 p (widthZ_ok h).2
  omega

def PzS (p : Pl) : Prop := ∀ (f : FP) (w : World), PlIn w w.heap.size f p → p.parts.length ≤ 1099511627776 →
  Calls Try.prog 34 #[fpV f] w fun e w' => e = .returned (.int .i64 (p.parts.length : Nat)) ∧ Below w.heap.size w w'
set_option maxRecDepth 20000 in
set_option maxHeartbeats 2000000 in
theorem planSize_ok : ∀ p : Pl, PzS p := Pl.ind fun p ih f w h hle => by
  obtain ⟨a1, a2, ⟨a3, a3', a3''⟩, ⟨a4, a4', a4''⟩, ⟨a5, a5', a5''⟩, a6, a7⟩ := h.flat
  obtain ⟨W1, hW1⟩ : ∃ z, w.alloc (.cells #[.int .i64 f.kind, .int .i64 f.table, .slice f.es.A f.es.n f.es.c, .slice f.cs.A f.cs.n f.cs.c, .slice f.ks.A p.kids.length f.ks.c] 27) = z := ⟨_, rfl⟩
  have B1 : Below w.heap.size w W1 := by rw [← hW1]; exact balloc (Below.refl _ _) _
  have r1 : Row W1 w.heap.size 27 [.int .i64 f.kind, .int .i64 f.table, .slice f.es.A f.es.n f.es.c, .slice f.cs.A f.cs.n f.cs.c, .slice f.ks.A p.kids.length f.ks.c] := by rw [← hW1]; exact Row.new _ _ _
  have C4 := Lib.hid (fun (z : World) (hz : Below W1.heap.size W1 z) => show z.cell? ⟨w.heap.size, 4, none⟩ = some (.slice f.ks.A p.kids.length f.ks.c) from (r1.on hz).cell 4)
  have HK := Lib.hid (fun (z : World) (hz : Below W1.heap.size W1 z) (i : Nat) (hi : i < p.kids.length) => ((h.on B1).on hz).kid hi)
  have IH := Lib.hid ih
  have HB1 := Lib.hid B1
  have HW1 := Lib.hid hW1
  have hkm : p.kids.length ≤ maxLen := by omega
  unfold maxLen at hkm
  have hpl : p.parts.length = 1 + (partsL p.kids).length := by rw [parts_eq, List.length_cons]; omega
  have Hpl := Lib.hid (And.intro hpl hle)
  unfold fpV
  rw [a5]
  clear ih h a1 a2 a3 a4 a5 a6 a7 a3' a3'' a4' a4'' a5' a5'' B1 r1 hW1 hpl hle
  go_enter Try.func34, Try.ntmps34
  go_upto_region 1 with fail
  rw [HW1.out]
  go_wp2
  go_loopg [3, 4] p.kids.length (fun g nv iv wr => ∃ (i m : Nat), i ≤ p.kids.length ∧ g = p.kids.length - i ∧ iv = .int .i64 i ∧ nv = .int .i64 m ∧ m = 1 + (partsL (p.kids.take i)).length ∧ m ≤ 1099511627776 ∧ Below W1.heap.size W1 wr)
  case atStart => exact ⟨0, 1, by omega, by omega, rfl, rfl, by rw [List.take_zero, partsL]; rfl, by omega, Below.refl _ _⟩
  case round =>
    obtain ⟨i, m, hi, rfl, rfl, rfl, hm, hm4, hb⟩ := hrel
    have Hm := Lib.hid hm
    have HB := Lib.hid hb
    have c4 := C4.out _ hb
    clear hm hb
    by_cases hil : i < p.kids.length
    · have hiI : (i : Int) < (p.kids.length : Int) := by omega
      obtain ⟨qi, oi, g, hAi, hqi, ⟨d0, d1, d2, d3, d4⟩, hg⟩ := HK.out _ HB.out i hil
      rw [hAi] at c4
      have hst : (partsL (p.kids.take (i + 1))).length = (partsL (p.kids.take i)).length + (p.kids[i]).parts.length := by rw [partsL_take hil, List.length_append]
      have htot : (partsL (p.kids.take (i + 1))).length ≤ (partsL p.kids).length := by
        have h2 : partsL p.kids = partsL (p.kids.take (i + 1)) ++ partsL (p.kids.drop (i + 1)) := by rw [← partsL_append, List.take_append_drop]
        rw [h2, List.length_append]; omega
      have HX := Lib.hid (IH.out _ (List.getElem_mem hil) g wr hg (by have := Hpl.out; omega))
      unfold fpV at HX
      obtain ⟨s, hs⟩ : ∃ s, (p.kids[i]).parts.length = s := ⟨_, rfl⟩
      rw [hs] at HX hst
      have hms : m + s ≤ 1099511627776 := by have := Hpl.out; have := Hm.out; omega
      have Hst := Lib.hid (show m + s = 1 + (partsL (p.kids.take (i + 1))).length by have := Hm.out; omega)
      clear hAi hg hs hst htot
      go_wp2_with fail
      refine HX.out.mono ?_
      rintro e w2 ⟨rfl, hb2⟩
      have HB2 := Lib.hid (bch HB.out hb2)
      have hww : IntKind.i64.wrap ((m : Int) + (s : Int)) = (m : Int) + (s : Int) := IntWalk.i64_in _ (by omega)
      clear hb2
      go_wp2
      go_roundg (p.kids.length - (i + 1))
      case measure => omega
      case rel => exact ⟨i + 1, m + s, by omega, rfl, by go_num, by congr 1, Hst.out, hms, HB2.out⟩
    · have hiI : ¬ (i : Int) < (p.kids.length : Int) := by omega
      have Hz := Lib.hid (show m = p.parts.length by rw [Hm.out, List.take_of_length_le (show p.kids.length ≤ i by omega)]; exact Hpl.out.1.symm)
      go_wp2
      go_ret
      exact ⟨ret_int (by rw [Hz.out]), bch HB1.out HB.out⟩
theorem entersPs1 : ∀ args w, (callFunc 32 args).run Try.prog w = .ok (.enter 32 args) w := enters_of Try.func32 (by kernel_rfl) rfl
set_option maxHeartbeats 1000000 in
theorem visitsPs1 (B cb : Nat) (hcb : B ≤ cb) : Visits 32 #[.pointer (some ⟨cb, 0, none⟩)] B cb (fun (n : Nat) (z : World) => Row z cb 3 [.int .i64 (wrap64 (n : Int))]) (fun n _ => n + 1) := by
  intro n x f b o z h hb hB hat hI
  have hlt := hI.lt
  have e0 := hI.cell 0
  have f0 := hI.frozen 0
  have hs := Only.set (S := fun i => i = cb) (p := ⟨cb, 0, none⟩) (Only.refl z) (.inl rfl) (.int .i64 (wrap64 ((n : Int) + 1)))
  have hr := hI.set 0 (.int .i64 (wrap64 ((n : Int) + 1)))
  have hw : wrap64 (wrap64 (n : Int) + 1) = wrap64 ((n : Int) + 1) := by unfold wrap64; omega
  have H := Lib.hid (And.intro hs hr)
  clear hI h hat hs hr
  show Calls Try.prog 32 #[.pointer (some ⟨b, o, none⟩), .pointer (some ⟨cb, 0, none⟩)] z _
  go_enter Try.func32, Try.ntmps32
  go_wp2
  go_end0
  exact ⟨⟨_, rfl⟩, by first | exact H.out.2 | (rw [hw]; exact H.out.2), by first | exact H.out.1 | (rw [hw]; exact H.out.1)⟩

set_option maxRecDepth 20000 in
set_option maxHeartbeats 2000000 in
theorem specPlanSize_ok (p : Pl) (f : FP) (ws : List Int) (A : Option Addr) (c : Nat) (w : World) (R : Int) (h : PlIn w w.heap.size f p) (hwl : ws.length ≤ maxLen) (hws : Sl 1 intC w w.heap.size A ws) (hr : szP ws p = R) :
    Calls Try.prog 13 #[fpV f, .slice A ws.length c] w fun e w' => e = .returned (.int .i64 R) ∧ Below w.heap.size w w' := by
  obtain ⟨W1, hW1⟩ : ∃ z, w.alloc (.cells #[.int .i64 f.kind, .int .i64 f.table, .slice f.es.A f.es.n f.es.c, .slice f.cs.A f.cs.n f.cs.c, .slice f.ks.A f.ks.n f.ks.c] 27) = z := ⟨_, rfl⟩
  have B1 : Below w.heap.size w W1 := by rw [← hW1]; exact balloc (Below.refl _ _) _
  have r1 : Row W1 w.heap.size 27 [.int .i64 f.kind, .int .i64 f.table, .slice f.es.A f.es.n f.es.c, .slice f.cs.A f.cs.n f.cs.c, .slice f.ks.A f.ks.n f.ks.c] := by rw [← hW1]; exact Row.new _ _ _
  obtain ⟨wd, hwd⟩ : ∃ x, widthP ws p = x := ⟨_, rfl⟩
  have HV := Lib.hid (widthOf_ok p f ws A c W1 wd (h.on B1) hwl (hws.on B1) hwd)
  unfold fpV at HV
  have HP := Lib.hid (fun (z : World) (hz : Below w.heap.size w z) => h.on hz)
  have HW1 := Lib.hid hW1
  have HB1 := Lib.hid B1
  have HR := Lib.hid hr
  have Hrow := Lib.hid (fun (z : World) (hz : Below W1.heap.size W1 z) => r1.on hz)
  have Hwd := Lib.hid hwd
  have c0 := r1.cell 0
  have c1 := r1.cell 1
  have c2 := r1.cell 2
  have c3 := r1.cell 3
  have c4 := r1.cell 4
  unfold maxLen at hwl
  unfold fpV
  clear h hws hr hwd hW1 B1 r1
  by_cases h0 : wd = 0
  · subst h0
    have Hz := Lib.hid (show R = 0 by rw [← HR.out]; exact szP_no Hwd.out)
    go_enter Try.func13, Try.ntmps13
    go_upto_region 1 with fail
    rw [HW1.out]
    go_wp2_with fail
    refine HV.out.mono ?_
    rintro e w2 ⟨rfl, hb2⟩
    go_wp2
    go_ret
    exact ⟨ret_int Hz.out.symm, bch HB1.out hb2⟩
  · have h0' : (wd == 0) = false := by simpa using h0
    have hq := szP_yes (ws := ws) (p := p) (by rw [Hwd.out]; exact h0)
    have hRz : R = (p.parts.length : Nat) := HR.out.symm.trans hq.1
    have hple : p.parts.length ≤ 511 := hq.2
    have HRz := Lib.hid hRz
    clear h0 hq hRz
    go_enter Try.func13, Try.ntmps13
    go_upto_region 1 with fail
    rw [HW1.out]
    go_wp2_with fail
    refine HV.out.mono ?_
    rintro e w2 ⟨rfl, hb2⟩
    have HB2 := Lib.hid (bch HB1.out hb2)
    have HR2 := Lib.hid (Hrow.out w2 hb2)
    have q0 := HR2.out.cell 0
    have q1 := HR2.out.cell 1
    have q2 := HR2.out.cell 2
    have q3 := HR2.out.cell 3
    have q4 := HR2.out.cell 4
    clear hb2 c0 c1 c2 c3 c4
    have HX := Lib.hid (planSize_ok p f w2 (HP.out w2 HB2.out) (by omega))
    unfold fpV at HX
    go_wp2_with fail
    refine HX.out.mono ?_
    rintro e w4 ⟨rfl, hb4⟩
    go_wp2
    go_ret
    exact ⟨ret_int HRz.out.symm, bch HB2.out hb4⟩

set_option maxRecDepth 20000 in
set_option maxHeartbeats 2000000 in
theorem implPlanSize_ok (p : Pl) (f : FP) (ws : List Int) (A : Option Addr) (c : Nat) (w : World) (R : Int) (h : PlIn w w.heap.size f p) (hwl : ws.length ≤ maxLen) (hws : Sl 1 intC w w.heap.size A ws) (hr : szP ws p = R) :
    Calls Try.prog 12 #[fpV f, .slice A ws.length c] w fun e w' => e = .returned (.int .i64 R) ∧ Below w.heap.size w w' := by
  obtain ⟨W1, hW1⟩ : ∃ z, w.alloc (.cells #[.int .i64 f.kind, .int .i64 f.table, .slice f.es.A f.es.n f.es.c, .slice f.cs.A f.cs.n f.cs.c, .slice f.ks.A f.ks.n f.ks.c] 27) = z := ⟨_, rfl⟩
  have B1 : Below w.heap.size w W1 := by rw [← hW1]; exact balloc (Below.refl _ _) _
  have r1 : Row W1 w.heap.size 27 [.int .i64 f.kind, .int .i64 f.table, .slice f.es.A f.es.n f.es.c, .slice f.cs.A f.cs.n f.cs.c, .slice f.ks.A f.ks.n f.ks.c] := by rw [← hW1]; exact Row.new _ _ _
  obtain ⟨wd, hwd⟩ : ∃ x, widthP ws p = x := ⟨_, rfl⟩
  have HV := Lib.hid (PlanWidth_ok p f ws A c W1 wd (h.on B1) hwl (hws.on B1) hwd)
  unfold fpV at HV
  have HP := Lib.hid (fun (z : World) (hz : Below w.heap.size w z) => h.on hz)
  have HW1 := Lib.hid hW1
  have HB1 := Lib.hid B1
  have HR := Lib.hid hr
  have Hrow := Lib.hid (fun (z : World) (hz : Below W1.heap.size W1 z) => r1.on hz)
  have Hwd := Lib.hid hwd
  have c0 := r1.cell 0
  have c1 := r1.cell 1
  have c2 := r1.cell 2
  have c3 := r1.cell 3
  have c4 := r1.cell 4
  unfold maxLen at hwl
  unfold fpV
  clear h hws hr hwd hW1 B1 r1
  by_cases h0 : wd = 0
  · subst h0
    have Hz := Lib.hid (show R = 0 by rw [← HR.out]; exact szP_no Hwd.out)
    go_enter Try.func12, Try.ntmps12
    go_upto_region 1 with fail
    rw [HW1.out]
    go_wp2_with fail
    refine HV.out.mono ?_
    rintro e w2 ⟨rfl, hb2⟩
    go_wp2
    go_ret
    exact ⟨ret_int Hz.out.symm, bch HB1.out hb2⟩
  · have h0' : (wd == 0) = false := by simpa using h0
    have hq := szP_yes (ws := ws) (p := p) (by rw [Hwd.out]; exact h0)
    have hRz : R = (p.parts.length : Nat) := HR.out.symm.trans hq.1
    have hple : p.parts.length ≤ 511 := hq.2
    have HRz := Lib.hid hRz
    clear h0 hq hRz
    go_enter Try.func12, Try.ntmps12
    go_upto_region 1 with fail
    rw [HW1.out]
    go_wp2_with fail
    refine HV.out.mono ?_
    rintro e w2 ⟨rfl, hb2⟩
    have HB2 := Lib.hid (bch HB1.out hb2)
    have HR2 := Lib.hid (Hrow.out w2 hb2)
    have q0 := HR2.out.cell 0
    have q1 := HR2.out.cell 1
    have q2 := HR2.out.cell 2
    have q3 := HR2.out.cell 3
    have q4 := HR2.out.cell 4
    clear hb2 c0 c1 c2 c3 c4
    obtain ⟨W3, hW3⟩ : ∃ z, w2.alloc (.cells #[.int .i64 0] 3) = z := ⟨_, rfl⟩
    have b3 : Below w2.heap.size w2 W3 := by rw [← hW3]; exact balloc (Below.refl _ _) _
    have r3 : Row W3 w2.heap.size 3 [.int .i64 0] := by rw [← hW3]; exact Row.new _ _ _
    have hl2 := HR2.out.lt
    have HX := Lib.hid (eachPart_ok p 32 #[.pointer (some ⟨w2.heap.size, 0, none⟩)] w2.heap.size w2.heap.size (fun (n : Nat) (z : World) => Row z w2.heap.size 3 [.int .i64 (wrap64 (n : Int))]) (fun n _ => n + 1) entersPs1 (visitsPs1 _ _ (Nat.le_refl _)) (Nat.le_refl _) 0 f w.heap.size 0 W3 ((HP.out w2 HB2.out).below b3) hl2 b3.size (FpAt.below ⟨HR2.out.cell 0, HR2.out.cell 1, HR2.out.cell 2, HR2.out.cell 3, HR2.out.cell 4⟩ b3 hl2) (by simpa [wrap64] using r3))
    have HB3 := Lib.hid b3
    have HW3 := Lib.hid hW3
    clear b3 r3 hW3
    go_upto_region 4 with fail
    rw [HW3.out]
    go_wp2_with fail
    refine HX.out.mono ?_
    rintro e w4 ⟨⟨v, rfl⟩, hI, hb4⟩
    have hI' : Row w4 w2.heap.size 3 [.int .i64 (p.parts.length : Nat)] := by
      have hf : ∀ (l : List Pl) (n : Nat), l.foldl (fun (n : Nat) (_ : Pl) => n + 1) n = n + l.length := fun l => by
        induction l with
        | nil => intro n; rfl
        | cons x l ih => intro n; rw [List.foldl_cons, ih, List.length_cons]; omega
      have hwr : wrap64 ((p.parts.length : Nat) : Int) = (p.parts.length : Nat) := by unfold wrap64; omega
      rw [hf, Nat.zero_add, hwr] at hI
      exact hI
    have e0 := hI'.cell 0
    have H4 := Lib.hid (Only.from_ (bch HB2.out HB3.out) rfl hb4 fun i (hi : i = w2.heap.size) => by have := HB2.out.size; omega)
    clear hI hI' hb4
    go_wp2
    go_ret
    exact ⟨ret_int HRz.out.symm, H4.out⟩
end Go.Proofs.Ytooeicfhciefoaa
