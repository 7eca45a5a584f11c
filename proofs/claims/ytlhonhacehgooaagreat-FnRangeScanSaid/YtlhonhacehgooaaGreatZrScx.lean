import Derived.Test.YtlhonhacehgooaaGreatProg
import Derived.Test.YtlhonhacehgooaaGreatZrRnx
import Derived.Test.YtlhonhacehgooaaGreatZrHasC
import Derived.Test.YtlhonhacehgooaaGreatZrUng
import Derived.Deep.DeepCutAuto
import Derived.Shelf.Abstract
import Derived.Test.YtlhonhacehgooaaGreatZrMjg
import Derived.Test.YtlhonhacehgooaaGreatZrMkg
/-
  Contract: ScanRange of the program.
-/
namespace Go.Proofs.YtlhonhacehgooaaGreat
open Go.RowKit Go.Qo Go.Shelf
set_option linter.unusedVariables false
set_option linter.unusedSimpArgs false

theorem entersScR1 : ∀ args w, (callFunc 90 args).run Tryz.prog w = .ok (.enter 90 args) w := enters_of Tryz.func90 (by kernel_rfl) rfl
/-- The rows whose value in a column lies in a range. -/
def pHas (lo hi : Int) (ci : Nat) (r : Row1) : Bool := hasV (lo, hi) (getV r (ci : Int))
theorem getV_at {r : Row1} {ci : Nat} (h : ci < r.length) : getV r (ci : Int) = r[ci] := by
  unfold getV
  rw [Int.toNat_natCast, List.getD_eq_getElem?_getD, List.getElem?_eq_getElem h]; rfl
set_option maxRecDepth 20000 in
set_option maxHeartbeats 1000000 in
theorem scr1_ok (pr pc ci c : Nat) (lo hi : Int) (A : Option Addr) (r : Row1) (w : World) (hr : Row w pr 66 [.int .i64 lo, .int .i64 hi]) (hc : Row w pc 3 [.int .i64 ci]) (hci : ci < r.length) (hl6 : r.length ≤ 6) (h : Sl 2 valC w w.heap.size A r) :
    Calls Tryz.prog 90 #[.slice A r.length c, .pointer (some ⟨pr, 0, none⟩), .pointer (some ⟨pc, 0, none⟩)] w fun e w' => e = .returned (.bool (pHas lo hi ci r)) ∧ Below w.heap.size w w' := by
  have hP := Lib.hid (show pHas lo hi ci r = hasV (lo, hi) r[ci] by unfold pHas; rw [getV_at hci])
  obtain ⟨b2, off, rfl, hB, c0, c1⟩ := Val.at_ h hci
  generalize r[ci] = v at *
  obtain ⟨nl, n⟩ := v
  have hciI : (ci : Int) < (r.length : Int) := by omega
  have C0 := fun z : Aft w.heap.size w => z.cell hr.lt (hr.cell 0)
  have C1 := fun z : Aft w.heap.size w => z.cell hr.lt (hr.cell 1)
  have C2 := fun z : Aft w.heap.size w => z.cell hc.lt (hc.cell 0)
  have C3 := fun z : Aft w.heap.size w => z.cell hB c0
  have C4 := fun z : Aft w.heap.size w => z.cell hB c1
  have HH := Lib.hid (fun z => has_ok (lo, hi) (nl, n) z)
  have c2 : w.cell? ⟨pr, 0, none⟩ = some (.int .i64 lo) := hr.cell 0
  have c3 : w.cell? ⟨pr, 1, none⟩ = some (.int .i64 hi) := hr.cell 1
  have c4 : w.cell? ⟨pc, 0, none⟩ = some (.int .i64 ci) := hc.cell 0
  obtain ⟨t, ht⟩ : ∃ t, hasV (lo, hi) (nl, n) = t := ⟨_, rfl⟩
  rw [ht] at HH hP
  have HPP := Lib.hid hP.out
  clear hr hc h
  go_enter Tryz.func90, Tryz.ntmps90
  go_wp2
  refine wp_region_aft w.heap.size (by kernel_rfl) (by kernel_rfl) ?_
  repeat (go_big_quiet_step ((go_at_call 91; exact Calls.aft (Nat.le_refl _) (HH.out _))))
  refine wpQuiet_nil ?_
  intro wx hw'
  obtain ⟨⟨_, hbx⟩, rfl⟩ := hw'
  go_wp2
  go_ret
  exact ⟨ret_bool HPP.out.symm, hbx⟩
theorem resScR {b : Nat} {v0 v1 : Value} {r : Bool} (tmps : Array Value) (hp : tmps.getD 6 undef = .pointer (some ⟨b, 0, none⟩)) (hr : tmps.getD 7 undef = .bool r) (w : World) (c0 : w.cell? ⟨b, 0, none⟩ = some v0) (c1 : w.cell? ⟨b, 1, none⟩ = some v1) :
    (results Tryz.f33 tmps).run Tryz.prog w = .ok (.tuple #[.agg #[v0, v1], .bool r]) w := by
  simp only [Array.getD_eq_getD_getElem?] at hp hr
  simp [results, Tryz.results33, go_sem, hp, hr, c0, c1]
set_option maxRecDepth 20000 in
set_option maxHeartbeats 4000000 in
theorem implScanRange_ok (W : Int) (A : Option Addr) (c : Nat) (xs : List Row1) (col lo hi : Int) (w : World) (hn : xs.length ≤ 1048576) (h : Rws w w.heap.size A xs) (q : Bool) (hq : q = true ↔ (TabOk W xs ∧ 0 ≤ col ∧ col < W)) :
    Calls Tryz.prog 33 #[.agg #[.int .i64 W, .slice A xs.length c], .int .i64 col, .agg #[.int .i64 lo, .int .i64 hi]] w (TabRes q W (xs.filter (pHas lo hi col.toNat)) w) := by
  have Hq := Lib.hid hq
  obtain ⟨W0, hW0⟩ : ∃ z, (((w.alloc (.cells #[.int .i64 W, .slice A xs.length c] 32)).alloc (.cells #[.int .i64 col] 3)).alloc (.cells #[.int .i64 lo, .int .i64 hi] 66)).alloc (.cells #[.int .i64 0, .slice none 0 0] 32) = z := ⟨_, rfl⟩
  have B0 : Below w.heap.size w W0 := by rw [← hW0]; exact balloc (balloc (balloc (balloc (Below.refl _ _) _) _) _) _
  have r0 : Row W0 w.heap.size 32 [.int .i64 W, .slice A xs.length c] := by rw [← hW0]; exact (((Row.new _ _ _).alloc _).alloc _).alloc _
  have r1 : Row W0 (w.heap.size + 1) 3 [.int .i64 col] := by rw [← hW0]; exact ((Row.second _ _ _ _).alloc _).alloc _
  have r2 : Row W0 (w.heap.size + 2) 66 [.int .i64 lo, .int .i64 hi] := by rw [← hW0]; exact (Row.third _ _ _ _ _).alloc _
  have r3 : Row W0 (w.heap.size + 3) 32 [.int .i64 0, .slice none 0 0] := by
    rw [← hW0]
    have := Row.new (((w.alloc (.cells #[.int .i64 W, .slice A xs.length c] 32)).alloc (.cells #[.int .i64 col] 3)).alloc (.cells #[.int .i64 lo, .int .i64 hi] 66)) 32 #[.int .i64 0, .slice none 0 0]
    simpa using this
  have HM := Lib.hid (hasColumn_ok W col A c xs W0 hn (h.on B0) q hq)
  have HX := Lib.hid (fun (z : World) (hz : Below w.heap.size w z) => show Rws z z.heap.size A xs from h.on hz)
  have HW := Lib.hid hW0
  have HB0 := Lib.hid B0
  have HR0 := Lib.hid (And.intro r0 (And.intro r1 (And.intro r2 r3)))
  have a0 : W0.cell? ⟨w.heap.size, 0, none⟩ = some (.int .i64 W) := r0.cell 0
  have a1 : W0.cell? ⟨w.heap.size, 1, none⟩ = some (.slice A xs.length c) := r0.cell 1
  have b0 : W0.cell? ⟨w.heap.size + 1, 0, none⟩ = some (.int .i64 col) := r1.cell 0
  clear hq h B0 r0 r1 r2 r3 hW0
  go_enter Tryz.func33, Tryz.ntmps33
  go_upto_region 1 with fail
  rw [HW.out]
  go_wp2_with fail
  refine HM.out.mono ?_
  rintro e w1 ⟨rfl, hb1⟩
  have r0 := HR0.out.1.on hb1
  have r3 := HR0.out.2.2.2.on hb1
  have H1 := Lib.hid (bch HB0.out hb1)
  have HB1 := Lib.hid hb1
  have e0 : w1.cell? ⟨w.heap.size + 3, 0, none⟩ = some (.int .i64 0) := r3.cell 0
  have e1 : w1.cell? ⟨w.heap.size + 3, 1, none⟩ = some (.slice none 0 0) := r3.cell 1
  have f0 := r3.frozen 0
  have f1 := r3.frozen 1
  have l2 := r3.lt
  have R3 := Lib.hid r3
  have a0 : w1.cell? ⟨w.heap.size, 0, none⟩ = some (.int .i64 W) := r0.cell 0
  have a1 : w1.cell? ⟨w.heap.size, 1, none⟩ = some (.slice A xs.length c) := r0.cell 1
  clear hb1 r0 r3 b0
  cases q
  · go_wp2
    refine bodyPost_ret (resScR (b := w.heap.size + 3) (r := false) _ rfl rfl _ (v0 := .int .i64 0) (v1 := .slice none 0 0) (by simp [go_sem, e0, e1, l2]) (by simp [go_sem, e0, e1, l2])) rfl ?_
    exact TabRes.no ((H1.out.setCell (p := ⟨w.heap.size + 3, 0, none⟩) (by simp) _).setCell (p := ⟨w.heap.size + 3, 1, none⟩) (by simp) _)
  · obtain ⟨hT1, hca0, hca1⟩ := Hq.out.1 rfl
    obtain ⟨ci, hci⟩ : ∃ n : Nat, col = n := ⟨col.toNat, by omega⟩
    subst hci
    rw [show ((ci : Nat) : Int).toNat = ci from by omega]
    have HSEL := Lib.hid (selected_ok W A c xs (pHas lo hi ci) 90 #[] #[.pointer (some ⟨w.heap.size + 2, 0, none⟩), .pointer (some ⟨w.heap.size + 1, 0, none⟩)] w1 entersScR1 hT1 (HX.out _ H1.out)
      (fun A1 c1 r hr z hz hs => scr1_ok (w.heap.size + 2) (w.heap.size + 1) ci c1 lo hi A1 r z (HR0.out.2.2.1.on (bch HB1.out hz)) (HR0.out.2.1.on (bch HB1.out hz)) (by have := hr.2; omega) (by have := (rowValid_len hr.1).2; omega) hs))
    clear hT1 hca0 hca1
    go_wp2_with fail
    refine HSEL.out.mono ?_
    rintro e w3 ⟨v, cp, rfl, hcp, how, hcc, hb3⟩
    have r2 := R3.out.on hb3
    have e0 : w3.cell? ⟨w.heap.size + 3, 0, none⟩ = some (.int .i64 0) := r2.cell 0
    have e1 : w3.cell? ⟨w.heap.size + 3, 1, none⟩ = some (.slice none 0 0) := r2.cell 1
    have f0 := r2.frozen 0
    have f1 := r2.frozen 1
    have l2 := r2.lt
    obtain ⟨A2, c2, rfl, _, _, _⟩ := how.shape svC_length
    generalize (cp.map (·.1)).length = nn at how ⊢
    have H3 := Lib.hid (And.intro hcp (And.intro how (And.intro hcc (And.intro hb3 r2))))
    clear hcp how hcc hb3 r2
    go_wp2
    refine bodyPost_ret (resScR (b := w.heap.size + 3) (r := true) _ rfl rfl _ (v0 := .int .i64 W) (v1 := .slice A2 nn c2) (by simp [go_sem, e0, e1, l2]) (by simp [go_sem, e0, e1, l2])) rfl ?_
    obtain ⟨hcp, how, hcc, hb3, r2⟩ := H3.out
    exact TabRes.yes hcp how hcc H1.out hb3 r2 (by omega)
end Go.Proofs.YtlhonhacehgooaaGreat

/-
  Contract: ScanRange of the reference.
-/
namespace Go.Proofs.YtlhonhacehgooaaGreat
open Go.RowKit Go.Qo
set_option linter.unusedVariables false
set_option linter.unusedSimpArgs false

theorem filter_take_snocR {P : Row1 → Bool} {xs : List Row1} {k : Nat} {x : Row1} (hx : xs[k]? = some x) : (xs.take (k + 1)).filter P = if P x then (xs.take k).filter P ++ [x] else (xs.take k).filter P := by
  rw [take_snoc_ hx, List.filter_append]
  by_cases h : P x = true <;> simp [h]
theorem resScS {b : Nat} {v0 v1 : Value} {r : Bool} (tmps : Array Value) (hp : tmps.getD 6 undef = .pointer (some ⟨b, 0, none⟩)) (hr : tmps.getD 7 undef = .bool r) (w : World) (c0 : w.cell? ⟨b, 0, none⟩ = some v0) (c1 : w.cell? ⟨b, 1, none⟩ = some v1) :
    (results Tryz.f34 tmps).run Tryz.prog w = .ok (.tuple #[.agg #[v0, v1], .bool r]) w := by
  simp only [Array.getD_eq_getD_getElem?] at hp hr
  simp [results, Tryz.results34, go_sem, hp, hr, c0, c1]
set_option maxRecDepth 20000 in
set_option maxHeartbeats 4000000 in
theorem specScanRange_ok (W : Int) (A : Option Addr) (c : Nat) (svs : List SV) (xs : List Row1) (col lo hi : Int) (w : World) (hn : xs.length ≤ 1048576) (hs : Sl 1 svC w w.heap.size A svs) (hT : RowsT 55 2 valC 0 w svs xs) (q : Bool) (hq : q = true ↔ (TabOk W xs ∧ 0 ≤ col ∧ col < W)) :
    Calls Tryz.prog 34 #[.agg #[.int .i64 W, .slice A xs.length c], .int .i64 col, .agg #[.int .i64 lo, .int .i64 hi]] w (SpecTab q W (xs.filter (pHas lo hi col.toNat)) w) := by
  have Hq := Lib.hid hq
  obtain ⟨W0, hW0⟩ : ∃ z, (((w.alloc (.cells #[.int .i64 W, .slice A xs.length c] 32)).alloc (.cells #[.int .i64 lo, .int .i64 hi] 66)).alloc (.cells #[.int .i64 0, .slice none 0 0] 32)).alloc (.cells #[] 104) = z := ⟨_, rfl⟩
  have B0 : Below w.heap.size w W0 := by rw [← hW0]; exact balloc (balloc (balloc (balloc (Below.refl _ _) _) _) _) _
  have r0 : Row W0 w.heap.size 32 [.int .i64 W, .slice A xs.length c] := by rw [← hW0]; exact (((Row.new _ _ _).alloc _).alloc _).alloc _
  have r1 : Row W0 (w.heap.size + 1) 66 [.int .i64 lo, .int .i64 hi] := by rw [← hW0]; exact ((Row.second _ _ _ _).alloc _).alloc _
  have r2 : Row W0 (w.heap.size + 2) 32 [.int .i64 0, .slice none 0 0] := by rw [← hW0]; exact (Row.third _ _ _ _ _).alloc _
  obtain ⟨t, ht⟩ : ∃ t : Bool, t = true ↔ TabOk W xs := ⟨_, @decide_eq_true_iff _ (Classical.propDecidable _)⟩
  have H1 := Lib.hid (specValidTable_ok W A c xs W0 (by unfold maxLen; omega) ((sls_of' hs hT).on B0) t ht)
  have HT := Lib.hid ht
  have HO0 : Hid (Ow (w.heap.size + 3) 104 1 svC W0 (.slice (some ⟨w.heap.size + 3, 0, none⟩) 0 0) ([] : List SV)) := Lib.hid (by
    have := Ow.lit (w := ((w.alloc (.cells #[.int .i64 W, .slice A xs.length c] 32)).alloc (.cells #[.int .i64 lo, .int .i64 hi] 66)).alloc (.cells #[.int .i64 0, .slice none 0 0] 32)) (lo := w.heap.size + 3) (e := 104) (enc := svC) (xs := ([] : List SV)) (cs := #[]) (sz := 1) rfl rfl (by simp) (by decide)
    rw [hW0] at this
    simp only [World.size_alloc] at this
    exact this)
  have HS := Lib.hid (fun (z : World) (hz : Below w.heap.size w z) => show (Sl 1 svC z z.heap.size A svs ∧ RowsT 55 2 valC 0 z svs xs) from ⟨hs.on hz, hT.on hz⟩)
  have HW := Lib.hid hW0
  have HB0 := Lib.hid B0
  have HR0 := Lib.hid (And.intro r0 (And.intro r1 r2))
  have a0 : W0.cell? ⟨w.heap.size, 0, none⟩ = some (.int .i64 W) := r0.cell 0
  have a1 : W0.cell? ⟨w.heap.size, 1, none⟩ = some (.slice A xs.length c) := r0.cell 1
  clear hq hs hT B0 r0 r1 r2 hW0 ht
  go_enter Tryz.func34, Tryz.ntmps34
  go_upto_region 2 with fail
  rw [HW.out]
  go_wp2_with fail
  refine H1.out.mono ?_
  rintro e w1 ⟨rfl, hb1⟩
  have k0 := HR0.out.1.on hb1
  have k2 := HR0.out.2.2.on hb1
  have HB1 := Lib.hid hb1
  have a0 : w1.cell? ⟨w.heap.size, 0, none⟩ = some (.int .i64 W) := k0.cell 0
  have a1 : w1.cell? ⟨w.heap.size, 1, none⟩ = some (.slice A xs.length c) := k0.cell 1
  have g0 : w1.cell? ⟨w.heap.size + 2, 0, none⟩ = some (.int .i64 0) := k2.cell 0
  have g1 : w1.cell? ⟨w.heap.size + 2, 1, none⟩ = some (.slice none 0 0) := k2.cell 1
  have f0 := k2.frozen 0
  have f1 := k2.frozen 1
  have l2 := k2.lt
  clear hb1 k0 k2
  cases t
  · have hqf : q = false := bfalse Hq.out fun h => absurd (HT.out.2 h.1) (by simp)
    subst hqf
    go_wp2
    refine bodyPost_ret (resScS (b := w.heap.size + 2) (r := false) _ rfl rfl _ (v0 := .int .i64 0) (v1 := .slice none 0 0) (by simp [go_sem, g0, g1, l2]) (by simp [go_sem, g0, g1, l2])) rfl ?_
    exact SpecTab.no (((bch HB0.out HB1.out).setCell (p := ⟨w.heap.size + 2, 0, none⟩) (by simp) _).setCell (p := ⟨w.heap.size + 2, 1, none⟩) (by simp) _)
  have hTab : TabOk W xs := by simpa using HT.out
  have hW6 := And.intro hTab.1 hTab.2.1
  clear hTab
  have hwm : IntKind.i64.wrap (W - 1) = W - 1 := IntWalk.i64_in _ (by omega)
  obtain ⟨r, hr⟩ : ∃ r, (decide (0 ≤ col) && decide (col ≤ W - 1)) = r := ⟨_, rfl⟩
  have HIR := Lib.hid (inRange_ok col 0 (W - 1) w1 r hr)
  have HRR := Lib.hid hr
  clear hr
  go_wp2_with fail
  refine HIR.out.mono ?_
  rintro e w2 ⟨rfl, rfl⟩
  cases r
  · have hqf : q = false := bfalse Hq.out fun h => by have h2 := HRR.out; have h3 := h.2; simp at h2; omega
    subst hqf
    go_wp2
    refine bodyPost_ret (resScS (b := w.heap.size + 2) (r := false) _ rfl rfl _ (v0 := .int .i64 0) (v1 := .slice none 0 0) (by simp [go_sem, g0, g1, l2]) (by simp [go_sem, g0, g1, l2])) rfl ?_
    exact SpecTab.no (((bch HB0.out HB1.out).setCell (p := ⟨w.heap.size + 2, 0, none⟩) (by simp) _).setCell (p := ⟨w.heap.size + 2, 1, none⟩) (by simp) _)
  have hqt : q = true := Hq.out.2 ⟨by simpa using HT.out, by have h2 := HRR.out; simp at h2; omega⟩
  subst hqt
  obtain ⟨hT1, hca0, hca1⟩ := Hq.out.1 rfl
  obtain ⟨ci, hci⟩ : ∃ n : Nat, col = n := ⟨col.toNat, by omega⟩
  subst hci
  rw [show ((ci : Nat) : Int).toNat = ci from by omega]
  obtain ⟨P, hP⟩ : ∃ P : Row1 → Bool, pHas lo hi ci = P := ⟨_, rfl⟩
  rw [hP]
  have hn4 : xs.length ≤ 400 := hT1.2.2.1
  have HTT := Lib.hid (And.intro hT1 hca1)
  have HPP := Lib.hid hP
  have HBB := Lib.hid (bch HB0.out HB1.out)
  have HO1 := Lib.hid (HO0.out.on HB1.out)
  have HK := Lib.hid (And.intro (HR0.out.1.on HB1.out) (And.intro (HR0.out.2.1.on HB1.out) (HR0.out.2.2.on HB1.out)))
  clear hT1 hca0 hca1 hP a0 a1 g0 g1 f0 f1 l2
  go_wp2
  go_loopg [8, 9] (xs.length) (fun g v i wr => ∃ (k : Nat) (sv : List SV), k ≤ xs.length ∧ g = xs.length - k ∧ i = .int .i64 k ∧ Ow (w.heap.size + 3) 104 1 svC wr v sv ∧ RowsT 55 2 valC 0 wr sv ((xs.take k).filter P) ∧
    Row wr w.heap.size 32 [.int .i64 W, .slice A xs.length c] ∧ Row wr (w.heap.size + 1) 66 [.int .i64 lo, .int .i64 hi] ∧ Row wr (w.heap.size + 2) 32 [.int .i64 0, .slice none 0 0] ∧ Below w.heap.size w wr)
  case atStart =>
    exact ⟨0, [], by omega, by omega, rfl, HO1.out, RowsT.nil, HK.out.1, HK.out.2.1, HK.out.2.2, HBB.out⟩
  case round =>
    obtain ⟨k, sv, hk, rfl, rfl, how, hrt, r0, r1, r2, hb⟩ := hrel
    obtain ⟨Av, cv, rfl, hcv1, hcv2, hsv⟩ := how.shape svC_length
    have hsl := hrt.1
    have hbl : ((xs.take k).filter P).length ≤ k := by have := List.length_filter_le P (xs.take k); rw [List.length_take] at this; omega
    have HI := Lib.hid (And.intro how (And.intro hrt (And.intro r0 (And.intro r1 (And.intro r2 hb)))))
    have a0 : wr.cell? ⟨w.heap.size, 1, none⟩ = some (.slice A xs.length c) := r0.cell 1
    have b0 : wr.cell? ⟨w.heap.size + 1, 0, none⟩ = some (.int .i64 lo) := r1.cell 0
    have b1 : wr.cell? ⟨w.heap.size + 1, 1, none⟩ = some (.int .i64 hi) := r1.cell 1
    have l0 := r0.lt
    have l1 := r1.lt
    have hsvl : sv.length ≤ 400 := by omega
    have HSL := Lib.hid (And.intro hsl hbl)
    have HSV := Lib.hid (And.intro hsv (And.intro hcv1 hcv2))
    clear how hrt r0 r1 r2 hb hsl hbl hsv hcv1 hcv2
    by_cases hlt : k < xs.length
    · obtain ⟨x, hx⟩ : ∃ x, xs[k]? = some x := ⟨_, List.getElem?_eq_getElem hlt⟩
      obtain ⟨hs0, hT0⟩ := HS.out _ HI.out.2.2.2.2.2
      have hkl : k < svs.length := by rw [hT0.1]; exact hlt
      obtain ⟨s, hsk⟩ : ∃ s, svs[k]? = some s := ⟨_, List.getElem?_eq_getElem hkl⟩
      obtain ⟨hsn, hsc, hscm, hsT⟩ := hT0.2 k s x hsk hx
      obtain ⟨b2, off2, hA2, hB2, hc2⟩ := hs0 (by omega)
      subst hA2
      have c2 : wr.cell? ⟨b2, off2 + k, none⟩ = some (.slice s.A x.length s.c) := by
        have := hc2 k s hsk 0 _ rfl
        rw [Nat.mul_one, Nat.add_zero, hsn] at this
        exact this
      have hxo := tabRowOk_ HTT.out.1 x (List.mem_of_getElem? hx)
      have hcx : ci < x.length := by have := hxo.2; have := HTT.out.2; omega
      have hx6 := (rowValid_len hxo.1).2
      have hPx0 : P x = hasV (lo, hi) x[ci] := by rw [← HPP.out]; unfold pHas; rw [getV_at hcx]
      obtain ⟨b4, off4, hA4, hB4, c4, c5⟩ := Val.at_ hsT.sl hcx
      generalize x[ci] = u at *
      obtain ⟨nl, n⟩ := u
      rw [hA4] at c2
      have hfl := filter_take_snocR (P := P) hx
      rw [hPx0] at hfl
      obtain ⟨m, hm⟩ : ∃ m, (decide (lo ≤ n) && decide (n ≤ hi)) = m := ⟨_, rfl⟩
      have hPm : hasV (lo, hi) (nl, n) = (!nl && m) := by unfold hasV; rw [← hm, Bool.and_assoc]
      rw [hPm] at hfl
      have HK := Lib.hid (fun z : Aft wr.heap.size wr => show Calls Tryz.prog 81 #[.int .i64 n, .int .i64 lo, .int .i64 hi] z.v (fun e w' => e = .returned (.bool m) ∧ Below z.v.heap.size z.v w') from (inRange_ok n lo hi z.v m hm).mono fun e w' ⟨h1, h2⟩ => ⟨h1, h2 ▸ Below.refl _ _⟩)
      have HX := Lib.hid (And.intro hx (And.intro hsn (And.intro hsc (And.intro hscm (And.intro hsT (And.intro hfl hA4))))))
      have d0 := fun z : Aft wr.heap.size wr => z.cell (b := w.heap.size) l0 a0
      have d1 := fun z : Aft wr.heap.size wr => z.cell (b := w.heap.size + 1) l1 b0
      have d2 := fun z : Aft wr.heap.size wr => z.cell (b := w.heap.size + 1) l1 b1
      have d3 := fun z : Aft wr.heap.size wr => z.cell (b := b2) hB2 c2
      have d4 := fun z : Aft wr.heap.size wr => z.cell (b := b4) hB4 c4
      have d5 := fun z : Aft wr.heap.size wr => z.cell (b := b4) hB4 c5
      have hcxI : (ci : Int) < (x.length : Int) := by omega
      have hltI : (k : Int) < (xs.length : Int) := by omega
      clear hx hsk hsn hsc hscm hsT hc2 hPx0 hPm hm hfl hxo hkl hA4 hs0 hT0
      cases nl
      all_goals
        go_wp2
        refine wp_region_aft wr.heap.size (by kernel_rfl) (by kernel_rfl) ?_
        repeat (go_big_quiet_step ((go_at_call 81; exact Calls.aft (Nat.le_refl _) (HK.out _))))
        refine wpQuiet_nil ?_
        intro w3 hw'
        obtain ⟨⟨_, hb3⟩, rfl⟩ := hw'
        have HB3 := Lib.hid hb3
        clear hb3 d0 d1 d2 d3 d4 d5
        have e0 : w3.cell? ⟨w.heap.size, 1, none⟩ = some (.slice (some ⟨b2, off2, none⟩) xs.length c) := (HB3.out.cell (p := ⟨_, _, none⟩) l0).trans a0
        have e2 : w3.cell? ⟨b2, off2 + k, none⟩ = some (.slice (some ⟨b4, off4, none⟩) x.length s.c) := (HB3.out.cell (p := ⟨_, _, none⟩) hB2).trans c2
        have BA := Lib.hid (balloc HB3.out (.cells #[.slice (some ⟨b4, off4, none⟩) x.length s.c] 104))
        have HOx := Lib.hid (HI.out.1.on BA.out)
        have HSx := Lib.hid (Row.sl' (w := w3.alloc (.cells #[.slice (some ⟨b4, off4, none⟩) x.length s.c] 104)) (t := 104) (xs := [(⟨some ⟨b4, off4, none⟩, x.length, s.c⟩ : SV)]) svC_length ((Row.new w3 _ _).of rfl))
        have hsz4 : w.heap.size + 3 ≤ (w3.alloc (.cells #[.slice (some ⟨b4, off4, none⟩) x.length s.c] 104)).heap.size := by have := HI.out.2.2.2.2.1.lt; have := HB3.out.size; simp; omega
        have hz3 := HB3.out.size
        cases m
        all_goals
          go_wp2_with (at_builtin; refine wpList_app rfl (.tmp 56) (.tmp 62) 30 rfl (w.heap.size + 3) 104 _ 1 24 svC Tryz.underlying30 zeroRow rfl (by decide) (by decide) svC_length svC_one _ sv rfl HOx.out (some ⟨w3.heap.size, 0, none⟩) 1 1 [(⟨some ⟨b4, off4, none⟩, x.length, s.c⟩ : SV)] rfl rfl HSx.out (by simp <;> omega) hsz4 ?_; intro v4 w4 how4 hgr4; have HW4 := Lib.hid (And.intro how4 hgr4); clear how4 hgr4)
          go_roundg (xs.length - (k + 1))
          case measure => omega
          case rel =>
            obtain ⟨h1, h2, h3, h4, h5, hstep, hA4⟩ := HX.out
            obtain ⟨i1, i2, i3, i4, i5, i6⟩ := HI.out
            first
              | rw [if_pos (by decide)] at hstep
              | rw [if_neg (by decide)] at hstep
            first
              | exact ⟨k + 1, sv, by omega, rfl, by go_num, i1.on HB3.out, by rw [hstep]; exact i2.on HB3.out, i3.on HB3.out, i4.on HB3.out, i5.on HB3.out, bch i6 HB3.out⟩
              | (obtain ⟨how4, hgr4⟩ := HW4.out
                 have hrow : ∀ q, Value.ownBlock _ = some q → w.heap.size + 3 ≤ q ∧ TyAt _ q 104 := fun q hq => ⟨(HOx.out.ty q hq).1, (HOx.out.ty q hq).2.2⟩
                 have hkp : ∀ {q : Nat} {cs : List Value}, Row wr q 32 cs → Row w4 q 32 cs := fun h => (h.on BA.out).keep (hgr4.block _ (h.on BA.out).lt fun e => (TyAt.ne (h.on BA.out).ty (hrow _ e.symm).2 (by decide)) rfl)
                 have hkr : ∀ {q : Nat} {cs : List Value}, Row wr q 66 cs → Row w4 q 66 cs := fun h => (h.on BA.out).keep (hgr4.block _ (h.on BA.out).lt fun e => (TyAt.ne (h.on BA.out).ty (hrow _ e.symm).2 (by decide)) rfl)
                 refine ⟨k + 1, sv ++ [⟨some ⟨b4, off4, none⟩, x.length, s.c⟩], by omega, rfl, by go_num, how4, ?_, hkp i3, hkr i4, hkp i5, ?_⟩
                 · rw [hstep]
                   exact ((i2.on BA.out).grown hgr4 fun q hq => .inr ⟨_, by decide, (hrow q hq).2⟩).snoc rfl h3 h4 (by rw [← hA4]; exact (h5.on BA.out).grown hgr4 fun q hq => .inr ⟨_, by decide, (hrow q hq).2⟩)
                 · exact (bch i6 BA.out).grown hgr4 (bch i6 BA.out).size fun q hq => by have := (hrow q hq).1; omega)
    · have hke : k = xs.length := by omega
      have e0 : wr.cell? ⟨w.heap.size, 0, none⟩ = some (.int .i64 W) := HI.out.2.2.1.cell 0
      have HT1 : ∀ (n : Nat), n = (xs.filter P).length → Calls Tryz.prog 67 #[.int .i64 W, .slice Av n cv] wr (TofRes 0 W (xs.filter P) wr) := by
        intro n hnn
        subst hnn
        have hrt := HI.out.2.1
        rw [hke, List.take_length] at hrt
        exact tableOf_ok 0 W Av cv sv (xs.filter P) wr (Nat.zero_le _) (by have := List.length_filter_le P xs; omega) (fun r hr => by have := rowValid_len (tabRowOk_ HTT.out.1 r (List.mem_filter.1 hr).1).1; omega) HSV.out.1.sl hrt
      have HT1 := Lib.hid HT1
      have hsl2 : sv.length = (xs.filter P).length := by
        have := HSL.out.1
        rw [hke, List.take_length] at this
        exact this
      have HSL2 := Lib.hid hsl2
      have HKE := Lib.hid hke
      have hltI : ¬ (k : Int) < (xs.length : Int) := by omega
      clear hsl2 hke
      go_wp2_with fail
      refine (HT1.out _ HSL2.out).mono ?_
      rintro e w1 ⟨v1, sv1, out, rfl, hout, how1, hrt1, hb1⟩
      obtain ⟨A1, c1, rfl, _, _, _⟩ := how1.shape svC_length
      have r2 := HI.out.2.2.2.2.1.on hb1
      have f0 := r2.frozen 0
      have f1 := r2.frozen 1
      have l2 := r2.lt
      have g0 : w1.cell? ⟨w.heap.size + 2, 0, none⟩ = some (.int .i64 0) := r2.cell 0
      have g1 : w1.cell? ⟨w.heap.size + 2, 1, none⟩ = some (.slice none 0 0) := r2.cell 1
      have HF := Lib.hid (And.intro hout (And.intro how1 (And.intro hrt1 (And.intro hb1 r2))))
      generalize sv1.length = nn at *
      clear hout how1 hrt1 hb1 r2
      go_wp2
      refine bodyPost_ret (resScS (b := w.heap.size + 2) (r := true) _ rfl rfl _ (v0 := .int .i64 W) (v1 := .slice A1 nn c1) (by simp [go_sem, g0, g1, l2]) (by simp [go_sem, g0, g1, l2])) rfl ?_
      obtain ⟨hout, how1, hrt1, hb1, r2⟩ := HF.out
      have hS0 := (Only.set (S := fun i => i = w.heap.size + 2) (p := ⟨w.heap.size + 2, 0, none⟩) (Only.refl w1) (.inl rfl) (.int .i64 W)).set (p := ⟨w.heap.size + 2, 1, none⟩) (.inl rfl) (.slice A1 nn c1)
      exact ⟨W, _, sv1, out, rfl, .inr ⟨rfl, rfl, by rw [show ((ci : Nat) : Int).toNat = ci from by omega, HPP.out]; exact hout⟩, (how1.only hS0 fun q hq => .inr ⟨32, by decide, by subst hq; exact r2.ty⟩).low HI.out.2.2.2.2.2.size, hrt1.only hS0 fun q hq => .inr ⟨32, by decide, by subst hq; exact r2.ty⟩, ((bch HI.out.2.2.2.2.2 hb1).setCell (p := ⟨w.heap.size + 2, 0, none⟩) (by simp) _).setCell (p := ⟨w.heap.size + 2, 1, none⟩) (by simp) _⟩
end Go.Proofs.YtlhonhacehgooaaGreat
