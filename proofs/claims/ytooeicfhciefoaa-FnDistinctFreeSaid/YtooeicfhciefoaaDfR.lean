/-
  Contracts: duplicateFree of the reference and of the program. (Printed by wip/df.py.)
-/
import Derived.Test.YtooeicfhciefoaaProg
import Derived.Test.YtooeicfhciefoaaDfK
import Derived.Test.YtooeicfhciefoaaCls
namespace Go.Proofs.Ytooeicfhciefoaa
open Go.RowKit Go.Qo
set_option linter.unusedVariables false
set_option linter.unusedSimpArgs false

theorem eqk (n k : Nat) : ((n : Int) == (k : Int)) = decide (n = k) := by
  by_cases h : n = k
  · subst h; simp
  · have h1 : ¬ (n : Int) = k := by omega
    rw [decide_eq_false h]
    simpa using h1

def DfS (p : Pl) : Prop := ∀ (f : FP) (ws : List Int) (ss : List Bool) (A A' : Option Addr) (c c' d : Nat) (w : World) (R : Bool), PlIn w w.heap.size f p → WsOk ws → plW ws d p ≠ 0 → d ≤ 8 → ss.length = ws.length → Sl 1 intC w w.heap.size A ws → Sl 1 boolC w w.heap.size A' ss → dfW ws ss (d + 1) p = R →
  Calls Try.prog 44 #[fpV f, .slice A ws.length c, .slice A' ss.length c'] w fun e w' => e = .returned (.bool R) ∧ Below w.heap.size w w'

set_option maxRecDepth 20000 in
set_option maxHeartbeats 4000000 in
theorem specDf_ok : ∀ p : Pl, DfS p := Pl.ind fun p ih f ws ss A A' c c' d w R h hws hv hd8 hsl hsa hss hr => by
  obtain ⟨a1, a2, ⟨a3, a3', a3''⟩, ⟨a4, a4', a4''⟩, ⟨a5, a5', a5''⟩, a6, a7⟩ := h.flat
  obtain ⟨W1, hW1⟩ : ∃ z, w.alloc (.cells #[.int .i64 p.kind, .int .i64 p.table, .slice f.es.A p.exprs.length f.es.c, .slice f.cs.A p.cols.length f.cs.c, .slice f.ks.A p.kids.length f.ks.c] 27) = z := ⟨_, rfl⟩
  have B1 : Below w.heap.size w W1 := by rw [← hW1]; exact balloc (Below.refl _ _) _
  have r1 : Row W1 w.heap.size 27 [.int .i64 p.kind, .int .i64 p.table, .slice f.es.A p.exprs.length f.es.c, .slice f.cs.A p.cols.length f.cs.c, .slice f.ks.A p.kids.length f.ks.c] := by rw [← hW1]; exact Row.new _ _ _
  have hbw : w.heap.size < W1.heap.size := r1.lt
  have BX := Lib.hid (fun (z : World) (hz : Below W1.heap.size W1 z) => show z.cell? ⟨w.heap.size, 0, none⟩ = some (.int .i64 p.kind) ∧ z.cell? ⟨w.heap.size, 1, none⟩ = some (.int .i64 p.table) ∧ z.cell? ⟨w.heap.size, 2, none⟩ = some (.slice f.es.A p.exprs.length f.es.c) ∧ z.cell? ⟨w.heap.size, 4, none⟩ = some (.slice f.ks.A p.kids.length f.ks.c) from ⟨(r1.on hz).cell 0, (r1.on hz).cell 1, (r1.on hz).cell 2, (r1.on hz).cell 4⟩)
  have HW1 := Lib.hid hW1
  have HK := Lib.hid (fun (z : World) (hz : Below w.heap.size w z) (i : Nat) (hi : i < p.kids.length) => (h.on hz).kid hi)
  have HE := Lib.hid (fun (z : World) (hz : Below w.heap.size w z) => a6.on hz)
  have HS := Lib.hid (fun (z : World) (hz : Below w.heap.size w z) => hss.on hz)
  have HA := Lib.hid (fun (z : World) (hz : Below w.heap.size w z) => hsa.on hz)
  have HB1 := Lib.hid B1
  have IH := Lib.hid ih
  have HV := Lib.hid hv
  have HC := Lib.hid (And.intro hws (And.intro hsl hd8))
  have HR := Lib.hid hr
  have hof : OnlyF p := Classical.byContradiction fun hn => hv (plW_no hn)
  have Hof := Lib.hid hof
  have hkb : p.kids.length ≤ maxLen ∧ p.exprs.length ≤ maxLen := by omega
  have hwl : ws.length ≤ 4 := hws.1.2
  have hsl4 : ss.length ≤ 4 := by omega
  have hwm : ws.length ≤ maxLen := by unfold maxLen; omega
  unfold maxLen at hkb
  obtain ⟨hkb1, hkb2⟩ := hkb
  unfold fpV
  rw [a1, a2, a3, a4, a5]
  obtain ⟨c0, c1, c2, c4⟩ := BX.out _ (Below.refl _ _)
  have hk8 := hof.1
  clear h hws hv hd8 hsl hsa hss hr ih a1 a2 a3 a4 a5 a3' a3'' a4' a4'' a5' a5'' a6 a7 B1 hof r1 hW1
  by_cases hk1 : p.kind = 1
  · have hsc := plW_scan HV.out hk1
    obtain ⟨j, hj⟩ := Int.eq_ofNat_of_zero_le hsc.1
    have hjl : j < ss.length := by have := HC.out.2.1; omega
    have hjI : (j : Int) < (ss.length : Int) := by omega
    have Hz := Lib.hid (show R = ss[j] by
      rw [← HR.out, dfW, if_pos hk1, hj, Int.toNat_natCast, List.getD_eq_getElem?_getD, List.getElem?_eq_getElem hjl]
      rfl)
    obtain ⟨bs, os, hAs, hBs, cc⟩ := (HS.out _ HB1.out).at1 (f := Value.bool) hjl
    subst hAs
    rw [hk1] at c0
    rw [hj] at c1
    clear hsc hj hk1
    go_enter Try.func44, Try.ntmps44
    go_upto_region 1 with fail
    rw [HW1.out]
    go_wp2
    go_ret
    exact ⟨ret_bool Hz.out.symm, HB1.out⟩
  by_cases hk6 : p.kind = 6
  · have Hz := Lib.hid (show R = false by rw [← HR.out, dfW, if_neg hk1, if_pos hk6])
    rw [hk6] at c0
    clear hk1 hk6
    go_enter Try.func44, Try.ntmps44
    go_upto_region 1 with fail
    rw [HW1.out]
    go_wp2
    go_ret
    exact ⟨ret_bool Hz.out.symm, HB1.out⟩
  by_cases hk7 : p.kind = 7
  · have Hz := Lib.hid (show R = true by rw [← HR.out, dfW, if_neg hk1, if_neg hk6, if_pos (.inl hk7)])
    rw [hk7] at c0
    clear hk1 hk6 hk7
    go_enter Try.func44, Try.ntmps44
    go_upto_region 1 with fail
    rw [HW1.out]
    go_wp2
    go_ret
    exact ⟨ret_bool Hz.out.symm, HB1.out⟩
  by_cases hk88 : p.kind = 8
  · have Hz := Lib.hid (show R = true by rw [← HR.out, dfW, if_neg hk1, if_neg hk6, if_pos (.inr hk88)])
    rw [hk88] at c0
    clear hk1 hk6 hk7 hk88
    go_enter Try.func44, Try.ntmps44
    go_upto_region 1 with fail
    rw [HW1.out]
    go_wp2
    go_ret
    exact ⟨ret_bool Hz.out.symm, HB1.out⟩
  have hkp : 0 < p.kids.length := by
    have := Hof.out.2.1
    unfold nkids at this
    rw [if_neg hk1] at this
    split at this <;> omega
  obtain ⟨_, e, rfl, hv0⟩ := plW_kids HV.out (List.getElem_mem hkp)
  have Hall : Hid (∀ i (hi : i < p.kids.length), plW ws e p.kids[i] ≠ 0) := Lib.hid (fun i hi => by
    obtain ⟨_, e2, he, hv1⟩ := plW_kids HV.out (List.getElem_mem hi)
    obtain rfl : e2 = e := by omega
    exact hv1)
  have HRk : Hid (R = ((if p.kind = 3 then keepsB p.exprs (kidW (plW ws 8) p 0) else true) && p.kids.all (dfW ws ss (e + 1)))) := Lib.hid (by
    rw [← HR.out, dfW, if_neg hk1, if_neg hk6, if_neg (by omega)])
  have hk1' : (p.kind == 1) = false := by simpa using hk1
  have hk6' : (p.kind == 6) = false := by simpa using hk6
  have hk7' : (p.kind == 7) = false := by simpa using hk7
  have hk88' : (p.kind == 8) = false := by simpa using hk88
  have Hne := Lib.hid (And.intro hk1 (And.intro hk6 (And.intro hk7 hk88)))
  clear hk1 hk6 hk7 hk88 hv0
  by_cases hk3 : p.kind = 3
  · have hk3' : (p.kind == 3) = true := by simp [hk3]
    obtain ⟨q0, o0, g, hA0, hq0, hgat, hg⟩ := HK.out _ HB1.out 0 hkp
    have hAk := Lib.hid hA0
    obtain ⟨d0, d1, d2, d3, d4⟩ := hgat
    simp only [Nat.zero_mul, Nat.add_zero] at d0 d1 d2 d3 d4
    rw [hA0] at c4
    have hkpI : (0 : Int) < (p.kids.length : Int) := by omega
    obtain ⟨X, hX⟩ : ∃ X, plW ws 8 p.kids[0] = X := ⟨_, rfl⟩
    have hXr : 0 ≤ X ∧ X ≤ 6 := by rw [← hX]; exact plW_range HC.out.1.2 _ _
    have hkn : p.kids.length = 1 := by have := Hof.out.2.1; rw [hk3] at this; simp [nkids] at this; omega
    obtain ⟨K, hK⟩ : ∃ K, keepsB p.exprs X = K := ⟨_, rfl⟩
    obtain ⟨D, hD⟩ : ∃ D, dfW ws ss (e + 1) p.kids[0] = D := ⟨_, rfl⟩
    have Hz := Lib.hid (show R = (K && D) by
      rw [HRk.out, if_pos hk3]
      have h1 : kidW (plW ws 8) p 0 = X := by unfold kidW; rw [List.getElem?_eq_getElem hkp]; exact hX
      obtain ⟨x, hx⟩ : ∃ x, p.kids = [x] := List.length_eq_one_iff.1 hkn
      have h2 : p.kids.all (dfW ws ss (e + 1)) = D := by
        rw [← hD]
        simp only [hx]
        simp
      rw [h1, hK, h2])
    have HPW := Lib.hid (fun z : Aft W1.heap.size W1 => planWidth_ok p.kids[0] g ws A c 8 z.v X (hg.on z.h) HC.out.1.2 hwm (HA.out _ (bch HB1.out z.h)) (by omega) hX)
    have HKA := Lib.hid (fun z : Aft W1.heap.size W1 => (keepsAll_ok p.exprs f.es.A f.es.c X z.v K (by unfold maxLen; omega) (HE.out _ (bch HB1.out z.h)) hXr.1 hXr.2 hK).mono fun e' w' hh => show e' = .returned (.bool K) ∧ Below z.v.heap.size z.v w' from ⟨hh.1, by rw [← hh.2]; exact Below.refl _ _⟩)
    have HDF := Lib.hid (fun z : Aft W1.heap.size W1 => IH.out _ (List.getElem_mem hkp) g ws ss A A' c c' e z.v D (hg.on z.h) HC.out.1 (Hall.out 0 hkp) (by have := HC.out.2.2; omega) HC.out.2.1 (HA.out _ (bch HB1.out z.h)) (HS.out _ (bch HB1.out z.h)) hD)
    unfold fpV at HPW HDF
    have C2 := fun z : Aft W1.heap.size W1 => z.cell hbw c2
    have C4 := fun z : Aft W1.heap.size W1 => z.cell hbw c4
    have D0 := fun z : Aft W1.heap.size W1 => z.cell hq0 d0
    have D1 := fun z : Aft W1.heap.size W1 => z.cell hq0 d1
    have D2 := fun z : Aft W1.heap.size W1 => z.cell hq0 d2
    have D3 := fun z : Aft W1.heap.size W1 => z.cell hq0 d3
    have D4 := fun z : Aft W1.heap.size W1 => z.cell hq0 d4
    clear hX hK hD hg hA0 hk3 hkn c2 c4 d0 d1 d2 d3 d4
    cases K
    · go_enter Try.func44, Try.ntmps44
      go_upto_region 1 with fail
      rw [HW1.out]
      go_upto_region 10 with fail
      refine wp_region_aft W1.heap.size (by kernel_rfl) (by kernel_rfl) ?_
      repeat (go_big_quiet_step (first | (go_at_call 54; exact Calls.aft (Nat.le_refl _) (HPW.out _)) | (go_at_call 60; exact Calls.aft (Nat.le_refl _) (HKA.out _))))
      refine wpQuiet_nil ?_
      intro w2 hw'
      obtain ⟨⟨_, hb2⟩, rfl⟩ := hw'
      go_wp2
      go_ret
      exact ⟨ret_bool Hz.out.symm, bch HB1.out hb2⟩
    · go_enter Try.func44, Try.ntmps44
      go_upto_region 1 with fail
      rw [HW1.out]
      go_upto_region 10 with fail
      refine wp_region_aft W1.heap.size (by kernel_rfl) (by kernel_rfl) ?_
      repeat (go_big_quiet_step (first | (go_at_call 54; exact Calls.aft (Nat.le_refl _) (HPW.out _)) | (go_at_call 60; exact Calls.aft (Nat.le_refl _) (HKA.out _)) | (go_at_call 44; exact Calls.aft (Nat.le_refl _) (HDF.out _))))
      refine wpQuiet_nil ?_
      intro w2 hw'
      obtain ⟨⟨_, hb2⟩, rfl⟩ := hw'
      go_wp2
      go_ret
      exact ⟨ret_bool (by rw [Hz.out]; simp), bch HB1.out hb2⟩
  have hk3' : (p.kind == 3) = false := by simpa using hk3
  have Hz := Lib.hid (show R = p.kids.all (dfW ws ss (e + 1)) by rw [HRk.out, if_neg hk3]; simp)
  clear hk3
  go_enter Try.func44, Try.ntmps44
  go_upto_region 1 with fail
  rw [HW1.out]
  go_wp2
  go_loopg [7] p.kids.length (fun g iv wr => ∃ i : Nat, i ≤ p.kids.length ∧ g = p.kids.length - i ∧ iv = .int .i64 i ∧ Below W1.heap.size W1 wr ∧ (p.kids.take i).all (dfW ws ss (e + 1)) = true)
  case atStart => exact ⟨0, by omega, by omega, rfl, Below.refl _ _, by simp⟩
  case round =>
    obtain ⟨i, hi, rfl, rfl, hb, hall⟩ := hrel
    have HB := Lib.hid hb
    have HAl := Lib.hid hall
    obtain ⟨c0, c1, c2, c4⟩ := BX.out _ hb
    have hbz := hb.size
    clear hb hall
    by_cases hil : i < p.kids.length
    · have hiI : (i : Int) < (p.kids.length : Int) := by omega
      obtain ⟨qi, oi, g, hAi, hqi, hgat, hg⟩ := HK.out _ (bch HB1.out HB.out) i hil
      rw [hAi] at c4
      obtain ⟨D, hD⟩ : ∃ D, dfW ws ss (e + 1) p.kids[i] = D := ⟨_, rfl⟩
      have HDF := Lib.hid (IH.out _ (List.getElem_mem hil) g ws ss A A' c c' e wr D hg HC.out.1 (Hall.out i hil) (by have := HC.out.2.2; omega) HC.out.2.1 (HA.out _ (bch HB1.out HB.out)) (HS.out _ (bch HB1.out HB.out)) hD)
      unfold fpV at HDF
      obtain ⟨d0, d1, d2, d3, d4⟩ := hgat
      have Hst := Lib.hid (show (p.kids.take (i + 1)).all (dfW ws ss (e + 1)) = D by rw [List.take_add_one, List.getElem?_eq_getElem hil, List.all_append, HAl.out]; simp [hD])
      have Hno := Lib.hid (show D = false → p.kids.all (dfW ws ss (e + 1)) = false from fun h => List.all_eq_false.2 ⟨_, List.getElem_mem hil, by rw [hD, h]; simp⟩)
      clear hg hD hAi
      go_wp2_with fail
      refine HDF.out.mono ?_
      rintro e' w2 ⟨rfl, hb2⟩
      have HB2 := Lib.hid (bch HB.out hb2)
      clear hb2
      cases D
      · have Hf := Lib.hid (show R = false by rw [Hz.out]; exact Hno.out rfl)
        go_wp2
        go_ret
        exact ⟨ret_bool Hf.out.symm, bch HB1.out HB2.out⟩
      · go_wp2
        go_roundg (p.kids.length - (i + 1))
        case measure => omega
        case rel => exact ⟨i + 1, by omega, rfl, by go_num, HB2.out, Hst.out⟩
    · have hiI : ¬ (i : Int) < (p.kids.length : Int) := by omega
      have Hk := Lib.hid (show p.kids.all (dfW ws ss (e + 1)) = true by have h1 := HAl.out; rwa [List.take_of_length_le (by omega)] at h1)
      go_wp2
      go_ret
      exact ⟨ret_bool (by rw [Hz.out, Hk.out]), bch HB1.out HB.out⟩

def DfI (p : Pl) : Prop := ∀ (f : FP) (b o : Nat) (ws : List Int) (ss : List Bool) (A A' : Option Addr) (c c' d : Nat) (w : World) (R : Bool), b < w.heap.size → FpAt w b o f → PlIn w w.heap.size f p → WsOk ws → plW ws d p ≠ 0 → d ≤ 8 → ss.length = ws.length → Sl 1 intC w w.heap.size A ws → Sl 1 boolC w w.heap.size A' ss → dfW ws ss (d + 1) p = R →
  Calls Try.prog 43 #[.pointer (some ⟨b, o, none⟩), .slice A ws.length c, .slice A' ss.length c'] w fun e w' => e = .returned (.bool R) ∧ Below w.heap.size w w'

set_option maxRecDepth 20000 in
set_option maxHeartbeats 4000000 in
theorem implDf_ok : ∀ p : Pl, DfI p := Pl.ind fun p ih f b o ws ss A A' c c' d w R hbw hat h hws hv hd8 hsl hsa hss hr => by
  obtain ⟨a1, a2, ⟨a3, a3', a3''⟩, ⟨a4, a4', a4''⟩, ⟨a5, a5', a5''⟩, a6, a7⟩ := h.flat
  obtain ⟨b0, b1, b2, b3, b4⟩ := hat
  rw [a1] at b0
  rw [a2] at b1
  rw [a3] at b2
  rw [a5] at b4
  have B1 : Below w.heap.size w w := Below.refl _ _
  have BX := Lib.hid (fun (z : World) (hz : Below w.heap.size w z) => show z.cell? ⟨b, o, none⟩ = some (.int .i64 p.kind) ∧ z.cell? ⟨b, o + 1, none⟩ = some (.int .i64 p.table) ∧ z.cell? ⟨b, o + 2, none⟩ = some (.slice f.es.A p.exprs.length f.es.c) ∧ z.cell? ⟨b, o + 4, none⟩ = some (.slice f.ks.A p.kids.length f.ks.c) from
    ⟨(hz.cell (p := ⟨_, _, none⟩) hbw).trans b0, (hz.cell (p := ⟨_, _, none⟩) hbw).trans b1, (hz.cell (p := ⟨_, _, none⟩) hbw).trans b2, (hz.cell (p := ⟨_, _, none⟩) hbw).trans b4⟩)
  have HK := Lib.hid (fun (z : World) (hz : Below w.heap.size w z) (i : Nat) (hi : i < p.kids.length) => (h.on hz).kid hi)
  have HE := Lib.hid (fun (z : World) (hz : Below w.heap.size w z) => a6.on hz)
  have HS := Lib.hid (fun (z : World) (hz : Below w.heap.size w z) => hss.on hz)
  have HA := Lib.hid (fun (z : World) (hz : Below w.heap.size w z) => hsa.on hz)
  have HB1 := Lib.hid B1
  have IH := Lib.hid ih
  have HV := Lib.hid hv
  have HC := Lib.hid (And.intro hws (And.intro hsl hd8))
  have HR := Lib.hid hr
  have hof : OnlyF p := Classical.byContradiction fun hn => hv (plW_no hn)
  have Hof := Lib.hid hof
  have hkb : p.kids.length ≤ maxLen ∧ p.exprs.length ≤ maxLen := by omega
  have hwl : ws.length ≤ 4 := hws.1.2
  have hsl4 : ss.length ≤ 4 := by omega
  have hwm : ws.length ≤ maxLen := by unfold maxLen; omega
  unfold maxLen at hkb
  obtain ⟨hkb1, hkb2⟩ := hkb
  skip
  obtain ⟨c0, c1, c2, c4⟩ := BX.out _ (Below.refl _ _)
  have hk8 := hof.1
  clear h hws hv hd8 hsl hsa hss hr ih a1 a2 a3 a4 a5 a3' a3'' a4' a4'' a5' a5'' a6 a7 B1 hof b0 b1 b2 b3 b4
  by_cases hk1 : p.kind = 1
  · have hsc := plW_scan HV.out hk1
    obtain ⟨j, hj⟩ := Int.eq_ofNat_of_zero_le hsc.1
    have hjl : j < ss.length := by have := HC.out.2.1; omega
    have hjI : (j : Int) < (ss.length : Int) := by omega
    have Hz := Lib.hid (show R = ss[j] by
      rw [← HR.out, dfW, if_pos hk1, hj, Int.toNat_natCast, List.getD_eq_getElem?_getD, List.getElem?_eq_getElem hjl]
      rfl)
    obtain ⟨bs, os, hAs, hBs, cc⟩ := (HS.out _ HB1.out).at1 (f := Value.bool) hjl
    subst hAs
    rw [hk1] at c0
    rw [hj] at c1
    clear hsc hj hk1
    go_enter Try.func43, Try.ntmps43
    go_wp2
    go_ret
    exact ⟨ret_bool Hz.out.symm, HB1.out⟩
  by_cases hk6 : p.kind = 6
  · have Hz := Lib.hid (show R = false by rw [← HR.out, dfW, if_neg hk1, if_pos hk6])
    rw [hk6] at c0
    clear hk1 hk6
    go_enter Try.func43, Try.ntmps43
    go_wp2
    go_ret
    exact ⟨ret_bool Hz.out.symm, HB1.out⟩
  by_cases hk7 : p.kind = 7
  · have Hz := Lib.hid (show R = true by rw [← HR.out, dfW, if_neg hk1, if_neg hk6, if_pos (.inl hk7)])
    rw [hk7] at c0
    clear hk1 hk6 hk7
    go_enter Try.func43, Try.ntmps43
    go_wp2
    go_ret
    exact ⟨ret_bool Hz.out.symm, HB1.out⟩
  by_cases hk88 : p.kind = 8
  · have Hz := Lib.hid (show R = true by rw [← HR.out, dfW, if_neg hk1, if_neg hk6, if_pos (.inr hk88)])
    rw [hk88] at c0
    clear hk1 hk6 hk7 hk88
    go_enter Try.func43, Try.ntmps43
    go_wp2
    go_ret
    exact ⟨ret_bool Hz.out.symm, HB1.out⟩
  have hkp : 0 < p.kids.length := by
    have := Hof.out.2.1
    unfold nkids at this
    rw [if_neg hk1] at this
    split at this <;> omega
  obtain ⟨_, e, rfl, hv0⟩ := plW_kids HV.out (List.getElem_mem hkp)
  have Hall : Hid (∀ i (hi : i < p.kids.length), plW ws e p.kids[i] ≠ 0) := Lib.hid (fun i hi => by
    obtain ⟨_, e2, he, hv1⟩ := plW_kids HV.out (List.getElem_mem hi)
    obtain rfl : e2 = e := by omega
    exact hv1)
  have HRk : Hid (R = ((if p.kind = 3 then keepsB p.exprs (kidW (plW ws 8) p 0) else true) && p.kids.all (dfW ws ss (e + 1)))) := Lib.hid (by
    rw [← HR.out, dfW, if_neg hk1, if_neg hk6, if_neg (by omega)])
  have hk1' : (p.kind == 1) = false := by simpa using hk1
  have hk6' : (p.kind == 6) = false := by simpa using hk6
  have hk7' : (p.kind == 7) = false := by simpa using hk7
  have hk88' : (p.kind == 8) = false := by simpa using hk88
  have Hne := Lib.hid (And.intro hk1 (And.intro hk6 (And.intro hk7 hk88)))
  clear hk1 hk6 hk7 hk88 hv0
  have HKN := Lib.hid (show p.kind = 3 → p.kids.length = 1 by
    intro hk3
    have := Hof.out.2.1; rw [hk3] at this; simp [nkids] at this; omega)
  go_enter Try.func43, Try.ntmps43
  go_wp2
  go_loopg [7, 33] p.kids.length (fun g _ iv wr => ∃ i : Nat, i ≤ p.kids.length ∧ g = p.kids.length - i ∧ iv = .int .i64 i ∧ Below w.heap.size w wr ∧ (p.kids.take i).all (dfW ws ss (e + 1)) = true)
  case atStart => exact ⟨0, by omega, by omega, rfl, Below.refl _ _, by simp⟩
  case round =>
    obtain ⟨i, hi, rfl, rfl, hb, hall⟩ := hrel
    have HB := Lib.hid hb
    have HAl := Lib.hid hall
    obtain ⟨c0, c1, c2, c4⟩ := BX.out _ hb
    have hbz := hb.size
    clear hb hall
    by_cases hil : i < p.kids.length
    · have hiI : (i : Int) < (p.kids.length : Int) := by omega
      obtain ⟨qi, oi, g, hAi, hqi, hgat, hg⟩ := HK.out _ (bch HB1.out HB.out) i hil
      rw [hAi] at c4
      obtain ⟨D, hD⟩ : ∃ D, dfW ws ss (e + 1) p.kids[i] = D := ⟨_, rfl⟩
      have HDF := Lib.hid (IH.out _ (List.getElem_mem hil) g qi _ ws ss A A' c c' e wr D hqi hgat hg HC.out.1 (Hall.out i hil) (by have := HC.out.2.2; omega) HC.out.2.1 (HA.out _ (bch HB1.out HB.out)) (HS.out _ (bch HB1.out HB.out)) hD)
      skip
      obtain ⟨d0, d1, d2, d3, d4⟩ := hgat
      have Hst := Lib.hid (show (p.kids.take (i + 1)).all (dfW ws ss (e + 1)) = D by rw [List.take_add_one, List.getElem?_eq_getElem hil, List.all_append, HAl.out]; simp [hD])
      have Hno := Lib.hid (show D = false → p.kids.all (dfW ws ss (e + 1)) = false from fun h => List.all_eq_false.2 ⟨_, List.getElem_mem hil, by rw [hD, h]; simp⟩)
      clear hg hD hAi
      go_wp2_with fail
      refine HDF.out.mono ?_
      rintro e' w2 ⟨rfl, hb2⟩
      have HB2 := Lib.hid (bch HB.out hb2)
      clear hb2
      cases D
      · have Hf := Lib.hid (show R = false by rw [HRk.out, Hno.out rfl]; simp)
        go_wp2
        go_ret
        exact ⟨ret_bool Hf.out.symm, bch HB1.out HB2.out⟩
      · go_wp2
        go_roundg (p.kids.length - (i + 1))
        case measure => omega
        case rel => exact ⟨i + 1, by omega, rfl, by go_num, HB2.out, Hst.out⟩
    · have hiI : ¬ (i : Int) < (p.kids.length : Int) := by omega
      have Hk := Lib.hid (show p.kids.all (dfW ws ss (e + 1)) = true by have h1 := HAl.out; rwa [List.take_of_length_le (by omega)] at h1)
      by_cases hk3 : p.kind = 3
      case neg =>
        have hk3' : (p.kind != 3) = true := by simpa using hk3
        have Hz := Lib.hid (show R = true by rw [HRk.out, if_neg hk3, Hk.out]; rfl)
        clear hk3
        go_wp2
        go_ret
        exact ⟨ret_bool Hz.out.symm, bch HB1.out HB.out⟩
      case pos =>
        have hk3' : (p.kind != 3) = false := by simp [hk3]
        obtain ⟨q0, o0, g, hA0, hq0, hgat, hg⟩ := HK.out _ (bch HB1.out HB.out) 0 hkp
        obtain ⟨X, hX⟩ : ∃ X, plW ws 8 p.kids[0] = X := ⟨_, rfl⟩
        have hXe : plW ws e p.kids[0] = X := by rw [← hX]; exact (plW_more e 8 _ (by have := HC.out.2.2; omega) (Hall.out 0 hkp)).symm
        have hXr : 0 ≤ X ∧ X ≤ 6 := by rw [← hX]; exact plW_range HC.out.1.2 _ _
        have hX1 : X ≠ 0 := by rw [← hXe]; exact Hall.out 0 hkp
        have hkw : kidW (plW ws 8) p 0 = X := by unfold kidW; rw [List.getElem?_eq_getElem hkp]; exact hX
        obtain ⟨m, rfl⟩ := Int.eq_ofNat_of_zero_le hXr.1
        have hcb : ColsBelow p.exprs m := fun x hx hxk => by
          have h1 := HV.out
          rw [plW_top Hof.out (by omega) (fun y hy => by obtain ⟨j, hj, rfl⟩ := List.getElem_of_mem hy; exact Hall.out j hj)] at h1
          have hke : kidW (plW ws (e + 1 - 1)) p 0 = m := by unfold kidW; rw [List.getElem?_eq_getElem hkp]; exact hXe
          rw [hke] at h1
          unfold topW at h1
          rw [if_neg (by omega), if_neg (by omega), if_pos hk3] at h1
          have h2 := Classical.byContradiction fun hn => h1 (if_neg (fun hh => hn hh.1))
          have h3 := (h2 x hx).2
          have h4 := (exOk_iff.1 h3).2.2.2
          unfold LocOk at h4
          rw [if_pos hxk] at h4
          omega
        have Hcb := Lib.hid hcb
        have HPW := Lib.hid (fun (z : World) (hz : Below wr.heap.size wr z) => PlanWidth_ok p.kids[0] g ws A c z m (hg.on hz) hwm (HA.out _ (bch (bch HB1.out HB.out) hz)) (by unfold widthP; rw [if_pos HC.out.1]; exact hX))
        unfold fpV at HPW
        have HZ := Lib.hid (show R = decide (colBits p.exprs = 2 ^ m - 1) by
          rw [HRk.out, if_pos hk3, Hk.out, hkw, Bool.and_true]
          by_cases hh : keepsB p.exprs m = true
          · rw [hh]; exact (decide_eq_true ((colBits_keeps hcb).2 hh)).symm
          · rw [Bool.eq_false_iff.2 hh]; exact (decide_eq_false fun e => hh ((colBits_keeps hcb).1 e)).symm)
        have hm6 : m ≤ 6 := by omega
        have hm1 : 1 ≤ m := by omega
        obtain ⟨k0, k1, k2, k3, k4⟩ := hgat
        simp only [Nat.zero_mul, Nat.add_zero] at k0 k1 k2 k3 k4
        have HX := Lib.hid (HE.out _ (bch HB1.out HB.out))
        have HkA := Lib.hid hA0
        clear hX hXe hXr hX1 hkw hcb hg hk3
        go_wp2
        go_loopg [8, 9, 57] p.exprs.length (fun g fv _ iv wx => ∃ i : Nat, i ≤ p.exprs.length ∧ g = p.exprs.length - i ∧ iv = .int .i64 i ∧ fv = .int .i64 (colBits (p.exprs.take i) : Nat) ∧ wr = wx)
        case atStart => exact ⟨0, by omega, by omega, rfl, by simp [colBits], rfl⟩
        case round =>
          obtain ⟨i, hi, rfl, rfl, rfl, rfl⟩ := hrel
          by_cases hil2 : i < p.exprs.length
          · have hiI2 : (i : Int) < (p.exprs.length : Int) := by omega
            obtain ⟨bx, ox, fx, hAx, hBx, hxat, hx⟩ := HX.out.at_ hil2
            obtain ⟨x1, x2, _⟩ := hx.flat
            rw [hAx] at c2
            clear hAx
            have Hs := Lib.hid (show colBits (p.exprs.take (i + 1)) = if p.exprs[i].kind = 1 then colBits (p.exprs.take i) ||| 2 ^ p.exprs[i].col.toNat else colBits (p.exprs.take i) by rw [List.take_add_one, List.getElem?_eq_getElem hil2]; exact colBits_snoc _ _)
            have Hlt := Lib.hid (show colBits (p.exprs.take i) < 2 ^ m from (colBits_spec _ _ rfl fun y hy => Hcb.out y (List.mem_of_mem_take hy)).1)
            obtain ⟨n, hn⟩ : ∃ n, colBits (p.exprs.take i) = n := ⟨_, rfl⟩
            rw [hn]
            have Hn := Lib.hid hn
            clear hn
            by_cases hkx : p.exprs[i].kind = 1
            · obtain ⟨hc0, hc1⟩ := Hcb.out _ (List.getElem_mem hil2) hkx
              obtain ⟨cn, hcn⟩ := Int.eq_ofNat_of_zero_le hc0
              have HCO := Lib.hid (columns_ok fx bx _ cn wr hBx hxat (x1.trans hkx) (x2.trans hcn) (by omega))
              obtain ⟨y0, y1, y2, y3, y4⟩ := hxat
              rw [x1, hkx] at y0
              have hn64 : n < 64 := by
                have h1 := Hlt.out
                rw [Hn.out] at h1
                exact Nat.lt_of_lt_of_le h1 (by have := Nat.pow_le_pow_right (n := 2) (by omega) hm6; omega)
              have hc64 : 2 ^ cn < 64 := Nat.lt_of_lt_of_le (Nat.pow_lt_pow_right (by omega) (show cn < 6 by omega)) (by omega)
              have hor := bor_i64 n (2 ^ cn) (by omega) (by omega)
              have Hf := Lib.hid (show colBits (p.exprs.take (i + 1)) = n ||| 2 ^ cn by rw [Hs.out, if_pos hkx, hcn, Hn.out]; rfl)
              generalize 2 ^ cn = cb at *
              clear hx x1 x2 hkx hc0 hc1 hcn
              go_wp2_with fail
              refine HCO.out.mono ?_
              rintro e' w5 ⟨rfl, rfl⟩
              go_wp2
              go_roundg (p.exprs.length - (i + 1))
              case measure => omega
              case rel => exact ⟨i + 1, by omega, rfl, by go_num, by rw [Hf.out], rfl⟩
            · have hkx' : (p.exprs[i].kind == 1) = false := by simpa using hkx
              obtain ⟨y0, y1, y2, y3, y4⟩ := hxat
              rw [x1] at y0
              have Hf := Lib.hid (show colBits (p.exprs.take (i + 1)) = n by rw [Hs.out, if_neg hkx, Hn.out])
              clear hx x1 x2 hkx
              go_wp2
              go_roundg (p.exprs.length - (i + 1))
              case measure => omega
              case rel => exact ⟨i + 1, by omega, rfl, by go_num, by rw [Hf.out], rfl⟩
          · have hiI2 : ¬ (i : Int) < (p.exprs.length : Int) := by omega
            rw [List.take_of_length_le (show p.exprs.length ≤ i by omega)]
            obtain ⟨n, hn⟩ : ∃ n, colBits p.exprs = n := ⟨_, rfl⟩
            rw [hn] at HZ
            rw [hn]
            rw [HkA.out] at c4
            have hkpI : (0 : Int) < (p.kids.length : Int) := by omega
            clear hn
            go_wp2_with fail
            refine (HPW.out _ (Below.refl _ _)).mono ?_
            rintro e' w6 ⟨rfl, hb6⟩
            have HB6 := Lib.hid (bch HB.out hb6)
            have hm7 : m = 1 ∨ m = 2 ∨ m = 3 ∨ m = 4 ∨ m = 5 ∨ m = 6 := by omega
            clear hb6
            rcases hm7 with rfl | rfl | rfl | rfl | rfl | rfl
            all_goals
              go_wp2
              go_ret
              exact ⟨ret_bool (by rw [HZ.out]; exact eqk n _), bch HB1.out HB6.out⟩

end Go.Proofs.Ytooeicfhciefoaa
