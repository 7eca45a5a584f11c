/-
  Contract: which columns of a plan's result may be null, as the program computes it (nullable). (Printed by wip/nuy.py.)
-/
import Derived.Test.YtcbfbgngkdiijaaProg
import Derived.Test.YtcbfbgngkdiijaaZnNuX
namespace Go.Proofs.Ytcbfbgngkdiijaa
open Go.RowKit Go.Qo
set_option linter.unusedVariables false
set_option linter.unusedSimpArgs false

theorem flat_setB : ∀ (xs : List Bool) (j : Nat) (y : Bool), (xs.flatMap boolC).set j (.bool y) = (xs.set j y).flatMap boolC
  | [], j, y => by simp
  | x :: xs, 0, y => by simp [boolC]
  | x :: xs, j + 1, y => by
    have ih := flat_setB xs j y
    simpa [boolC] using ih
theorem boolC_flat : ∀ zs : List Bool, zs.flatMap boolC = zs.map Value.bool
  | [] => rfl
  | a :: l => by simp [boolC]; exact boolC_flat l
def NulI (flags : List (List Bool)) (p : Pl) : Prop := ∀ (f : FP) (b o : Nat) (ws : List Int) (A : Option Addr) (c d : Nat) (w : World), (∀ x ∈ ws, 1 ≤ x ∧ x ≤ 6) → FlOk ws flags → flags.length ≤ maxLen → PnAt w b o f p → plW ws d p ≠ 0 → FlIn w w.heap.size A flags →
  Calls Try.prog 16 #[.pointer (some ⟨b, o, none⟩), .slice A flags.length c] w (OwnB (nulP flags p) w)

set_option maxRecDepth 20000 in
set_option maxHeartbeats 16000000 in
theorem implNullable_ok (flags : List (List Bool)) : ∀ p : Pl, NulI flags p := Pl.ind fun p ih f b o ws A c d w hws hfo hfm h hv hfl => by
  have HP := Lib.hid h
  have HF := Lib.hid hfl
  have IH := Lib.hid ih
  have HV := Lib.hid hv
  have HWS := Lib.hid (And.intro hws hfo)
  have hof : OnlyF p := Classical.byContradiction fun hn => hv (plW_no hn)
  have Hof := Lib.hid hof
  have HNT := Lib.hid (nuTop hws hfo hv)
  obtain ⟨a1, a2, ⟨a3, a3', a3''⟩, ⟨a4, a4', a4''⟩, ⟨a5, a5', a5''⟩, a6, a7⟩ := h.in_.flat
  have hkb : p.kids.length ≤ maxLen ∧ p.cols.length ≤ maxLen ∧ p.exprs.length ≤ maxLen := by omega
  have hfmm := hfm
  unfold maxLen at hkb hfmm
  obtain ⟨hkb1, hkb2, hkb3⟩ := hkb
  obtain ⟨R, hR⟩ : ∃ R, nulP flags p = R := ⟨_, rfl⟩
  have HR := Lib.hid (show R = _ from hR.symm.trans (nulP_top flags p))
  rw [hR]
  have hk8 := hof.1
  have HMX := Lib.hid hfm
  have HEX := Lib.hid (fun (z : World) (hz : Below w.heap.size w z) => a6.on hz)
  have HCX := Lib.hid (fun (z : World) (hz : Below w.heap.size w z) => a7.on hz)
  obtain ⟨c0, c1, c2, c3, c4⟩ := h.cells
  clear h hv hws hfo hfm hfl ih a1 a2 a3 a4 a5 a3' a3'' a4' a4'' a5' a5'' a6 a7 hof hR
  by_cases hk1 : p.kind = 1
  · have hsc := plW_scan HV.out hk1
    obtain ⟨j, hj⟩ := Int.eq_ofNat_of_zero_le hsc.1
    have hjl : j < flags.length := by have := HWS.out.2.1; omega
    have hjI : (j : Int) < (flags.length : Int) := by omega
    have hz := HR.out
    rw [if_pos hk1, hj, Int.toNat_natCast, List.getD_eq_getElem?_getD, List.getElem?_eq_getElem hjl] at hz
    have hz2 : R = flags[j] := hz
    obtain ⟨bs, os, s, hA, hBs, cc, hs1, hs2, hsl⟩ := HF.out.at_ hjl
    have hRl : R.length ≤ 6 := by
      have h1 := HWS.out.2.2 j flags[j] (ws[j]'(by rw [← HWS.out.2.1]; exact hjl)) (List.getElem?_eq_getElem hjl) (List.getElem?_eq_getElem _)
      have h2 := HWS.out.1 _ (List.getElem_mem (show j < ws.length by rw [← HWS.out.2.1]; exact hjl))
      rw [hz2]
      omega
    subst hA
    rw [← hz2] at cc hs1 hsl
    have HCO := Lib.hid (copiedB_ok s.A s.c R w (by omega) hsl)
    rw [hk1] at c0
    rw [hj] at c1
    clear hsc hj hk1 hz hz2 hsl c2 c3 c4 hs1 hs2
    go_enter Try.func16, Try.ntmps16
    go_wp2_with fail
    refine HCO.out.mono ?_
    rintro e' w2 ⟨v2, rfl, how2, hb2⟩
    have H2 := Lib.hid (And.intro how2 hb2)
    clear how2 hb2
    go_wp2
    go_ret
    exact ⟨_, rfl, H2.out.1, H2.out.2⟩
  have hk1' : (p.kind == 1) = false := by simpa using hk1
  have NT := Lib.hid (HNT.out hk1)
  have hkp : 0 < p.kids.length := by
    have := Hof.out.2.1
    unfold nkids at this
    rw [if_neg hk1] at this
    split at this <;> omega
  obtain ⟨_, e, rfl, hv0⟩ := plW_kids HV.out (List.getElem_mem hkp)
  have HKID := Lib.hid (fun (z : World) (hz : Below w.heap.size w z) (i : Nat) (hi : i < p.kids.length) (hvi : plW ws e p.kids[i] ≠ 0) => show ∃ b1 o1, f.ks.A = some ⟨b1, o1, none⟩ ∧ b1 < z.heap.size ∧ Calls Try.prog 16 #[.pointer (some ⟨b1, o1 + i * 5, none⟩), .slice A flags.length c] z (OwnB (kidN flags p i) z) from by
    obtain ⟨b1, o1, g, e1, e2, e3, e4⟩ := (HP.out.in_.on hz).kid hi
    have := IH.out _ (List.getElem_mem hi) g b1 (o1 + i * 5) ws A c e z HWS.out.1 HWS.out.2 HMX.out ⟨e2, e3, e4⟩ hvi (HF.out.on hz)
    rw [← kidN_at (flags := flags) hi] at this
    exact ⟨b1, o1, e1, e2, this⟩)
  obtain ⟨b1, o1, hA1, hb1, HX0⟩ := HKID.out w (Below.refl _ _) 0 hkp hv0
  have hxl := NT.out.len
  obtain ⟨xs, hxs⟩ : ∃ l, kidN flags p 0 = l := ⟨_, rfl⟩
  obtain ⟨ys, hys⟩ : ∃ l, kidN flags p 1 = l := ⟨_, rfl⟩
  have HXS := Lib.hid hxs
  have HYS := Lib.hid hys
  have HZ := Lib.hid (show R = if p.kind = 2 then filN (p.exprs.getD 0 (.mk 0 0 (false, 0) [])) xs else if p.kind = 3 then p.exprs.map fun e => Qo.has (outc (stsOf xs) e) 4 else if p.kind = 4 then xs ++ ys else if p.kind = 5 then xs ++ ys.map fun _ => true else if p.kind = 6 then (List.range xs.length).map fun i => xs.getD i false || ys.getD i false else if p.kind = 8 then (p.cols.map fun c => xs.getD c.toNat false) ++ [false] else xs by
    rw [HR.out, if_neg hk1, hxs, hys])
  rw [hxs] at HX0 hxl
  rw [hys] at hxl
  have HAk := Lib.hid hA1
  simp only [Nat.zero_mul, Nat.add_zero] at HX0
  have hkpI : (0 : Int) < (p.kids.length : Int) := by omega
  have HX0h := Lib.hid HX0
  rw [hA1] at c4
  clear hv0 hA1 HX0 hk1 hxs hys
  go_enter Try.func16, Try.ntmps16
  go_wp2_with fail
  refine HX0h.out.mono ?_
  rintro e' w2 ⟨v2, rfl, how2, hb2⟩
  obtain ⟨A2, cc2, rfl, hc21, hc22, _⟩ := how2.shape boolC_length
  have HB2 := Lib.hid hb2
  have HSX := Lib.hid (show Sl 1 boolC w2 w2.heap.size A2 xs from (slS_ow boolC_length how2 (S := fun _ => True) fun _ _ => trivial).sl)
  have HOX := Lib.hid how2
  have hsz2 := hb2.size
  unfold maxLen at hc22
  clear how2 c0 c1 c2 c3 c4
  obtain ⟨c0, c1, c2, c3, c4⟩ := (HP.out.on hb2).cells
  rw [HAk.out] at c4
  clear hb2
  by_cases hk2 : p.kind = 2
  · have hz := HZ.out
    rw [if_pos hk2] at hz
    obtain ⟨hex, hel, hel1⟩ := NT.out.ex (.inl hk2)
    have hel1 := hel1 hk2
    have hp0 : 0 < p.exprs.length := by omega
    rw [List.getD_eq_getElem?_getD, List.getElem?_eq_getElem hp0] at hz
    have hz2 : R = filN p.exprs[0] xs := hz
    have HFN := Lib.hid (nullableAfterFilter_ok p f b o A2 cc2 xs w2 (HP.out.on HB2.out) (by omega) hp0 (by rw [← HXS.out]; exact hex _ (List.getElem_mem hp0)) HSX.out)
    rw [← hz2] at HFN
    rw [hk2] at c0
    clear hz hz2 hex hel1 hk1' hk8 hk2
    go_wp2_with fail
    refine HFN.out.mono ?_
    rintro e' w3 ⟨v3, rfl, how3, hb3⟩
    have H3 := Lib.hid (And.intro (how3.low hsz2) (bch HB2.out hb3))
    clear how3 hb3
    go_wp2
    go_ret
    exact ⟨_, rfl, H3.out.1, H3.out.2⟩
  have hk2' : (p.kind == 2) = false := by simpa using hk2
  by_cases hk3 : p.kind = 3
  · have hz := HZ.out
    rw [if_neg hk2, if_pos hk3] at hz
    obtain ⟨hex, hel, _⟩ := NT.out.ex (.inr hk3)
    obtain ⟨L, hL⟩ : ∃ l, (p.exprs.map fun e => Qo.has (outc (stsOf xs) e) 4) = l := ⟨_, rfl⟩
    rw [hL] at hz
    have HZ2 := Lib.hid hz
    have HEL := Lib.hid (show ∀ e ∈ p.exprs, ExOk (xs.length : Int) 8 e by rw [← HXS.out]; exact hex)
    have HY := Lib.hid (show L.length = p.exprs.length by rw [← hL]; simp)
    have HLA := Lib.hid (show ∀ i (hi : i < p.exprs.length), L[i]? = some (Qo.has (outc (stsOf xs) p.exprs[i]) 4) by intro i hi; rw [← hL, List.getElem?_map, List.getElem?_eq_getElem hi]; rfl)
    have HST := Lib.hid (implStatesOf_ok A2 cc2 xs w2 (by omega) HSX.out)
    rw [hk3] at c0
    clear hz hex hk1' hk8 hk2 hk2' hk3 hL
    go_wp2_with fail
    refine HST.out.mono ?_
    rintro e' w3 ⟨rfl, hb3, r3⟩
    have HB3 := Lib.hid (bch HB2.out hb3)
    have HSS := Lib.hid (show Sl 1 intC w3 w3.heap.size (some ⟨w2.heap.size, 0, none⟩) (stI (stsOf xs)) by rw [stI_of]; exact Row.sl' (t := 3) intC_length r3)
    clear hb3 r3 c0 c1 c2 c3 c4
    obtain ⟨c0, c1, c2, c3, c4⟩ := (HP.out.on HB3.out).cells
    have hmk := run_make_rowN (P := Try.prog) 31 4 _ _ _ Try.underlying31 zeroBoolN .i64 .i64 p.exprs.length (by omega) (by omega)
    obtain ⟨W4, hW4⟩ : ∃ z, w3.alloc (.cells (madeCells #[.bool false] p.exprs.length) 4) = z := ⟨_, rfl⟩
    have HB4 := Lib.hid (show Below w3.heap.size w3 W4 by rw [← hW4]; exact balloc (Below.refl _ _) _)
    have HR4 := Lib.hid (show Row W4 w3.heap.size 4 (filled boolC [.bool false] L 0) by
      rw [← hW4]
      exact (Row.new _ _ _).of (by have h1 := (made_zeros [Value.bool false] L.length).trans (filled_zero boolC [Value.bool false] L).symm; rw [HY.out, show p.exprs.length * [Value.bool false].length = p.exprs.length from Nat.mul_one _] at h1; exact h1))
    have HW4 := Lib.hid hW4
    clear hW4
    go_upto_region 10 with fail
    rw [HW4.out]
    clear c0 c1 c2 c3 c4
    obtain ⟨c0, c1, c2, c3, c4⟩ := ((HP.out.on HB3.out).on HB4.out).cells
    go_wp2
    go_loopg [58] (p.exprs.length) (fun g i wr => ∃ k : Nat, k ≤ p.exprs.length ∧ g = p.exprs.length - k ∧ i = .int .i64 k ∧ Below w3.heap.size w3 wr ∧ Row wr w3.heap.size 4 (filled boolC [.bool false] L k))
    case atStart => exact ⟨0, by omega, by omega, rfl, HB4.out, HR4.out⟩
    case round =>
      obtain ⟨k, hk, rfl, rfl, hb, hrow⟩ := hrel
      have HBr := Lib.hid hb
      have HBw := Lib.hid (bch HB3.out hb)
      have HRow := Lib.hid hrow
      clear hb hrow c0 c1 c2 c3 c4
      by_cases hlt : k < p.exprs.length
      · have hltI : (k : Int) < (p.exprs.length : Int) := by omega
        have hp4 := HP.out.on HBw.out
        obtain ⟨c0, c1, c2, c3, c4⟩ := hp4.cells
        obtain ⟨bx, ox, gx, hAx, hBx, hxat, hx⟩ := (hp4.in_.flat.2.2.2.2.2.1).at_ hlt
        rw [hAx] at c2
        have HLk := Lib.hid (HLA.out k hlt)
        have HOC := Lib.hid (implOutcomes_ok p.exprs[k] gx bx (ox + k * 5) (stsOf xs) (some ⟨w2.heap.size, 0, none⟩) xs.length 8 wr hBx hxat hx (by rw [stsOf_len]; exact HEL.out _ (List.getElem_mem hlt)) (by rw [stsOf_len]; omega) (stsOf_8 xs) (HSS.out.on HBr.out))
        have ho8 := (stsOf_8 xs).outc p.exprs[k]
        rw [stsOf_len] at HOC
        obtain ⟨oc, hoc⟩ : ∃ n, outc (stsOf xs) p.exprs[k] = n := ⟨_, rfl⟩
        rw [hoc] at HOC ho8 HLk
        have ha2 := and4 ho8
        obtain ⟨r, hr⟩ : ∃ r, Qo.has oc 4 = r := ⟨_, rfl⟩
        rw [hr] at ha2 HLk
        clear hx hAx hoc hr hxat hp4
        go_wp2_with fail
        refine HOC.out.mono ?_
        rintro e' w6 ⟨rfl, hb6⟩
        have HB6 := Lib.hid hb6
        have r6 := HRow.out.on hb6
        have HR6 := Lib.hid r6
        have hlen := filled_length 1 boolC boolC_length [.bool false] rfl L (k := k) (by have := HY.out; omega)
        obtain ⟨v1, hv1⟩ : ∃ v, (filled boolC [.bool false] L k)[k]? = some v := ⟨_, List.getElem?_eq_getElem (by have := HY.out; omega)⟩
        have e1 : w6.cell? ⟨w3.heap.size, k, none⟩ = some v1 := (r6.cell k).trans hv1
        have e2 := r6.frozen k
        have e4 := r6.lt
        clear hb6 hlen hv1 r6 c0 c1 c2 c3 c4
        go_wp2
        go_roundg (p.exprs.length - (k + 1))
        case measure => omega
        case rel =>
          exact ⟨k + 1, by omega, rfl, by go_num, (bch HBr.out HB6.out).setCell (p := ⟨_, _, none⟩) (Nat.le_refl _) _,
            (HR6.out.set _ _).of (by have := filled_next 1 boolC boolC_length [.bool false] rfl L HLk.out; simpa [over, boolC] using this)⟩
      · have hltI : ¬ (k : Int) < (p.exprs.length : Int) := by omega
        have HRF := Lib.hid (HRow.out.of (filled_all _ _ _ (by have := HY.out; omega)))
        have HOF := Lib.hid (ow_of_row (lo := w.heap.size) boolC_length HRF.out HB3.out.size (by have := HY.out; unfold maxLen; omega))
        rw [HY.out] at HOF
        go_wp2
        go_ret
        exact ⟨_, rfl, by rw [HZ2.out]; exact HOF.out, HBw.out⟩
  have hk3' : (p.kind == 3) = false := by simpa using hk3
  by_cases hk4 : p.kind = 4
  · have hz := HZ.out
    rw [if_neg hk2, if_neg hk3, if_pos hk4] at hz
    have HZ2 := Lib.hid hz
    have Hk := Lib.hid (show p.kind = 4 ∨ p.kind = 5 ∨ p.kind = 6 by omega)
    have hkp1 : 1 < p.kids.length := by rw [nkids_twoN Hof.out Hk.out]; omega
    have hkp1I : (1 : Int) < (p.kids.length : Int) := by omega
    obtain ⟨_, e2, he2, hv1⟩ := plW_kids HV.out (List.getElem_mem hkp1)
    obtain rfl : e2 = e := by omega
    obtain ⟨b2, o2, hA2, hb2, HX1⟩ := HKID.out w2 HB2.out 1 hkp1 hv1
    rw [HAk.out] at hA2
    cases hA2
    rw [HYS.out] at HX1
    simp only [Nat.one_mul] at HX1
    have HX1h := Lib.hid HX1
    rw [hk4] at c0
    clear hz hk1' hk8 hk4 he2 hv1 HX1
    go_wp2_with fail
    refine HX1h.out.mono ?_
    rintro e' w3 ⟨v3, rfl, how3, hb3⟩
    obtain ⟨A3, cc3, rfl, hc31, hc32, _⟩ := how3.shape boolC_length
    have HB3 := Lib.hid (bch HB2.out hb3)
    have HO3 := Lib.hid (HOX.out.on hb3)
    have HB23 := Lib.hid hb3
    have HOY := Lib.hid how3
    have HSY := Lib.hid (show Sl 1 boolC w3 w3.heap.size A3 ys from (slS_ow boolC_length how3 (S := fun _ => True) fun _ _ => trivial).sl)
    have hszw3 : w.heap.size ≤ w3.heap.size := HB3.out.size
    unfold maxLen at hc32
    clear how3 hb3 c0 c1 c2 c3 c4
    go_wp2_with (at_builtin; refine wpList_app2 rfl (.tmp 78) (.tmp 85) 31 rfl w.heap.size 4 _ 1 1 boolC Try.underlying31 zeroBoolN rfl (by decide) (by decide) boolC_length boolC_one _ (xs) rfl HO3.out (A3) ys.length cc3 (ys) rfl rfl HSY.out (by omega) hszw3 ?_; intro v' w' hown hgr hob)
    go_ret
    exact ⟨_, rfl, by rw [HZ2.out]; exact hown, HB3.out.grown hgr hszw3 fun k hk => (HO3.out.ty k hk).1⟩
  have hk4' : (p.kind == 4) = false := by simpa using hk4
  by_cases hk5 : p.kind = 5
  · have hz := HZ.out
    rw [if_neg hk2, if_neg hk3, if_neg hk4, if_pos hk5] at hz
    have Hk := Lib.hid (show p.kind = 4 ∨ p.kind = 5 ∨ p.kind = 6 by omega)
    obtain ⟨L, hL⟩ : ∃ l, (xs ++ ys.map fun _ => true) = l := ⟨_, rfl⟩
    rw [hL] at hz
    have HZ2 := Lib.hid hz
    have HLl := Lib.hid (show L.length = xs.length + ys.length by rw [← hL]; simp)
    have HLs := Lib.hid (show L.take xs.length = xs by rw [← hL]; simp)
    have HLy := Lib.hid (show ∀ i (hi : i < ys.length), L.take (xs.length + (i + 1)) = L.take (xs.length + i) ++ [true] by
      intro i hi
      rw [show xs.length + (i + 1) = xs.length + i + 1 by omega, List.take_add_one, ← hL, List.getElem?_append_right (by omega), show xs.length + i - xs.length = i by omega]
      rw [List.getElem?_map, List.getElem?_eq_getElem hi]; rfl)
    have hkp1 : 1 < p.kids.length := by rw [nkids_twoN Hof.out Hk.out]; omega
    have hkp1I : (1 : Int) < (p.kids.length : Int) := by omega
    obtain ⟨_, e2, he2, hv1⟩ := plW_kids HV.out (List.getElem_mem hkp1)
    obtain rfl : e2 = e := by omega
    obtain ⟨b2, o2, hA2, hb2, HX1⟩ := HKID.out w2 HB2.out 1 hkp1 hv1
    rw [HAk.out] at hA2
    cases hA2
    rw [HYS.out] at HX1
    simp only [Nat.one_mul] at HX1
    have HX1h := Lib.hid HX1
    rw [hk5] at c0
    clear hz hL hk1' hk8 hk5 he2 hv1 HX1
    go_wp2_with fail
    refine HX1h.out.mono ?_
    rintro e' w3 ⟨v3, rfl, how3, hb3⟩
    obtain ⟨A3, cc3, rfl, hc31, hc32, _⟩ := how3.shape boolC_length
    have HB3 := Lib.hid (bch HB2.out hb3)
    have HO3 := Lib.hid (HOX.out.on hb3)
    have HB23 := Lib.hid hb3
    have HOY := Lib.hid how3
    have HSY := Lib.hid (show Sl 1 boolC w3 w3.heap.size A3 ys from (slS_ow boolC_length how3 (S := fun _ => True) fun _ _ => trivial).sl)
    have hszw3 : w.heap.size ≤ w3.heap.size := HB3.out.size
    unfold maxLen at hc32
    clear how3 hb3 c0 c1 c2 c3 c4
    go_wp2
    go_loopg [5, 97] ys.length (fun g v iv wr => ∃ i : Nat, i ≤ ys.length ∧ g = ys.length - i ∧ iv = .int .i64 i ∧ Ow w.heap.size 4 1 boolC wr v (L.take (xs.length + i)) ∧ Below w.heap.size w wr)
    case atStart => exact ⟨0, by omega, by omega, rfl, by rw [Nat.add_zero, HLs.out]; exact HO3.out, HB3.out⟩
    case round =>
      obtain ⟨i, hi, rfl, rfl, how, hb⟩ := hrel
      have HO := Lib.hid how
      have HBR := Lib.hid hb
      clear how hb
      by_cases hil : i < ys.length
      · have hiI : (i : Int) < (ys.length : Int) := by omega
        have Hy := Lib.hid (HLy.out i hil)
        have htl : (L.take (xs.length + i)).length ≤ 12 := by rw [List.length_take, HLl.out]; omega
        obtain ⟨U, hU⟩ : ∃ z, wr.alloc (.cells #[.bool true] 4) = z := ⟨_, rfl⟩
        have hub : Below wr.heap.size wr U := by rw [← hU]; exact balloc (Below.refl _ _) _
        have HO5 := Lib.hid (HO.out.on hub)
        have HB5 := Lib.hid (bch HBR.out hub)
        have HS5 := Lib.hid (show Sl 1 boolC U U.heap.size (some ⟨wr.heap.size, 0, none⟩) [true] by rw [← hU]; exact Row.sl' (t := 4) boolC_length ((Row.new wr _ _).of rfl))
        have hsz5 : w.heap.size ≤ U.heap.size := HB5.out.size
        have HU := Lib.hid hU
        clear hU hub
        go_wp2_with (at_builtin; rw [HU.out]; refine wpList_app2 rfl (.tmp 99) (.tmp 100) 31 rfl w.heap.size 4 _ 1 1 boolC Try.underlying31 zeroBoolN rfl (by decide) (by decide) boolC_length boolC_one _ (L.take (xs.length + i)) rfl HO5.out (some ⟨wr.heap.size, 0, none⟩) 1 1 ([true]) rfl rfl HS5.out (by simp only [List.length_singleton]; omega) hsz5 ?_; intro v' w' hown hgr hob)
        go_roundg (ys.length - (i + 1))
        case measure => omega
        case rel => exact ⟨i + 1, by omega, rfl, by go_num, by rw [Hy.out]; exact hown, HB5.out.grown hgr hsz5 fun k hk => (HO5.out.ty k hk).1⟩
      · have hiI : ¬ (i : Int) < (ys.length : Int) := by omega
        have hte : L.take (xs.length + i) = R := by rw [HZ2.out]; exact List.take_of_length_le (by rw [HLl.out]; omega)
        rw [hte] at HO
        clear hte
        go_wp2
        go_ret
        exact ⟨_, rfl, HO.out, HBR.out⟩
  have hk5' : (p.kind == 5) = false := by simpa using hk5
  by_cases hk6 : p.kind = 6
  · have hz := HZ.out
    rw [if_neg hk2, if_neg hk3, if_neg hk4, if_neg hk5, if_pos hk6] at hz
    have Hk := Lib.hid (show p.kind = 4 ∨ p.kind = 5 ∨ p.kind = 6 by omega)
    have hxy : ys.length = xs.length := by rw [← HXS.out, ← HYS.out]; exact NT.out.un hk6
    have HXY := Lib.hid hxy
    have HZ2 := Lib.hid hz
    have hkp1 : 1 < p.kids.length := by rw [nkids_twoN Hof.out Hk.out]; omega
    have hkp1I : (1 : Int) < (p.kids.length : Int) := by omega
    obtain ⟨_, e2, he2, hv1⟩ := plW_kids HV.out (List.getElem_mem hkp1)
    obtain rfl : e2 = e := by omega
    obtain ⟨b2, o2, hA2, hb2, HX1⟩ := HKID.out w2 HB2.out 1 hkp1 hv1
    rw [HAk.out] at hA2
    cases hA2
    rw [HYS.out] at HX1
    simp only [Nat.one_mul] at HX1
    have HX1h := Lib.hid HX1
    rw [hk6] at c0
    clear hz hk1' hk8 hk6 he2 hv1 HX1 hxy
    go_wp2_with fail
    refine HX1h.out.mono ?_
    rintro e' w3 ⟨v3, rfl, how3, hb3⟩
    obtain ⟨A3, cc3, rfl, hc31, hc32, _⟩ := how3.shape boolC_length
    have HB3 := Lib.hid (bch HB2.out hb3)
    have HO3 := Lib.hid (HOX.out.on hb3)
    have HB23 := Lib.hid hb3
    have HOY := Lib.hid how3
    have HSY := Lib.hid (show Sl 1 boolC w3 w3.heap.size A3 ys from (slS_ow boolC_length how3 (S := fun _ => True) fun _ _ => trivial).sl)
    have hszw3 : w.heap.size ≤ w3.heap.size := HB3.out.size
    unfold maxLen at hc32
    clear how3 hb3 c0 c1 c2 c3 c4
    obtain ⟨g, hAg, _, hg, hgl, _, _, _⟩ := HOX.out.head boolC_length (by omega)
    subst hAg
    have hgl3 : g < w3.heap.size := by have := HB23.out.size; omega
    have HSYg := Lib.hid (slS_ow boolC_length HOY.out (S := fun k => k ≠ g) fun k hk => by have := (HOY.out.ty k hk).1; show k ≠ g; omega)
    go_wp2
    go_loopg [114] ys.length (fun gg iv wr => ∃ i : Nat, i ≤ ys.length ∧ gg = ys.length - i ∧ iv = .int .i64 i ∧ (∃ zs : List Bool, zs.length = xs.length ∧ (∀ j, zs.getD j false = if j < i then (xs.getD j false || ys.getD j false) else xs.getD j false) ∧ Ow w.heap.size 4 1 boolC wr (.slice (some ⟨g, 0, none⟩) xs.length cc2) zs) ∧ Only (fun k => k = g) w3 wr)
    case atStart => exact ⟨0, by omega, by omega, rfl, ⟨xs, rfl, fun j => by rw [if_neg (by omega)], HO3.out⟩, Only.refl _⟩
    case round =>
      obtain ⟨i, hi, rfl, rfl, ⟨zs, hzl, hzj, how⟩, hon⟩ := hrel
      have HO := Lib.hid how
      have HON := Lib.hid hon
      have HZJ := Lib.hid hzj
      have HZL := Lib.hid hzl
      by_cases hil : i < ys.length
      · have hiI : (i : Int) < (ys.length : Int) := by omega
        have hix : i < xs.length := by have := HXY.out; omega
        have hixI : (i : Int) < (xs.length : Int) := by omega
        obtain ⟨b0, o0', rfl, hB0, e0⟩ := Sl.at1 (f := fun x : Bool => Value.bool x) ((HSYg.out.keep hon.size fun b hb hl => hon.block b hl hb).sl) hil
        obtain ⟨g', hAg, _, _, hgl2, _, hfz, hcl⟩ := how.head boolC_length (by omega)
        cases hAg
        have hiz : i < zs.length := by omega
        have e1 := hcl i (.bool zs[i]) (by
          rw [boolC_flat, List.getElem?_map, List.getElem?_eq_getElem hiz]; rfl)
        have e2 := hfz i
        have hq0 : zs[i] = xs.getD i false := by have := hzj i; rw [if_neg (by omega), List.getD_eq_getElem?_getD, List.getElem?_eq_getElem hiz] at this; exact this
        have HQ0 := Lib.hid hq0
        have HQ1 := Lib.hid (show ys.getD i false = ys[i] by rw [List.getD_eq_getElem?_getD, List.getElem?_eq_getElem hil]; rfl)
        have HPT := Lib.hid (fun u : Bool => show Ow w.heap.size 4 1 boolC (wr.setCell ⟨g, i, none⟩ (.bool u)) (.slice (some ⟨g, 0, none⟩) xs.length cc2) (zs.set i u) from by
          have h1 := Ow.put how i (.bool u)
          rw [flat_setB zs i u] at h1
          show (wr.setCell ⟨g, i, none⟩ (.bool u)).ownsRow _ _ _ _ (zs.set i u).length _
          rw [List.length_set]
          exact h1)
        have HJ := Lib.hid (fun u : Bool => fun (hu : u = (xs.getD i false || ys.getD i false)) => show ∀ j, (zs.set i u).getD j false = if j < i + 1 then (xs.getD j false || ys.getD j false) else xs.getD j false from fun j => by
          rw [List.getD_eq_getElem?_getD, List.getElem?_set]
          by_cases hji : i = j
          · subst hji
            rw [if_pos rfl, if_pos (by omega), if_pos (by omega), ← hu]
            rfl
          · rw [if_neg hji, ← List.getD_eq_getElem?_getD, HZJ.out j]
            by_cases hj2 : j < i
            · rw [if_pos hj2, if_pos (by omega)]
            · rw [if_neg hj2, if_neg (by omega)])
        obtain ⟨q, hq⟩ : ∃ q, zs[i] = q := ⟨_, rfl⟩
        obtain ⟨q', hq'⟩ : ∃ q, ys[i] = q := ⟨_, rfl⟩
        rw [hq] at e1 HQ0
        rw [hq'] at e0 HQ1
        clear hq hq' how hon hzj hzl hcl hfz hq0 hiz
        cases q <;> cases q'
        all_goals
          go_wp2
          go_roundg (ys.length - (i + 1))
          case measure => omega
          case rel => exact ⟨i + 1, by omega, rfl, by go_num, ⟨_, by rw [List.length_set]; exact HZL.out, HJ.out _ (by rw [← HQ0.out, HQ1.out]; rfl), HPT.out _⟩, HON.out.set (p := ⟨g, i, none⟩) (.inl rfl) _⟩
      · have hiI : ¬ (i : Int) < (ys.length : Int) := by omega
        have HZE := Lib.hid (show zs = R by
          rw [HZ2.out]
          apply List.ext_getElem?
          intro j
          by_cases hj : j < xs.length
          · have := hzj j
            rw [if_pos (by have := HXY.out; omega), List.getD_eq_getElem?_getD, List.getElem?_eq_getElem (show j < zs.length by omega)] at this
            rw [List.getElem?_eq_getElem (show j < zs.length by omega), List.getElem?_map, List.getElem?_range hj]
            exact congrArg some this
          · rw [List.getElem?_eq_none (by omega), List.getElem?_eq_none (by simp; omega)])
        clear hzl hzj how hon
        go_wp2
        go_ret
        exact ⟨_, rfl, by rw [← HZE.out]; exact HO.out, Only.from_ HB3.out rfl HON.out fun k hk => by have hk : k = g := hk; omega⟩
  have hk6' : (p.kind == 6) = false := by simpa using hk6
  by_cases hk8e : p.kind = 8
  · have hz := HZ.out
    rw [if_neg hk2, if_neg hk3, if_neg hk4, if_neg hk5, if_neg hk6, if_pos hk8e] at hz
    obtain ⟨hcl, hcb⟩ := NT.out.gr hk8e
    rw [HXS.out] at hcb
    obtain ⟨L, hL⟩ : ∃ l, (p.cols.map fun c => xs.getD c.toNat false) = l := ⟨_, rfl⟩
    rw [hL] at hz
    have HZ2 := Lib.hid hz
    have HL := Lib.hid hL
    have HLl := Lib.hid (show L.length = p.cols.length by rw [← hL]; simp)
    have HCB := Lib.hid hcb
    rw [hk8e] at c0
    obtain ⟨Ac, hAc⟩ : ∃ a, f.cs.A = a := ⟨_, rfl⟩
    rw [hAc] at c3 HCX
    clear hz hL hcb hAc hk1' hk8 hk2 hk2' hk3 hk3' hk4 hk4' hk5 hk5' hk6 hk6' hk8e
    go_wp2
    go_loopg [11, 138] p.cols.length (fun g v iv wr => ∃ i : Nat, i ≤ p.cols.length ∧ g = p.cols.length - i ∧ iv = .int .i64 i ∧ Ow w2.heap.size 4 1 boolC wr v (L.take i) ∧ Below w2.heap.size w2 wr)
    case atStart => exact ⟨0, by omega, by omega, rfl, Ow.nil, Below.refl _ _⟩
    case round =>
      obtain ⟨i, hi, rfl, rfl, how, hb⟩ := hrel
      have HO := Lib.hid how
      have HBR := Lib.hid hb
      have HBW := Lib.hid (bch HB2.out hb)
      clear how hb c0 c1 c2 c3 c4
      by_cases hil : i < p.cols.length
      · have hiI : (i : Int) < (p.cols.length : Int) := by omega
        have hcb := HCB.out _ (List.getElem_mem hil)
        obtain ⟨bc, oc, rfl, hBc, e1⟩ := Ints.at_ (HCX.out _ HBW.out) hil
        obtain ⟨j, hj⟩ := Int.eq_ofNat_of_zero_le hcb.1
        have hjl : j < xs.length := by omega
        have hjI : (j : Int) < (xs.length : Int) := by omega
        obtain ⟨b0, o0', rfl, hB0, e0⟩ := Sl.at1 (f := fun x : Bool => Value.bool x) (HSX.out.on HBR.out) hjl
        have Hy := Lib.hid (show L.take (i + 1) = L.take i ++ [xs[j]] by
          rw [← HL.out, map_take hil, hj, Int.toNat_natCast, List.getD_eq_getElem?_getD, List.getElem?_eq_getElem hjl]; rfl)
        have htl : (L.take i).length ≤ 6 := by rw [List.length_take, HLl.out]; omega
        rw [hj] at e1
        obtain ⟨q, hq⟩ : ∃ q, xs[j] = q := ⟨_, rfl⟩
        rw [hq] at e0 Hy
        clear hq hj hcb
        obtain ⟨U, hU⟩ : ∃ z, wr.alloc (.cells #[.bool q] 4) = z := ⟨_, rfl⟩
        have hub : Below wr.heap.size wr U := by rw [← hU]; exact balloc (Below.refl _ _) _
        have HO5 := Lib.hid (HO.out.on hub)
        have HB5 := Lib.hid (bch HBR.out hub)
        have HS5 := Lib.hid (show Sl 1 boolC U U.heap.size (some ⟨wr.heap.size, 0, none⟩) [q] by rw [← hU]; exact Row.sl' (t := 4) boolC_length ((Row.new wr _ _).of rfl))
        have hsz5 : w2.heap.size ≤ U.heap.size := HB5.out.size
        have HU := Lib.hid hU
        clear hU hub
        go_wp2_with (at_builtin; rw [HU.out]; refine wpList_app2 rfl (.tmp 142) (.tmp 147) 31 rfl w2.heap.size 4 _ 1 1 boolC Try.underlying31 zeroBoolN rfl (by decide) (by decide) boolC_length boolC_one _ (L.take i) rfl HO5.out (some ⟨wr.heap.size, 0, none⟩) 1 1 ([q]) rfl rfl HS5.out (by simp only [List.length_singleton]; omega) hsz5 ?_; intro v' w' hown hgr hob)
        go_roundg (p.cols.length - (i + 1))
        case measure => omega
        case rel => exact ⟨i + 1, by omega, rfl, by go_num, by rw [Hy.out]; exact hown, HB5.out.grown hgr hsz5 fun k hk => (HO5.out.ty k hk).1⟩
      · have hiI : ¬ (i : Int) < (p.cols.length : Int) := by omega
        have hte : L.take i = L := List.take_of_length_le (by rw [HLl.out]; omega)
        rw [hte] at HO
        have hLl6 : L.length ≤ 6 := by rw [HLl.out]; exact hcl
        obtain ⟨U, hU⟩ : ∃ z, wr.alloc (.cells #[.bool false] 4) = z := ⟨_, rfl⟩
        have hub : Below wr.heap.size wr U := by rw [← hU]; exact balloc (Below.refl _ _) _
        have HO5 := Lib.hid (HO.out.on hub)
        have HB5 := Lib.hid (bch HBR.out hub)
        have HS5 := Lib.hid (show Sl 1 boolC U U.heap.size (some ⟨wr.heap.size, 0, none⟩) [false] by rw [← hU]; exact Row.sl' (t := 4) boolC_length ((Row.new wr _ _).of rfl))
        have hsz5 : w2.heap.size ≤ U.heap.size := HB5.out.size
        have HU := Lib.hid hU
        clear hU hub hte
        go_wp2_with (at_builtin; rw [HU.out]; refine wpList_app2 rfl (.tmp 150) (.tmp 151) 31 rfl w2.heap.size 4 _ 1 1 boolC Try.underlying31 zeroBoolN rfl (by decide) (by decide) boolC_length boolC_one _ (L) rfl HO5.out (some ⟨wr.heap.size, 0, none⟩) 1 1 ([false]) rfl rfl HS5.out (by simp only [List.length_singleton]; omega) hsz5 ?_; intro v' w' hown hgr hob)
        go_ret
        exact ⟨_, rfl, by rw [HZ2.out]; exact hown.low hsz2, bch HB2.out (HB5.out.grown hgr hsz5 fun k hk => (HO5.out.ty k hk).1)⟩
  have hk8' : (p.kind == 8) = false := by simpa using hk8e
  have HZ2 := Lib.hid (show R = xs by rw [HZ.out, if_neg hk2, if_neg hk3, if_neg hk4, if_neg hk5, if_neg hk6, if_neg hk8e])
  clear hk2 hk3 hk4 hk5 hk6 hk8e hk8
  go_wp2
  go_ret
  exact ⟨_, rfl, by rw [HZ2.out]; exact HOX.out, HB2.out⟩
end Go.Proofs.Ytcbfbgngkdiijaa
