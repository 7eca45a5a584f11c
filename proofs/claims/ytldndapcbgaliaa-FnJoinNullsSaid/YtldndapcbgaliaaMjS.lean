/-
  Contract of MergeJoin: the reference's; and of the reference's concat.
-/
import Derived.Test.YtldndapcbgaliaaProg
import Derived.Test.YtldndapcbgaliaaPln
import Derived.Test.YtldndapcbgaliaaIdxS
import Derived.Test.YtldndapcbgaliaaSmjS
import Derived.Test.YtldndapcbgaliaaBag
import Derived.Deep.RegionHeld3
namespace Go.Proofs.Ytldndapcbgaliaa
open Go.RowKit Go.Qo
set_option linter.unusedVariables false
set_option linter.unusedSimpArgs false

theorem cellAt {W : Int} {rows : List Row1} {A : Option Addr} {cn i : Nat} {z : World} (h : Rws z z.heap.size A rows) (hr : ∀ r ∈ rows, RowOk W r) (hc : (cn : Int) < W) (hi : i < rows.length) :
    ∃ b o b2 o2 C, A = some ⟨b, o, none⟩ ∧ b < z.heap.size ∧ z.cell? ⟨b, o + i, none⟩ = some (.slice (some ⟨b2, o2, none⟩) (rwAt rows (i : Int)).length C) ∧ b2 < z.heap.size ∧ z.cell? ⟨b2, o2 + cn * 2, none⟩ = some (.bool (nul rows cn i)) ∧
      z.cell? ⟨b2, o2 + cn * 2 + 1, none⟩ = some (.int .i64 (nAt rows cn (i : Int))) ∧ (cn : Int) < ((rwAt rows (i : Int)).length : Int) ∧ (rwAt rows (i : Int)).length ≤ 6 ∧ C ≤ maxLen ∧ Sl 2 valC z z.heap.size (some ⟨b2, o2, none⟩) (rwAt rows (i : Int)) := by
  have hx := List.getElem?_eq_getElem hi
  have hxo := hr _ (List.getElem_mem hi)
  obtain ⟨b, o, A3, C3, hA, hB, c3, _, hm, s3⟩ := h.at_ hi
  rw [rwAt_nat hi]
  have hx6 := (rowValid_len hxo.1).2
  have hcx : cn < rows[i].length := by have := hxo.2; omega
  obtain ⟨b4, o4, hA4, hB4, d0, d1⟩ := Val.at_ s3 hcx
  subst hA4
  rw [nul_eq hx (List.getElem?_eq_getElem hcx), nAt_eq hx (List.getElem?_eq_getElem hcx)]
  exact ⟨b, o, b4, o4, C3, hA, hB, c3, hB4, d0, d1, by omega, hx6, hm, s3⟩

set_option maxHeartbeats 1000000 in
theorem specConcat_ok (A A' : Option Addr) (c c' : Nat) (xs ys : List Val) (w : World) (hn : xs.length ≤ 1048576) (hn' : ys.length ≤ 1048576) (h : Sl 2 valC w w.heap.size A xs) (h' : Sl 2 valC w w.heap.size A' ys) :
    Calls Try.prog 81 #[.slice A xs.length c, .slice A' ys.length c'] w (OneRow (xs ++ ys) w) := by
  have HC := Lib.hid (copyRow_ok A c xs w hn h)
  have H' := Lib.hid h'
  clear h h'
  go_enter Try.func81, Try.ntmps81
  go_wp2_with fail
  refine HC.out.mono ?_
  rintro e w1 ⟨v1, rfl, how1, hb1⟩
  obtain ⟨A1, c1, rfl, _, _, _⟩ := how1.shape valC_length
  have HO := Lib.hid (And.intro how1 hb1)
  have S1 := Lib.hid (H'.out.on hb1)
  have hz := hb1.size
  clear how1 hb1
  go_wp2_with (at_builtin; refine wpList_app rfl (.tmp 6) (.tmp 7) 41 rfl w.heap.size 40 _ 2 16 valC Try.underlying41 zeroVal rfl (by decide) (by decide) valC_length valC_one _ xs rfl HO.out.1 A' ys.length c' ys rfl rfl S1.out (by omega) hz ?_; intro v2 w2 how2 hgr2)
  go_ret
  exact ⟨_, rfl, how2, HO.out.2.grown hgr2 hz fun b hb => (HO.out.1.ty b hb).1⟩

theorem resSpecMj {b : Nat} {v0 v1 : Value} {r : Bool} (tmps : Array Value) (hp : tmps.getD 8 undef = .pointer (some ⟨b, 0, none⟩)) (hr : tmps.getD 9 undef = .bool r) (w : World) (c0 : w.cell? ⟨b, 0, none⟩ = some v0) (c1 : w.cell? ⟨b, 1, none⟩ = some v1) :
    (results Try.f27 tmps).run Try.prog w = .ok (.tuple #[.agg #[v0, v1], .bool r]) w := by
  simp only [Array.getD_eq_getD_getElem?] at hp hr
  simp [results, Try.results27, go_sem, hp, hr, c0, c1]

set_option maxRecDepth 20000 in
set_option maxHeartbeats 8000000 in
theorem specMergeJoin_ok (W W' : Int) (A A' : Option Addr) (c c' : Nat) (xs ys : List Row1) (ca cb : Int) (w : World) (hn : xs.length ≤ 1048576) (hn' : ys.length ≤ 1048576) (h : Rws w w.heap.size A xs) (h' : Rws w w.heap.size A' ys)
    (q : Bool) (hq : q = true ↔ (((TabOk W xs ∧ 0 ≤ ca ∧ ca < W) ∧ (TabOk W' ys ∧ 0 ≤ cb ∧ cb < W')) ∧ W + W' ≤ 6)) :
    Calls Try.prog 27 #[.agg #[.int .i64 W, .slice A xs.length c], .agg #[.int .i64 W', .slice A' ys.length c'], .int .i64 ca, .int .i64 cb] w (SpecTab q (W + W') (mjAll xs ys ca.toNat cb.toNat) w) := by
  have Hq := Lib.hid hq
  obtain ⟨W0, hW0⟩ : ∃ z, ((w.alloc (.cells #[.int .i64 W, .slice A xs.length c] 25)).alloc (.cells #[.int .i64 W', .slice A' ys.length c'] 25)).alloc (.cells #[.int .i64 0, .slice none 0 0] 25) = z := ⟨_, rfl⟩
  have B0 : Below w.heap.size w W0 := by rw [← hW0]; exact balloc (balloc (balloc (Below.refl _ _) _) _) _
  have r0 : Row W0 w.heap.size 25 [.int .i64 W, .slice A xs.length c] := by rw [← hW0]; exact ((Row.new _ _ _).alloc _).alloc _
  have r1 : Row W0 (w.heap.size + 1) 25 [.int .i64 W', .slice A' ys.length c'] := by rw [← hW0]; exact (Row.second _ _ _ _).alloc _
  have r2 : Row W0 (w.heap.size + 2) 25 [.int .i64 0, .slice none 0 0] := by rw [← hW0]; exact Row.third _ _ _ _ _
  obtain ⟨t, ht⟩ : ∃ t : Bool, t = true ↔ ((TabOk W xs ∧ 0 ≤ ca ∧ ca < W) ∧ (TabOk W' ys ∧ 0 ≤ cb ∧ cb < W')) := ⟨_, @decide_eq_true_iff _ (Classical.propDecidable _)⟩
  have H1 := Lib.hid (specValidJoin_ok W W' A A' c c' xs ys ca cb W0 hn hn' (h.on B0) (h'.on B0) t ht)
  have Ht := Lib.hid ht
  have HH := Lib.hid (And.intro h h')
  have HW := Lib.hid hW0
  have HB0 := Lib.hid B0
  have HR0 := Lib.hid (And.intro r0 (And.intro r1 r2))
  have a0 : W0.cell? ⟨w.heap.size, 0, none⟩ = some (.int .i64 W) := r0.cell 0
  have a1 : W0.cell? ⟨w.heap.size, 1, none⟩ = some (.slice A xs.length c) := r0.cell 1
  have b0 : W0.cell? ⟨w.heap.size + 1, 0, none⟩ = some (.int .i64 W') := r1.cell 0
  have b1 : W0.cell? ⟨w.heap.size + 1, 1, none⟩ = some (.slice A' ys.length c') := r1.cell 1
  have NO := Lib.hid (fun (w2 : World) (H2 : Below w.heap.size w w2) => show SpecTab false (W + W') (mjAll xs ys ca.toNat cb.toNat) w (.returned (.tuple #[.agg #[.int .i64 0, .slice none 0 0], .bool false])) ((w2.setCell ⟨w.heap.size + 2, 0, none⟩ (.int .i64 0)).setCell ⟨w.heap.size + 2, 1, none⟩ (.slice none 0 0)) from
    SpecTab.no ((H2.setCell (p := ⟨w.heap.size + 2, 0, none⟩) (by simp) _).setCell (p := ⟨w.heap.size + 2, 1, none⟩) (by simp) _))
  clear hq ht h h' B0 r0 r1 r2 hW0
  cases t
  · have hf : q = false := bfalse Hq.out fun ht => by have := Ht.out.2 ht.1; cases this
    subst hf
    go_enter Try.func27, Try.ntmps27
    go_upto_region 1 with fail
    rw [HW.out]
    go_wp2_with fail
    refine H1.out.mono ?_
    rintro e w1 ⟨rfl, hb1⟩
    have r2 := HR0.out.2.2.on hb1
    have e0 : w1.cell? ⟨w.heap.size + 2, 0, none⟩ = some (.int .i64 0) := r2.cell 0
    have e1 : w1.cell? ⟨w.heap.size + 2, 1, none⟩ = some (.slice none 0 0) := r2.cell 1
    have f0 := r2.frozen 0
    have f1 := r2.frozen 1
    have l2 := r2.lt
    have H1' := Lib.hid (bch HB0.out hb1)
    clear hb1 r2 a0 a1 b0 b1
    go_wp2
    refine bodyPost_ret (resSpecMj (b := w.heap.size + 2) (r := false) _ rfl rfl _ (v0 := .int .i64 0) (v1 := .slice none 0 0) (by simp [go_sem, e0, e1, l2]) (by simp [go_sem, e0, e1, l2])) rfl ?_
    exact NO.out _ H1'.out
  · obtain ⟨⟨hT1, hca0, hca1⟩, ⟨hT2, hcb0, hcb1⟩⟩ := Ht.out.1 rfl
    have hW1 := hT1.1
    have hW6 : W ≤ 6 := hT1.2.1
    have hW1' := hT2.1
    have hW6' : W' ≤ 6 := hT2.2.1
    by_cases h6 : W + W' ≤ 6
    · have hf : q = true := Hq.out.2 ⟨Ht.out.1 rfl, h6⟩
      subst hf
      obtain ⟨ci, rfl⟩ := Int.eq_ofNat_of_zero_le hca0
      obtain ⟨cj, rfl⟩ := Int.eq_ofNat_of_zero_le hcb0
      rw [Int.toNat_natCast, Int.toNat_natCast] at *
      have h6' : ¬ (6 < W + W') := by omega
      have hx4 : xs.length ≤ 400 := hT1.2.2.1
      have hy4 : ys.length ≤ 400 := hT2.2.2.1
      have HRx := Lib.hid (tabRows1 hT1)
      have HRy := Lib.hid (tabRows1 hT2)
      have K1 := Lib.hid (fun (z : World) (hz : Below w.heap.size w z) => specIndexOf_ok W ci A c xs z hn (HH.out.1.on hz) true (by simp only [true_iff]; exact ⟨hT1, hca0, hca1⟩))
      have K2 := Lib.hid (fun (z : World) (hz : Below w.heap.size w z) => specIndexOf_ok W' cj A' c' ys z hn' (HH.out.2.on hz) true (by simp only [true_iff]; exact ⟨hT2, hcb0, hcb1⟩))
      simp only [if_true, Int.toNat_natCast] at K1 K2
      obtain ⟨x, hx⟩ : ∃ x, idxOf xs ci = x := ⟨_, rfl⟩
      obtain ⟨y, hy⟩ : ∃ y, idxOf ys cj = y := ⟨_, rfl⟩
      have hxl : x.length ≤ 400 := by rw [← hx]; have := idxOf_len (rows := xs) (cn := ci); omega
      have hyl : y.length ≤ 400 := by rw [← hy]; have := idxOf_len (rows := ys) (cn := cj); omega
      have HXi := Lib.hid (show ∀ i ∈ x, InR xs.length i by rw [← hx]; exact idxOf_in)
      have HYi := Lib.hid (show ∀ i ∈ y, InR ys.length i by rw [← hy]; exact idxOf_in)
      obtain ⟨G, hG⟩ : ∃ G, mjAll xs ys ci cj = G := ⟨_, rfl⟩
      have HGl := Lib.hid (show G.length ≤ 160000 by rw [← hG]; exact mjAll_len hx4 hy4)
      have HGr := Lib.hid (show ∀ r ∈ G, RowOk (W + W') r by rw [← hG]; exact mjAll_ok HRx.out HRy.out h6)
      have HG := Lib.hid (show G = mjRows xs ys ci cj x y by rw [← hG, ← hx, ← hy]; rfl)
      rw [hG]
      rw [hx] at K1
      rw [hy] at K2
      clear hT1 hT2 hx hy hG
      go_enter Try.func27, Try.ntmps27
      go_upto_region 1 with fail
      rw [HW.out]
      go_wp2_with fail
      refine H1.out.mono ?_
      rintro e w2 ⟨rfl, hb2⟩
      have H2 := Lib.hid (bch HB0.out hb2)
      have R2 := Lib.hid (And.intro (HR0.out.1.on hb2) (And.intro (HR0.out.2.1.on hb2) (HR0.out.2.2.on hb2)))
      clear hb2 a0 a1 b0 b1
      have a0 : w2.cell? ⟨w.heap.size, 0, none⟩ = some (.int .i64 W) := R2.out.1.cell 0
      have a1 : w2.cell? ⟨w.heap.size, 1, none⟩ = some (.slice A xs.length c) := R2.out.1.cell 1
      have b0 : w2.cell? ⟨w.heap.size + 1, 0, none⟩ = some (.int .i64 W') := R2.out.2.1.cell 0
      go_wp2_with fail
      refine (K1.out _ H2.out).mono ?_
      rintro e w3 ⟨v3, rfl, how3, hb3⟩
      obtain ⟨AX, cx, rfl, _, _, _⟩ := how3.shape intC_length
      have H3 := Lib.hid (bch H2.out hb3)
      have R3 := Lib.hid (And.intro (R2.out.1.on hb3) (And.intro (R2.out.2.1.on hb3) (R2.out.2.2.on hb3)))
      have SX3 := Lib.hid (owI_sl how3)
      clear hb3 how3 a0 a1 b0
      have b0 : w3.cell? ⟨w.heap.size + 1, 0, none⟩ = some (.int .i64 W') := R3.out.2.1.cell 0
      have b1 : w3.cell? ⟨w.heap.size + 1, 1, none⟩ = some (.slice A' ys.length c') := R3.out.2.1.cell 1
      go_wp2_with fail
      refine (K2.out _ H3.out).mono ?_
      rintro e wb ⟨v4, rfl, how4, hb4⟩
      obtain ⟨AY, cy, rfl, _, _, _⟩ := how4.shape intC_length
      have HB := Lib.hid (bch H3.out hb4)
      have RB := Lib.hid (And.intro (R3.out.1.on hb4) (And.intro (R3.out.2.1.on hb4) (R3.out.2.2.on hb4)))
      have SX := Lib.hid (SX3.out.on hb4)
      have SY := Lib.hid (owI_sl how4)
      have hwb : w.heap.size + 2 < wb.heap.size := RB.out.2.2.lt
      clear hb4 how4 b0 b1 SX3 R3 R2 H2 H3 K1 K2 H1 HR0
      go_wp2
      go_loopg [12, 13, 14] x.length (fun g v12 v13 v14 wr => ∃ (n f : Nat) (dn : List Row1) (svs : List SV), n ≤ x.length ∧ f ≤ y.length ∧ g = x.length - n ∧ v13 = .int .i64 f ∧ v14 = .int .i64 n ∧ Below wb.heap.size wb wr ∧ Ow wb.heap.size 41 1 svC wr v12 svs ∧ RowsT 40 2 valC 0 wr svs dn ∧ G = dn ++ mjRows xs ys ci cj (x.drop n) (y.drop f))
      case atStart => exact ⟨0, 0, [], [], by omega, by omega, by omega, rfl, rfl, balloc (Below.refl _ _) _, Ow.lit (xs := ([] : List SV)) rfl rfl (Nat.le_refl _) (by decide), RowsT.nil, HG.out⟩
      case round =>
        obtain ⟨n, f, dn, svs, hnx, hfy, rfl, rfl, rfl, hb, how, hrt, hg⟩ := hrel
        have HQ := Lib.hid (And.intro hb (And.intro how (And.intro hrt hg)))
        have hsz := hb.size
        obtain ⟨A5, c5, rfl, _, _, _⟩ := how.shape svC_length
        have a1 : wr.cell? ⟨w.heap.size, 1, none⟩ = some (.slice A xs.length c) := (RB.out.1.on hb).cell 1
        clear how hrt hg
        by_cases hlt : n < x.length
        · have hxe := Lib.hid (List.getElem?_eq_getElem hlt)
          have hxi := HXi.out _ (List.getElem_mem hlt)
          obtain ⟨gx, ox, hAX, hBx, hcx⟩ := SX.out.at_ hlt
          have e1b : wb.cell? ⟨gx, ox + n, none⟩ = some (.int .i64 x[n]) := by have := hcx 0 _ rfl; simpa using this
          generalize x[n] = ii at *
          obtain ⟨i, rfl⟩ := Int.eq_ofNat_of_zero_le hxi.1
          have hi1 : i < xs.length := by have := hxi.2; omega
          obtain ⟨b3, o3, b4, o4, C4, hA, hB3, c3b, hB4, d0, d1b, hcl, hL6, hCm, s4⟩ := cellAt (HH.out.1.on HB.out) HRx.out hca1 hi1
          subst hAX
          subst hA
          obtain ⟨L, hL⟩ : ∃ L, (rwAt xs (i : Int)).length = L := ⟨_, rfl⟩
          obtain ⟨N, hN⟩ : ∃ N, nAt xs ci (i : Int) = N := ⟨_, rfl⟩
          rw [hL] at c3b hcl hL6
          rw [hN] at d1b
          have e1 := (hb.cell (p := ⟨gx, _, none⟩) hBx).trans e1b
          have c3 := (hb.cell (p := ⟨b3, _, none⟩) hB3).trans c3b
          have d1 := (hb.cell (p := ⟨b4, _, none⟩) hB4).trans d1b
          have HL := Lib.hid (And.intro hL hN)
          have hlt5 : (n : Int) < (x.length : Int) := by omega
          have hi5 : (i : Int) < (xs.length : Int) := by omega
          have hci6 : ci ≤ 6 := by omega
          have p1 := fun z : Aft wr.heap.size wr => z.cell (by omega) a1
          have p2 := fun z : Aft wr.heap.size wr => z.cell (by omega) e1
          have p3 := fun z : Aft wr.heap.size wr => z.cell (by omega) c3
          have p4 := fun z : Aft wr.heap.size wr => z.cell (by omega) d1
          have HEL := Lib.hid (And.intro e1b (And.intro c3b (And.intro s4 hCm)))
          have hi400 : i ≤ 400 := by omega
          clear hxi hcx hb e1 c3 d0 d1 s4 hL hN a1 e1b c3b d1b hCm
          go_wp2
          refine wp_region_aft wr.heap.size (by kernel_rfl) (by kernel_rfl) ?_
          repeat (go_big_quiet_step (fail))
          refine wpQuiet_nil ?_
          intro w1 hw'
          obtain ⟨⟨_, hb1⟩, rfl⟩ := hw'
          have HB1 := Lib.hid hb1
          clear p1 p2 p3 p4 hb1
          go_wp2
          obtain ⟨wo, hwo⟩ : ∃ wo : World, wo = w1 := ⟨_, rfl⟩
          subst hwo
          go_loopg [13] (y.length - f) (fun g v13 wq => ∃ f2 : Nat, f2 ≤ y.length ∧ g = y.length - f2 ∧ v13 = .int .i64 f2 ∧ Below wo.heap.size wo wq ∧ (y.drop f).dropWhile (ltB xs ys ci cj (i : Int)) = (y.drop f2).dropWhile (ltB xs ys ci cj (i : Int)))
          case atStart => exact ⟨f, hfy, rfl, rfl, Below.refl _ _, rfl⟩
          case round =>
            obtain ⟨f2, hf2, rfl, rfl, hb2, hd⟩ := hrel
            have HD := Lib.hid (And.intro hb2 hd)
            have hba := bch HB.out (bch (bch HQ.out.1 HB1.out) hb2)
            have b1 : wr.cell? ⟨w.heap.size + 1, 1, none⟩ = some (.slice A' ys.length c') := (RB.out.2.1.on (bch (bch HQ.out.1 HB1.out) hb2)).cell 1
            have hz2 : wb.heap.size ≤ wr.heap.size := (bch (bch HQ.out.1 HB1.out) hb2).size
            clear hd
            by_cases hlt2 : f2 < y.length
            · have hye := Lib.hid (List.getElem?_eq_getElem hlt2)
              have hyi := HYi.out _ (List.getElem_mem hlt2)
              obtain ⟨gy, oy, hAY, hBy, hcy⟩ := SY.out.at_ hlt2
              have e1b : wb.cell? ⟨gy, oy + f2, none⟩ = some (.int .i64 y[f2]) := by have := hcy 0 _ rfl; simpa using this
              generalize y[f2] = jj at *
              obtain ⟨j, rfl⟩ := Int.eq_ofNat_of_zero_le hyi.1
              have hj1 : j < ys.length := by have := hyi.2; omega
              obtain ⟨b6, o6, b7, o7, C7, hA', hB6, c6b, hB7, d70, d71b, hcl7, hL7, hCm7, s7⟩ := cellAt (HH.out.2.on HB.out) HRy.out hcb1 hj1
              subst hAY
              subst hA'
              obtain ⟨L7, hL7e⟩ : ∃ L, (rwAt ys (j : Int)).length = L := ⟨_, rfl⟩
              obtain ⟨M, hM⟩ : ∃ N, nAt ys cj (j : Int) = N := ⟨_, rfl⟩
              rw [hL7e] at c6b hcl7 hL7
              rw [hM] at d71b
              have hbb := bch (bch HQ.out.1 HB1.out) hb2
              have e1 := (hbb.cell (p := ⟨gy, _, none⟩) hBy).trans e1b
              have c6 := (hbb.cell (p := ⟨b6, _, none⟩) hB6).trans c6b
              have d71 := (hbb.cell (p := ⟨b7, _, none⟩) hB7).trans d71b
              have HM := Lib.hid hM
              have hf5 : (f2 : Int) < (y.length : Int) := by omega
              have hj5 : (j : Int) < (ys.length : Int) := by omega
              have hcj6 : cj ≤ 6 := by omega
              have hj400 : j ≤ 400 := by omega
              have p1 := fun z : Aft wr.heap.size wr => z.cell (by omega) b1
              have p2 := fun z : Aft wr.heap.size wr => z.cell (by omega) e1
              have p3 := fun z : Aft wr.heap.size wr => z.cell (by omega) c6
              have p4 := fun z : Aft wr.heap.size wr => z.cell (by omega) d71
              clear hyi hcy hb2 e1 c6 d70 d71 s7 hL7e hM b1 hba hbb e1b c6b d71b hCm7
              by_cases hlm : M < N
              · go_wp2
                refine wp_region_aft wr.heap.size (by kernel_rfl) (by kernel_rfl) ?_
                repeat (go_big_quiet_step (fail))
                refine wpQuiet_nil ?_
                intro w3 hw'
                obtain ⟨⟨_, hb3⟩, rfl⟩ := hw'
                have HB3 := Lib.hid hb3
                clear p1 p2 p3 p4 hb3
                go_wp2
                go_roundg (y.length - (f2 + 1))
                case measure => omega
                case rel => exact ⟨f2 + 1, by omega, rfl, by go_num, bch HD.out.1 HB3.out, HD.out.2.trans (dropW_step hye.out (by unfold ltB; rw [HM.out, HL.out.2]; exact decide_eq_true hlm))⟩
              · go_wp2
                refine wp_region_aft wr.heap.size (by kernel_rfl) (by kernel_rfl) ?_
                repeat (go_big_quiet_step (fail))
                refine wpQuiet_nil ?_
                intro w3 hw'
                obtain ⟨⟨_, hb3⟩, rfl⟩ := hw'
                have HB3 := Lib.hid (bch HD.out.1 hb3)
                have HE := Lib.hid (HD.out.2.trans (dropW_stop hye.out (by unfold ltB; rw [HM.out, HL.out.2]; exact decide_eq_false (by omega))))
                clear p1 p2 p3 p4 hb3
                go_wp2
                obtain ⟨wi, hwi⟩ : ∃ wi : World, wi = w3 := ⟨_, rfl⟩
                subst hwi
                have HWI := Lib.hid (show Below wo.heap.size wo wi from HB3.out)
                have HOI := Lib.hid (And.intro ((HQ.out.2.1.on HB1.out).on HWI.out) ((HQ.out.2.2.1.on HB1.out).on HWI.out))
                have hG2 : G = dn ++ (mjOne xs ys ci cj (i : Int) (y.drop f2) ++ mjRows xs ys ci cj (x.drop (n + 1)) (y.drop f2)) := by rw [HQ.out.2.2.2, mjRows_cons hxe.out HE.out]
                have HG2 := Lib.hid hG2
                have HBI := Lib.hid (show Below wb.heap.size wb wi from bch (bch HQ.out.1 HB1.out) HWI.out)
                clear hG2
                go_loopg [12, 16] (y.length - f2) (fun g v12 v16 wq => ∃ (k : Nat) (dk : List Row1) (svk : List SV), k ≤ y.length ∧ g = y.length - k ∧ v16 = .int .i64 k ∧ Below wb.heap.size wb wq ∧ Ow wb.heap.size 41 1 svC wq v12 svk ∧ RowsT 40 2 valC 0 wq svk dk ∧ G = dk ++ (mjOne xs ys ci cj (i : Int) (y.drop k) ++ mjRows xs ys ci cj (x.drop (n + 1)) (y.drop f2)))
                case atStart => exact ⟨f2, dn, svs, hf2, rfl, rfl, HBI.out, HOI.out.1, HOI.out.2, HG2.out⟩
                case round =>
                  obtain ⟨k, dk, svk, hky, rfl, rfl, hbk, howk, hrtk, hgk⟩ := hrel
                  have HK := Lib.hid (And.intro hbk (And.intro howk (And.intro hrtk hgk)))
                  have hba := bch HB.out hbk
                  have hz2 : wb.heap.size ≤ wr.heap.size := hbk.size
                  obtain ⟨AK, ck, rfl, _, _, _⟩ := howk.shape svC_length
                  have a1 : wr.cell? ⟨w.heap.size, 1, none⟩ = some (.slice (some ⟨b3, o3, none⟩) xs.length c) := (RB.out.1.on hbk).cell 1
                  have b1 : wr.cell? ⟨w.heap.size + 1, 1, none⟩ = some (.slice (some ⟨b6, o6, none⟩) ys.length c') := (RB.out.2.1.on hbk).cell 1
                  clear howk hrtk hgk
                  by_cases hlt3 : k < y.length
                  · have hyk := Lib.hid (List.getElem?_eq_getElem hlt3)
                    have hyi := HYi.out _ (List.getElem_mem hlt3)
                    obtain ⟨gz, oz, hAZ, hBz, hcz⟩ := SY.out.at_ hlt3
                    have e1b : wb.cell? ⟨gz, oz + k, none⟩ = some (.int .i64 y[k]) := by have := hcz 0 _ rfl; simpa using this
                    generalize y[k] = jj at *
                    obtain ⟨j3, rfl⟩ := Int.eq_ofNat_of_zero_le hyi.1
                    have hj1 : j3 < ys.length := by have := hyi.2; omega
                    obtain ⟨b8, o8, b9, o9, C9, hA8, hB8, c8b, hB9, d90, d91b, hcl9, hL9, hCm9, s9⟩ := cellAt (HH.out.2.on HB.out) HRy.out hcb1 hj1
                    cases hAZ
                    cases hA8
                    obtain ⟨L9, hL9e⟩ : ∃ L, (rwAt ys (j3 : Int)).length = L := ⟨_, rfl⟩
                    obtain ⟨M3, hM3⟩ : ∃ N, nAt ys cj (j3 : Int) = N := ⟨_, rfl⟩
                    rw [hL9e] at c8b hcl9 hL9
                    rw [hM3] at d91b
                    have e1 := (hbk.cell (p := ⟨gy, _, none⟩) hBz).trans e1b
                    have c8 := (hbk.cell (p := ⟨b6, _, none⟩) hB8).trans c8b
                    have d91 := (hbk.cell (p := ⟨b9, _, none⟩) hB9).trans d91b
                    have HM3 := Lib.hid hM3
                    have hk5 : (k : Int) < (y.length : Int) := by omega
                    have hj35 : (j3 : Int) < (ys.length : Int) := by omega
                    have hcj6 : cj ≤ 6 := by omega
                    have hj3400 : j3 ≤ 400 := by omega
                    have p1 := fun z : Aft wr.heap.size wr => z.cell (by omega) b1
                    have p2 := fun z : Aft wr.heap.size wr => z.cell (by omega) e1
                    have p3 := fun z : Aft wr.heap.size wr => z.cell (by omega) c8
                    have p4 := fun z : Aft wr.heap.size wr => z.cell (by omega) d91
                    have HZ := Lib.hid (And.intro e1b (And.intro c8b (And.intro s9 hL9e)))
                    clear hyi hcz e1 c8 d90 d91 s9 hL9e hM3 a1 b1 e1b c8b d91b hba hCm9
                    by_cases heq : M3 = N
                    · go_wp2
                      refine wp_region_aft wr.heap.size (by kernel_rfl) (by kernel_rfl) ?_
                      repeat (go_big_quiet_step (fail))
                      refine wpQuiet_nil ?_
                      intro w4 hw'
                      obtain ⟨⟨_, hb4⟩, rfl⟩ := hw'
                      have hxy : Below wb.heap.size wb w4 := bch hbk hb4
                      have HXY := Lib.hid hxy
                      have hz4 := hxy.size
                      have a1 : w4.cell? ⟨w.heap.size, 1, none⟩ = some (.slice (some ⟨b3, o3, none⟩) xs.length c) := (RB.out.1.on hxy).cell 1
                      have b1 : w4.cell? ⟨w.heap.size + 1, 1, none⟩ = some (.slice (some ⟨b6, o6, none⟩) ys.length c') := (RB.out.2.1.on hxy).cell 1
                      have e1 := (hxy.cell (p := ⟨gx, _, none⟩) hBx).trans HEL.out.1
                      have e2 := (hxy.cell (p := ⟨gy, _, none⟩) hBz).trans HZ.out.1
                      have c3 := (hxy.cell (p := ⟨b3, _, none⟩) hB3).trans HEL.out.2.1
                      have c8 := (hxy.cell (p := ⟨b6, _, none⟩) hB8).trans HZ.out.2.1
                      have g1 : gx < w4.heap.size := by omega
                      have g2 : gy < w4.heap.size := by omega
                      have g3 : b3 < w4.heap.size := by omega
                      have g4 : b6 < w4.heap.size := by omega
                      have HC := specConcat_ok (some ⟨b4, o4, none⟩) (some ⟨b9, o9, none⟩) C4 C9 (rwAt xs (i : Int)) (rwAt ys (j3 : Int)) w4.drew (by have := HL.out.1; omega) (by have := HZ.out.2.2.2; omega) (HEL.out.2.2.1.on hxy.drew) (HZ.out.2.2.1.on hxy.drew)
                      rw [HL.out.1, HZ.out.2.2.2] at HC
                      obtain ⟨R, hR⟩ : ∃ R, rwAt xs (i : Int) ++ rwAt ys (j3 : Int) = R := ⟨_, rfl⟩
                      rw [hR] at HC
                      have HC := Lib.hid HC
                      have HR := Lib.hid hR
                      have HO4 := Lib.hid (And.intro (HK.out.2.1.on hb4) (HK.out.2.2.1.on hb4))
                      have hsv9 : svk.length ≤ 160000 := by
                        have h1 := HK.out.2.2.1.1
                        have h2 := congrArg List.length HK.out.2.2.2
                        rw [List.length_append] at h2
                        have := HGl.out
                        omega
                      clear p1 p2 p3 p4 hb4 hxy hR
                      have KF := Lib.hid (fun (z : World) (hz : Below wb.heap.size wb z) => show (z.cell? ⟨w.heap.size, 1, none⟩ = some (.slice (some ⟨b3, o3, none⟩) xs.length c) ∧ z.cell? ⟨gx, ox + n, none⟩ = some (.int .i64 (i : Int)) ∧ z.cell? ⟨b3, o3 + i, none⟩ = some (.slice (some ⟨b4, o4, none⟩) L C4) ∧ z.cell? ⟨w.heap.size + 1, 1, none⟩ = some (.slice (some ⟨b6, o6, none⟩) ys.length c') ∧ z.cell? ⟨gy, oy + k, none⟩ = some (.int .i64 (j3 : Int)) ∧ z.cell? ⟨b6, o6 + j3, none⟩ = some (.slice (some ⟨b9, o9, none⟩) L9 C9))
                        from ⟨(RB.out.1.on hz).cell 1, (hz.cell (p := ⟨gx, _, none⟩) hBx).trans HEL.out.1, (hz.cell (p := ⟨b3, _, none⟩) hB3).trans HEL.out.2.1, (RB.out.2.1.on hz).cell 1, (hz.cell (p := ⟨gy, _, none⟩) hBz).trans HZ.out.1, (hz.cell (p := ⟨b6, _, none⟩) hB8).trans HZ.out.2.1⟩)
                      clear a1 b1 e1 e2 c3 c8
                      have HW4d := Lib.hid (show Below wb.heap.size wb w4.drew from HXY.out.drew)
                      have y4 := KF.out _ HW4d.out
                      go_wp2
                      go_region_held3 (fun z => z.cell? ⟨w.heap.size, 1, none⟩ = some (.slice (some ⟨b3, o3, none⟩) xs.length c) ∧ z.cell? ⟨gx, ox + n, none⟩ = some (.int .i64 (i : Int)) ∧ z.cell? ⟨b3, o3 + i, none⟩ = some (.slice (some ⟨b4, o4, none⟩) L C4) ∧ z.cell? ⟨w.heap.size + 1, 1, none⟩ = some (.slice (some ⟨b6, o6, none⟩) ys.length c') ∧ z.cell? ⟨gy, oy + k, none⟩ = some (.int .i64 (j3 : Int)) ∧ z.cell? ⟨b6, o6 + j3, none⟩ = some (.slice (some ⟨b9, o9, none⟩) L9 C9))
                        (first | assumption | exact KF.out _ (bch HXY.out HB5.out) | exact KF.out _ (balloc (bch HXY.out HB5.out) _) | exact KF.out _ HW6.out)
                        (first
                          | (go_at_call 81; refine HC.out.mono ?_; rintro e w5 ⟨v5, rfl, how5, hb5'⟩; have hb5 : Below w4.heap.size w4 w5 := (Below.refl _ w4).drew.trans hb5'; obtain ⟨A5', c5', rfl, hc51, hc52, hs5⟩ := how5.shape valC_length; have HB5 := Lib.hid hb5; have HO5 := Lib.hid ((HO4.out.1.on hb5).on (balloc (Below.refl _ _) (.cells #[.slice A5' R.length c5'] 41))); have HS5 := Lib.hid (Row.sl' (w := w5.alloc (.cells #[.slice A5' R.length c5'] 41)) (t := 41) (xs := [(⟨A5', R.length, c5'⟩ : SV)]) svC_length ((Row.new w5 _ _).of rfl)); have hz5 : w4.heap.size ≤ w5.heap.size := hb5.size; have hsz5 : wb.heap.size ≤ (w5.alloc (.cells #[.slice A5' R.length c5'] 41)).heap.size := (by simp; omega); have HX5 := Lib.hid (And.intro hs5 (And.intro hc51 hc52)); have y5 := KF.out _ (bch HXY.out HB5.out); clear hb5 hb5' how5 hs5 hc51 hc52)
                          | (refine step_app rfl (.tmp 102) (.tmp 120) 23 rfl wb.heap.size 41 _ 1 24 svC Try.underlying23 zeroRow rfl (by decide) (by decide) svC_length svC_one _ svk rfl HO5.out (some ⟨w5.heap.size, 0, none⟩) 1 1 [(⟨A5', R.length, c5'⟩ : SV)] rfl rfl HS5.out (by simp <;> omega) hsz5 ?_; intro v6 w6 how6 hgr6; have HW6 := Lib.hid (show Below wb.heap.size wb w6 from (balloc (bch HXY.out HB5.out) _).grown hgr6 hsz5 fun q hq => (HO5.out.ty q hq).1); have Hw6 := Lib.hid (And.intro how6 hgr6); have y6 := KF.out _ HW6.out; clear how6 hgr6))
                      all_goals (
                        go_wp2
                        go_roundg (y.length - (k + 1))
                        case measure => omega
                        case rel =>
                          obtain ⟨how6, hgr6⟩ := Hw6.out
                          have hS2 := balloc (Below.refl _ w5) (.cells #[.slice A5' R.length c5'] 41)
                          have hrow : ∀ q, Value.ownBlock _ = some q → wb.heap.size ≤ q ∧ TyAt _ q 41 := fun q hq => ⟨(HO5.out.ty q hq).1, (HO5.out.ty q hq).2.2⟩
                          have hT6 := ((HO4.out.2.on HB5.out).on hS2).grown hgr6 fun q hq => .inr ⟨_, by decide, (hrow q hq).2⟩
                          have hs6 := ((HX5.out.1.on hS2).grown hgr6 fun q hq => .inr ⟨_, by decide, (hrow q hq).2⟩).low (Nat.zero_le _)
                          refine ⟨k + 1, dk ++ [R], svk ++ [⟨A5', R.length, c5'⟩], by omega, rfl, by go_num, ?_, how6, hT6.snoc rfl HX5.out.2.1 HX5.out.2.2 hs6, ?_⟩
                          · exact (bch (bch HXY.out HB5.out) hS2).grown hgr6 hsz5 fun q hq => (hrow q hq).1
                          · rw [HK.out.2.2.2, mjOne_step hyk.out (by unfold eqB; rw [HM3.out, HL.out.2]; exact decide_eq_true (by omega))]
                            have e : catAt xs ys (i : Int) (j3 : Int) = R := HR.out
                            rw [e]
                            simp only [List.append_assoc, List.cons_append, List.nil_append])
                    · go_wp2
                      refine wp_region_aft wr.heap.size (by kernel_rfl) (by kernel_rfl) ?_
                      repeat (go_big_quiet_step (fail))
                      refine wpQuiet_nil ?_
                      intro w4 hw'
                      obtain ⟨⟨_, hb4⟩, rfl⟩ := hw'
                      have HB4 := Lib.hid (bch hbk hb4)
                      have HO4 := Lib.hid (And.intro (HK.out.2.1.on hb4) (HK.out.2.2.1.on hb4))
                      clear p1 p2 p3 p4 hb4
                      go_wp2
                      go_roundg (x.length - (n + 1))
                      case measure => omega
                      case rel => exact ⟨n + 1, f2, dk, svk, by omega, hf2, rfl, rfl, by go_num, HB4.out, HO4.out.1, HO4.out.2, by rw [HK.out.2.2.2, mjOne_stop hyk.out (by unfold eqB; rw [HM3.out, HL.out.2]; exact decide_eq_false (by omega)), List.nil_append]⟩
                  · have hk5 : ¬ ((k : Int) < (y.length : Int)) := by omega
                    go_wp2
                    refine wp_region_aft wr.heap.size (by kernel_rfl) (by kernel_rfl) ?_
                    repeat (go_big_quiet_step (fail))
                    refine wpQuiet_nil ?_
                    intro w4 hw'
                    obtain ⟨⟨_, hb4⟩, rfl⟩ := hw'
                    have HB4 := Lib.hid (bch hbk hb4)
                    have HO4 := Lib.hid (And.intro (HK.out.2.1.on hb4) (HK.out.2.2.1.on hb4))
                    clear hb4
                    go_wp2
                    go_roundg (x.length - (n + 1))
                    case measure => omega
                    case rel => exact ⟨n + 1, f2, dk, svk, by omega, hf2, rfl, rfl, by go_num, HB4.out, HO4.out.1, HO4.out.2, by rw [HK.out.2.2.2, mjOne_end (by omega), List.nil_append]⟩
            · have hf5 : ¬ ((f2 : Int) < (y.length : Int)) := by omega
              have HE := Lib.hid (HD.out.2.trans (dropW_end (by omega)))
              go_wp2
              refine wp_region_aft wr.heap.size (by kernel_rfl) (by kernel_rfl) ?_
              repeat (go_big_quiet_step (fail))
              refine wpQuiet_nil ?_
              intro w3 hw'
              obtain ⟨⟨_, hb3⟩, rfl⟩ := hw'
              have HB3 := Lib.hid (bch HD.out.1 hb3)
              clear hb3
              go_wp2
              obtain ⟨wi, hwi⟩ : ∃ wi : World, wi = w3 := ⟨_, rfl⟩
              subst hwi
              have HWI := Lib.hid (show Below wo.heap.size wo wi from HB3.out)
              have HOI := Lib.hid (And.intro ((HQ.out.2.1.on HB1.out).on HWI.out) ((HQ.out.2.2.1.on HB1.out).on HWI.out))
              have hG2 : G = dn ++ (mjOne xs ys ci cj (i : Int) (y.drop f2) ++ mjRows xs ys ci cj (x.drop (n + 1)) (y.drop f2)) := by rw [HQ.out.2.2.2, mjRows_cons hxe.out HE.out]
              have HG2 := Lib.hid hG2
              have HBI := Lib.hid (show Below wb.heap.size wb wi from bch (bch HQ.out.1 HB1.out) HWI.out)
              clear hG2
              go_loopg [12, 16] (y.length - f2) (fun g v12 v16 wq => ∃ (k : Nat) (dk : List Row1) (svk : List SV), k ≤ y.length ∧ g = y.length - k ∧ v16 = .int .i64 k ∧ Below wb.heap.size wb wq ∧ Ow wb.heap.size 41 1 svC wq v12 svk ∧ RowsT 40 2 valC 0 wq svk dk ∧ G = dk ++ (mjOne xs ys ci cj (i : Int) (y.drop k) ++ mjRows xs ys ci cj (x.drop (n + 1)) (y.drop f2)))
              case atStart => exact ⟨f2, dn, svs, hf2, rfl, rfl, HBI.out, HOI.out.1, HOI.out.2, HG2.out⟩
              case round =>
                obtain ⟨k, dk, svk, hky, rfl, rfl, hbk, howk, hrtk, hgk⟩ := hrel
                have HK := Lib.hid (And.intro hbk (And.intro howk (And.intro hrtk hgk)))
                have hba := bch HB.out hbk
                have hz2 : wb.heap.size ≤ wr.heap.size := hbk.size
                obtain ⟨AK, ck, rfl, _, _, _⟩ := howk.shape svC_length
                have a1 : wr.cell? ⟨w.heap.size, 1, none⟩ = some (.slice (some ⟨b3, o3, none⟩) xs.length c) := (RB.out.1.on hbk).cell 1
                have b1 : wr.cell? ⟨w.heap.size + 1, 1, none⟩ = some (.slice A' ys.length c') := (RB.out.2.1.on hbk).cell 1
                clear howk hrtk hgk
                by_cases hlt3 : k < y.length
                · have hyk := Lib.hid (List.getElem?_eq_getElem hlt3)
                  have hyi := HYi.out _ (List.getElem_mem hlt3)
                  obtain ⟨gz, oz, hAZ, hBz, hcz⟩ := SY.out.at_ hlt3
                  have e1b : wb.cell? ⟨gz, oz + k, none⟩ = some (.int .i64 y[k]) := by have := hcz 0 _ rfl; simpa using this
                  generalize y[k] = jj at *
                  obtain ⟨j3, rfl⟩ := Int.eq_ofNat_of_zero_le hyi.1
                  have hj1 : j3 < ys.length := by have := hyi.2; omega
                  obtain ⟨b8, o8, b9, o9, C9, hA8, hB8, c8b, hB9, d90, d91b, hcl9, hL9, hCm9, s9⟩ := cellAt (HH.out.2.on HB.out) HRy.out hcb1 hj1
                  cases hAZ
                  cases hA8
                  obtain ⟨L9, hL9e⟩ : ∃ L, (rwAt ys (j3 : Int)).length = L := ⟨_, rfl⟩
                  obtain ⟨M3, hM3⟩ : ∃ N, nAt ys cj (j3 : Int) = N := ⟨_, rfl⟩
                  rw [hL9e] at c8b hcl9 hL9
                  rw [hM3] at d91b
                  have e1 := (hbk.cell (p := ⟨gz, _, none⟩) hBz).trans e1b
                  have c8 := (hbk.cell (p := ⟨b8, _, none⟩) hB8).trans c8b
                  have d91 := (hbk.cell (p := ⟨b9, _, none⟩) hB9).trans d91b
                  have HM3 := Lib.hid hM3
                  have hk5 : (k : Int) < (y.length : Int) := by omega
                  have hj35 : (j3 : Int) < (ys.length : Int) := by omega
                  have hcj6 : cj ≤ 6 := by omega
                  have hj3400 : j3 ≤ 400 := by omega
                  have p1 := fun z : Aft wr.heap.size wr => z.cell (by omega) b1
                  have p2 := fun z : Aft wr.heap.size wr => z.cell (by omega) e1
                  have p3 := fun z : Aft wr.heap.size wr => z.cell (by omega) c8
                  have p4 := fun z : Aft wr.heap.size wr => z.cell (by omega) d91
                  have HZ := Lib.hid (And.intro e1b (And.intro c8b (And.intro s9 hL9e)))
                  clear hyi hcz e1 c8 d90 d91 s9 hL9e hM3 a1 b1 e1b c8b d91b hba hCm9
                  by_cases heq : M3 = N
                  · go_wp2
                    refine wp_region_aft wr.heap.size (by kernel_rfl) (by kernel_rfl) ?_
                    repeat (go_big_quiet_step (fail))
                    refine wpQuiet_nil ?_
                    intro w4 hw'
                    obtain ⟨⟨_, hb4⟩, rfl⟩ := hw'
                    have hxy : Below wb.heap.size wb w4 := bch hbk hb4
                    have HXY := Lib.hid hxy
                    have hz4 := hxy.size
                    have a1 : w4.cell? ⟨w.heap.size, 1, none⟩ = some (.slice (some ⟨b3, o3, none⟩) xs.length c) := (RB.out.1.on hxy).cell 1
                    have b1 : w4.cell? ⟨w.heap.size + 1, 1, none⟩ = some (.slice (some ⟨b8, o8, none⟩) ys.length c') := (RB.out.2.1.on hxy).cell 1
                    have e1 := (hxy.cell (p := ⟨gx, _, none⟩) hBx).trans HEL.out.1
                    have e2 := (hxy.cell (p := ⟨gz, _, none⟩) hBz).trans HZ.out.1
                    have c3 := (hxy.cell (p := ⟨b3, _, none⟩) hB3).trans HEL.out.2.1
                    have c8 := (hxy.cell (p := ⟨b8, _, none⟩) hB8).trans HZ.out.2.1
                    have g1 : gx < w4.heap.size := by omega
                    have g2 : gz < w4.heap.size := by omega
                    have g3 : b3 < w4.heap.size := by omega
                    have g4 : b8 < w4.heap.size := by omega
                    have HC := specConcat_ok (some ⟨b4, o4, none⟩) (some ⟨b9, o9, none⟩) C4 C9 (rwAt xs (i : Int)) (rwAt ys (j3 : Int)) w4.drew (by have := HL.out.1; omega) (by have := HZ.out.2.2.2; omega) (HEL.out.2.2.1.on hxy.drew) (HZ.out.2.2.1.on hxy.drew)
                    rw [HL.out.1, HZ.out.2.2.2] at HC
                    obtain ⟨R, hR⟩ : ∃ R, rwAt xs (i : Int) ++ rwAt ys (j3 : Int) = R := ⟨_, rfl⟩
                    rw [hR] at HC
                    have HC := Lib.hid HC
                    have HR := Lib.hid hR
                    have HO4 := Lib.hid (And.intro (HK.out.2.1.on hb4) (HK.out.2.2.1.on hb4))
                    have hsv9 : svk.length ≤ 160000 := by
                      have h1 := HK.out.2.2.1.1
                      have h2 := congrArg List.length HK.out.2.2.2
                      rw [List.length_append] at h2
                      have := HGl.out
                      omega
                    clear p1 p2 p3 p4 hb4 hxy hR
                    have KF := Lib.hid (fun (z : World) (hz : Below wb.heap.size wb z) => show (z.cell? ⟨w.heap.size, 1, none⟩ = some (.slice (some ⟨b3, o3, none⟩) xs.length c) ∧ z.cell? ⟨gx, ox + n, none⟩ = some (.int .i64 (i : Int)) ∧ z.cell? ⟨b3, o3 + i, none⟩ = some (.slice (some ⟨b4, o4, none⟩) L C4) ∧ z.cell? ⟨w.heap.size + 1, 1, none⟩ = some (.slice (some ⟨b8, o8, none⟩) ys.length c') ∧ z.cell? ⟨gz, oz + k, none⟩ = some (.int .i64 (j3 : Int)) ∧ z.cell? ⟨b8, o8 + j3, none⟩ = some (.slice (some ⟨b9, o9, none⟩) L9 C9))
                      from ⟨(RB.out.1.on hz).cell 1, (hz.cell (p := ⟨gx, _, none⟩) hBx).trans HEL.out.1, (hz.cell (p := ⟨b3, _, none⟩) hB3).trans HEL.out.2.1, (RB.out.2.1.on hz).cell 1, (hz.cell (p := ⟨gz, _, none⟩) hBz).trans HZ.out.1, (hz.cell (p := ⟨b8, _, none⟩) hB8).trans HZ.out.2.1⟩)
                    clear a1 b1 e1 e2 c3 c8
                    have HW4d := Lib.hid (show Below wb.heap.size wb w4.drew from HXY.out.drew)
                    have y4 := KF.out _ HW4d.out
                    go_wp2
                    go_region_held3 (fun z => z.cell? ⟨w.heap.size, 1, none⟩ = some (.slice (some ⟨b3, o3, none⟩) xs.length c) ∧ z.cell? ⟨gx, ox + n, none⟩ = some (.int .i64 (i : Int)) ∧ z.cell? ⟨b3, o3 + i, none⟩ = some (.slice (some ⟨b4, o4, none⟩) L C4) ∧ z.cell? ⟨w.heap.size + 1, 1, none⟩ = some (.slice (some ⟨b8, o8, none⟩) ys.length c') ∧ z.cell? ⟨gz, oz + k, none⟩ = some (.int .i64 (j3 : Int)) ∧ z.cell? ⟨b8, o8 + j3, none⟩ = some (.slice (some ⟨b9, o9, none⟩) L9 C9))
                      (first | assumption | exact KF.out _ (bch HXY.out HB5.out) | exact KF.out _ (balloc (bch HXY.out HB5.out) _) | exact KF.out _ HW6.out)
                      (first
                        | (go_at_call 81; refine HC.out.mono ?_; rintro e w5 ⟨v5, rfl, how5, hb5'⟩; have hb5 : Below w4.heap.size w4 w5 := (Below.refl _ w4).drew.trans hb5'; obtain ⟨A5', c5', rfl, hc51, hc52, hs5⟩ := how5.shape valC_length; have HB5 := Lib.hid hb5; have HO5 := Lib.hid ((HO4.out.1.on hb5).on (balloc (Below.refl _ _) (.cells #[.slice A5' R.length c5'] 41))); have HS5 := Lib.hid (Row.sl' (w := w5.alloc (.cells #[.slice A5' R.length c5'] 41)) (t := 41) (xs := [(⟨A5', R.length, c5'⟩ : SV)]) svC_length ((Row.new w5 _ _).of rfl)); have hz5 : w4.heap.size ≤ w5.heap.size := hb5.size; have hsz5 : wb.heap.size ≤ (w5.alloc (.cells #[.slice A5' R.length c5'] 41)).heap.size := (by simp; omega); have HX5 := Lib.hid (And.intro hs5 (And.intro hc51 hc52)); have y5 := KF.out _ (bch HXY.out HB5.out); clear hb5 hb5' how5 hs5 hc51 hc52)
                        | (refine step_app rfl (.tmp 102) (.tmp 120) 23 rfl wb.heap.size 41 _ 1 24 svC Try.underlying23 zeroRow rfl (by decide) (by decide) svC_length svC_one _ svk rfl HO5.out (some ⟨w5.heap.size, 0, none⟩) 1 1 [(⟨A5', R.length, c5'⟩ : SV)] rfl rfl HS5.out (by simp <;> omega) hsz5 ?_; intro v6 w6 how6 hgr6; have HW6 := Lib.hid (show Below wb.heap.size wb w6 from (balloc (bch HXY.out HB5.out) _).grown hgr6 hsz5 fun q hq => (HO5.out.ty q hq).1); have Hw6 := Lib.hid (And.intro how6 hgr6); have y6 := KF.out _ HW6.out; clear how6 hgr6))
                    all_goals (
                      go_wp2
                      go_roundg (y.length - (k + 1))
                      case measure => omega
                      case rel =>
                        obtain ⟨how6, hgr6⟩ := Hw6.out
                        have hS2 := balloc (Below.refl _ w5) (.cells #[.slice A5' R.length c5'] 41)
                        have hrow : ∀ q, Value.ownBlock _ = some q → wb.heap.size ≤ q ∧ TyAt _ q 41 := fun q hq => ⟨(HO5.out.ty q hq).1, (HO5.out.ty q hq).2.2⟩
                        have hT6 := ((HO4.out.2.on HB5.out).on hS2).grown hgr6 fun q hq => .inr ⟨_, by decide, (hrow q hq).2⟩
                        have hs6 := ((HX5.out.1.on hS2).grown hgr6 fun q hq => .inr ⟨_, by decide, (hrow q hq).2⟩).low (Nat.zero_le _)
                        refine ⟨k + 1, dk ++ [R], svk ++ [⟨A5', R.length, c5'⟩], by omega, rfl, by go_num, ?_, how6, hT6.snoc rfl HX5.out.2.1 HX5.out.2.2 hs6, ?_⟩
                        · exact (bch (bch HXY.out HB5.out) hS2).grown hgr6 hsz5 fun q hq => (hrow q hq).1
                        · rw [HK.out.2.2.2, mjOne_step hyk.out (by unfold eqB; rw [HM3.out, HL.out.2]; exact decide_eq_true (by omega))]
                          have e : catAt xs ys (i : Int) (j3 : Int) = R := HR.out
                          rw [e]
                          simp only [List.append_assoc, List.cons_append, List.nil_append])
                  · go_wp2
                    refine wp_region_aft wr.heap.size (by kernel_rfl) (by kernel_rfl) ?_
                    repeat (go_big_quiet_step (fail))
                    refine wpQuiet_nil ?_
                    intro w4 hw'
                    obtain ⟨⟨_, hb4⟩, rfl⟩ := hw'
                    have HB4 := Lib.hid (bch hbk hb4)
                    have HO4 := Lib.hid (And.intro (HK.out.2.1.on hb4) (HK.out.2.2.1.on hb4))
                    clear p1 p2 p3 p4 hb4
                    go_wp2
                    go_roundg (x.length - (n + 1))
                    case measure => omega
                    case rel => exact ⟨n + 1, f2, dk, svk, by omega, hf2, rfl, rfl, by go_num, HB4.out, HO4.out.1, HO4.out.2, by rw [HK.out.2.2.2, mjOne_stop hyk.out (by unfold eqB; rw [HM3.out, HL.out.2]; exact decide_eq_false (by omega)), List.nil_append]⟩
                · have hk5 : ¬ ((k : Int) < (y.length : Int)) := by omega
                  go_wp2
                  refine wp_region_aft wr.heap.size (by kernel_rfl) (by kernel_rfl) ?_
                  repeat (go_big_quiet_step (fail))
                  refine wpQuiet_nil ?_
                  intro w4 hw'
                  obtain ⟨⟨_, hb4⟩, rfl⟩ := hw'
                  have HB4 := Lib.hid (bch hbk hb4)
                  have HO4 := Lib.hid (And.intro (HK.out.2.1.on hb4) (HK.out.2.2.1.on hb4))
                  clear hb4
                  go_wp2
                  go_roundg (x.length - (n + 1))
                  case measure => omega
                  case rel => exact ⟨n + 1, f2, dk, svk, by omega, hf2, rfl, rfl, by go_num, HB4.out, HO4.out.1, HO4.out.2, by rw [HK.out.2.2.2, mjOne_end (by omega), List.nil_append]⟩
        · obtain rfl : n = x.length := by omega
          have hge : ¬ ((x.length : Int) < (x.length : Int)) := by omega
          have hdn : G = dn := by rw [HQ.out.2.2.2, mjRows_end (Nat.le_refl _), List.append_nil]
          subst hdn
          have hsl : svs.length = G.length := HQ.out.2.2.1.1
          have HT := Lib.hid (tableOf_ok 0 (W + W') A5 c5 svs G wr (Nat.zero_le _) (by have := HGl.out; omega) (fun r hr => by have := (rowValid_len (HGr.out r hr).1).2; omega) (by obtain ⟨A9, c9, e9, _, _, h9⟩ := HQ.out.2.1.shape svC_length; injection e9 with e1 e2 e3; subst e1; exact h9.sl) HQ.out.2.2.1)
          have a0 : wr.cell? ⟨w.heap.size, 0, none⟩ = some (.int .i64 W) := (RB.out.1.on hb).cell 0
          have b0 : wr.cell? ⟨w.heap.size + 1, 0, none⟩ = some (.int .i64 W') := (RB.out.2.1.on hb).cell 0
          rw [hsl]
          clear hb hsl
          go_wp2_with fail
          refine HT.out.mono ?_
          rintro e w5 ⟨v5, sv5, out, rfl, hout, how5, hrt5, hb5⟩
          obtain ⟨A6, c6, rfl, _, _, _⟩ := how5.shape svC_length
          have r2 := (RB.out.2.2.on HQ.out.1).on hb5
          have e0 : w5.cell? ⟨w.heap.size + 2, 0, none⟩ = some (.int .i64 0) := r2.cell 0
          have e1 : w5.cell? ⟨w.heap.size + 2, 1, none⟩ = some (.slice none 0 0) := r2.cell 1
          have f0 := r2.frozen 0
          have f1 := r2.frozen 1
          have l2 := r2.lt
          generalize sv5.length = nn at *
          have HF := Lib.hid (And.intro hout (And.intro how5 (And.intro hrt5 (And.intro hb5 r2))))
          clear hout how5 hrt5 hb5 r2 a0 b0
          go_wp2
          refine bodyPost_ret (resSpecMj (b := w.heap.size + 2) (r := true) _ rfl rfl _ (v0 := .int .i64 (W + W')) (v1 := .slice A6 nn c6) (by simp [go_sem, e0, e1, l2]) (by simp [go_sem, e0, e1, l2])) rfl ?_
          obtain ⟨hout, how1, hrt1, hb1, r2⟩ := HF.out
          have hS0 := (Only.set (S := fun i => i = w.heap.size + 2) (p := ⟨w.heap.size + 2, 0, none⟩) (Only.refl w5) (.inl rfl) (.int .i64 (W + W'))).set (p := ⟨w.heap.size + 2, 1, none⟩) (.inl rfl) (.slice A6 nn c6)
          have hbw := bch HB.out HQ.out.1
          exact ⟨W + W', _, sv5, out, rfl, .inr ⟨rfl, rfl, hout⟩, (how1.only hS0 fun q hq => .inr ⟨25, by decide, by subst hq; exact r2.ty⟩).low hbw.size, hrt1.only hS0 fun q hq => .inr ⟨25, by decide, by subst hq; exact r2.ty⟩, ((bch hbw hb1).setCell (p := ⟨w.heap.size + 2, 0, none⟩) (by simp) _).setCell (p := ⟨w.heap.size + 2, 1, none⟩) (by simp) _⟩
    · have hf : q = false := bfalse Hq.out fun ht => h6 ht.2
      subst hf
      have h6' : 6 < W + W' := by omega
      go_enter Try.func27, Try.ntmps27
      go_upto_region 1 with fail
      rw [HW.out]
      go_wp2_with fail
      refine H1.out.mono ?_
      rintro e w1 ⟨rfl, hb1⟩
      have r2 := HR0.out.2.2.on hb1
      have e0 : w1.cell? ⟨w.heap.size + 2, 0, none⟩ = some (.int .i64 0) := r2.cell 0
      have e1 : w1.cell? ⟨w.heap.size + 2, 1, none⟩ = some (.slice none 0 0) := r2.cell 1
      have f0 := r2.frozen 0
      have f1 := r2.frozen 1
      have l2 := r2.lt
      have a0 : w1.cell? ⟨w.heap.size, 0, none⟩ = some (.int .i64 W) := (HR0.out.1.on hb1).cell 0
      have b0 : w1.cell? ⟨w.heap.size + 1, 0, none⟩ = some (.int .i64 W') := (HR0.out.2.1.on hb1).cell 0
      have H1' := Lib.hid (bch HB0.out hb1)
      clear hb1 r2 a1 b1
      go_wp2
      refine bodyPost_ret (resSpecMj (b := w.heap.size + 2) (r := false) _ rfl rfl _ (v0 := .int .i64 0) (v1 := .slice none 0 0) (by simp [go_sem, e0, e1, l2]) (by simp [go_sem, e0, e1, l2])) rfl ?_
      exact NO.out _ H1'.out
end Go.Proofs.Ytldndapcbgaliaa
