/-
  Contracts: how wide a plan is, as the reference says it (planWidth, widthOf).
-/
import Derived.Test.YtcbfbgngkdiijaaProg
import Derived.Test.YtcbfbgngkdiijaaPlO
namespace Go.Proofs.Ytcbfbgngkdiijaa
open Go.RowKit Go.Qo
set_option linter.unusedVariables false
set_option linter.unusedSimpArgs false

section
variable {ws : List Int} {p : Pl} {a b : Int}
open Classical
theorem topW1 (h : p.kind = 1) : topW ws p a b = if 0 ≤ p.table ∧ p.table < ws.length then ws.getD p.table.toNat 0 else 0 := by unfold topW; rw [if_pos h]
theorem topW2 (h : p.kind = 2) : topW ws p a b = if ∀ e ∈ p.exprs, EOk a e then a else 0 := by unfold topW; rw [if_neg (by omega), if_pos h]
theorem topW3 (h : p.kind = 3) : topW ws p a b = projW p.exprs a := by unfold topW projW; rw [if_neg (by omega), if_neg (by omega), if_pos h]
theorem topW45 (h : p.kind = 4 ∨ p.kind = 5) : topW ws p a b = if a + b ≤ 6 ∧ ∀ e ∈ p.exprs, EOk (a + b) e then a + b else 0 := by unfold topW; rw [if_neg (by omega), if_neg (by omega), if_neg (by omega), if_pos h]
theorem topW6 (h : p.kind = 6) : topW ws p a b = if a = b then a else 0 := by unfold topW; rw [if_neg (by omega), if_neg (by omega), if_neg (by omega), if_neg (by omega), if_pos h]
theorem topW7 (h : p.kind = 7) : topW ws p a b = a := by unfold topW; rw [if_neg (by omega), if_neg (by omega), if_neg (by omega), if_neg (by omega), if_neg (by omega), if_pos h]
theorem topW8 (h : p.kind = 8) : topW ws p a b = if ColsOk p.cols a ∧ p.cols.length < 6 then (p.cols.length : Int) + 1 else 0 := by unfold topW; rw [if_neg (by omega), if_neg (by omega), if_neg (by omega), if_neg (by omega), if_neg (by omega), if_neg (by omega)]
end

theorem zeroIntT : (Try.prog.info? 3).map (fun i => (i.zero, i.size, i.bytes)) = some (some (.int .i64 0), 1, 8) := by kernel_rfl
def PwS (p : Pl) : Prop := ∀ (f : FP) (ws : List Int) (A : Option Addr) (c d : Nat) (w : World) (R : Int), PlIn w w.heap.size f p → (∀ x ∈ ws, 1 ≤ x ∧ x ≤ 6) → ws.length ≤ maxLen → Sl 1 intC w w.heap.size A ws → d ≤ 100 → plW ws d p = R →
  Calls Try.prog 37 #[fpV f, .slice A ws.length c, .int .i64 d] w fun e w' => e = .returned (.int .i64 R) ∧ Below w.heap.size w w'

set_option maxRecDepth 20000 in
set_option maxHeartbeats 4000000 in
theorem planWidth_ok : ∀ p : Pl, PwS p := Pl.ind fun p ih f ws A c d w R h hws hwl hsl hd hr => by
  obtain ⟨a1, a2, ⟨a3, a3', a3''⟩, ⟨a4, a4', a4''⟩, ⟨a5, a5', a5''⟩, a6, a7⟩ := h.flat
  obtain ⟨W1, hW1⟩ : ∃ z, w.alloc (.cells #[.int .i64 p.kind, .int .i64 p.table, .slice f.es.A p.exprs.length f.es.c, .slice f.cs.A p.cols.length f.cs.c, .slice f.ks.A p.kids.length f.ks.c] 27) = z := ⟨_, rfl⟩
  have B1 : Below w.heap.size w W1 := by rw [← hW1]; exact balloc (Below.refl _ _) _
  have r1 : Row W1 w.heap.size 27 [.int .i64 p.kind, .int .i64 p.table, .slice f.es.A p.exprs.length f.es.c, .slice f.cs.A p.cols.length f.cs.c, .slice f.ks.A p.kids.length f.ks.c] := by rw [← hW1]; exact Row.new _ _ _
  obtain ⟨W2, hW2⟩ : ∃ z, W1.alloc (.cells #[] 3) = z := ⟨_, rfl⟩
  have B2 : Below W1.heap.size W1 W2 := by rw [← hW2]; exact balloc (Below.refl _ _) _
  have O2 := Lib.hid (show Ow W1.heap.size 3 1 intC W2 (.slice (some ⟨W1.heap.size, 0, none⟩) 0 0) ([] : List Int) by rw [← hW2]; exact Ow.lit (xs := ([] : List Int)) rfl rfl (Nat.le_refl _) (by decide))
  have BX := Lib.hid (fun (z : World) (hz : Below W1.heap.size W1 z) => show z.cell? ⟨w.heap.size, 0, none⟩ = some (.int .i64 p.kind) ∧ z.cell? ⟨w.heap.size, 1, none⟩ = some (.int .i64 p.table) ∧ z.cell? ⟨w.heap.size, 2, none⟩ = some (.slice f.es.A p.exprs.length f.es.c) ∧ z.cell? ⟨w.heap.size, 3, none⟩ = some (.slice f.cs.A p.cols.length f.cs.c) ∧ z.cell? ⟨w.heap.size, 4, none⟩ = some (.slice f.ks.A p.kids.length f.ks.c)
    from ⟨(r1.on hz).cell 0, (r1.on hz).cell 1, (r1.on hz).cell 2, (r1.on hz).cell 3, (r1.on hz).cell 4⟩)
  have hlt1 := r1.lt
  have HP := Lib.hid (fun (z : World) (hz : Below W1.heap.size W1 z) => h.on (bch B1 hz))
  have HS := Lib.hid (fun (z : World) (hz : Below W1.heap.size W1 z) => hsl.on (bch B1 hz))
  have HE := Lib.hid (fun (z : World) (hz : Below W1.heap.size W1 z) => a6.on (bch B1 hz))
  have HC := Lib.hid (fun (z : World) (hz : Below W1.heap.size W1 z) => a7.on (bch B1 hz))
  have IH := Lib.hid ih
  have HR := Lib.hid hr
  have HWS := Lib.hid hws
  have HB1 := Lib.hid B1
  have HB2 := Lib.hid B2
  have HW1 := Lib.hid hW1
  have HW2 := Lib.hid hW2
  have hx : p.exprs.length ≤ maxLen ∧ p.kids.length ≤ maxLen ∧ p.cols.length ≤ maxLen := by omega
  unfold maxLen at hx hwl
  obtain ⟨hx1, hx2, hx3⟩ := hx
  obtain ⟨q, hq⟩ := bool_of (P := OnlyF p)
  have HO := Lib.hid (onlyFields_ok p ⟨p.kind, p.table, ⟨f.es.A, p.exprs.length, f.es.c⟩, ⟨f.cs.A, p.cols.length, f.cs.c⟩, ⟨f.ks.A, p.kids.length, f.ks.c⟩⟩ W2 q (by
    have h2 := h.on (bch B1 B2)
    obtain ⟨fk, ft, ⟨e1, e2, e3⟩, ⟨g1, g2, g3⟩, ⟨k1, k2, k3⟩⟩ := f
    simp only at a1 a2 a3 a4 a5
    subst a1 a2 a3 a4 a5
    exact h2) hq)
  unfold fpV at HO
  have Hq := Lib.hid hq
  unfold fpV
  rw [a1, a2, a3, a4, a5]
  have z2 := BX.out W2 B2
  obtain ⟨c0, c1, c2, c3, c4⟩ := z2
  clear h hr hws hsl ih hq a1 a2 a3 a4 a5 a3' a3'' a4' a4'' a5' a5'' a6 a7 B1 r1 B2 hW1 hW2
  cases q with
  | false =>
    have hz : R = 0 := by
      rw [← HR.out]
      exact plW_no fun ho => by have := Hq.out.2 ho; cases this
    have Hz := Lib.hid hz
    clear hz
    go_enter Try.func37, Try.ntmps37
    go_upto_region 1 with fail
    rw [HW1.out]
    go_upto_region 2 with fail
    rw [HW2.out]
    go_wp2_with fail
    refine HO.out.mono ?_
    rintro e w3 ⟨rfl, hb3⟩
    go_wp2
    go_ret
    exact ⟨ret_int Hz.out.symm, bch (bch HB1.out HB2.out) hb3⟩
  | true =>
    have Hof := Lib.hid (Hq.out.1 rfl)
    by_cases hdz : 0 < p.kids.length ∧ d = 0
    · obtain ⟨hpos, rfl⟩ := hdz
      have Hz := Lib.hid (show R = 0 by rw [← HR.out]; exact plW_deep hpos)
      have hposI : (0 : Int) < (p.kids.length : Int) := by omega
      go_enter Try.func37, Try.ntmps37
      go_upto_region 1 with fail
      rw [HW1.out]
      go_upto_region 2 with fail
      rw [HW2.out]
      go_wp2_with fail
      refine HO.out.mono ?_
      rintro e w3 ⟨rfl, hb3⟩
      have z3 := BX.out _ (bch HB2.out hb3)
      obtain ⟨d0, d1, d2, d3, d4⟩ := z3
      go_wp2
      go_ret
      exact ⟨ret_int Hz.out.symm, bch (bch HB1.out HB2.out) hb3⟩
    · have Hdz := Lib.hid (show 0 < p.kids.length → 0 < d from fun h1 => by omega)
      have hcase : (0 < p.kids.length ∧ ((d : Int) == 0) = false) ∨ ¬ 0 < p.kids.length := by
        by_cases h0 : 0 < p.kids.length
        · refine .inl ⟨h0, ?_⟩
          have : d ≠ 0 := by omega
          simpa using this
        · exact .inr h0
      clear hdz
      rcases hcase with ⟨hpos, hdne⟩ | hpos
      all_goals
        go_enter Try.func37, Try.ntmps37
        go_upto_region 1 with fail
        rw [HW1.out]
        go_upto_region 2 with fail
        rw [HW2.out]
        go_wp2_with fail
        refine HO.out.mono ?_
        rintro e w3 ⟨rfl, hb3⟩
        have z3 := BX.out _ (bch HB2.out hb3)
        obtain ⟨d0, d1, d2, d3, d4⟩ := z3
        have HB3 := Lib.hid (bch HB2.out hb3)
        have O3 := Lib.hid (O2.out.on hb3)
        clear hb3
        go_wp2
        clear c0 c1 c2 c3 c4 d0 d1 d2 d3 d4 hpos
        go_loopg [7, 8, 9] p.kids.length (fun g v iv nv wr => ∃ xs : List Int, xs.length ≤ p.kids.length ∧ g = p.kids.length - xs.length ∧ iv = .int .i64 xs.length ∧ (∀ j (hj : j < p.kids.length), j < xs.length → plW ws (d - 1) p.kids[j] ≠ 0 ∧ xs[j]? = some (plW ws (d - 1) p.kids[j])) ∧ Ow W1.heap.size 3 1 intC wr v xs ∧ Below W1.heap.size W1 wr)
        case atStart => exact ⟨[], by simp, by simp, rfl, fun j hj hn => absurd hn (by simp), O3.out, HB3.out⟩
        case round =>
          obtain ⟨xs, hxl, rfl, rfl, hall, how, hb⟩ := hrel
          have HA := Lib.hid hall
          have HOw := Lib.hid how
          have HB := Lib.hid hb
          have z4 := BX.out _ hb
          obtain ⟨c0, c1, c2, c3, c4⟩ := z4
          have hsz := hb.size
          have hk2 : p.kids.length ≤ 2 := Hof.out.kids_le
          clear hall how hb
          by_cases hlt : xs.length < p.kids.length
          · obtain ⟨b1, o1, g, hA, hBl, ⟨d0, d1, d2, d3, d4⟩, hg⟩ := (HP.out wr HB.out).kid hlt
            obtain ⟨rk, hrk⟩ : ∃ rk, plW ws (d - 1) p.kids[xs.length] = rk := ⟨_, rfl⟩
            have hd1 := Hdz.out (by omega)
            have HX := Lib.hid (IH.out _ (List.getElem_mem hlt) g ws A c (d - 1) wr rk hg HWS.out (by unfold maxLen; exact hwl) (HS.out wr HB.out) (by omega) hrk)
            have ed : ((d - 1 : Nat) : Int) = (d : Int) - 1 := by omega
            unfold fpV at HX
            rw [ed] at HX
            have Hrk := Lib.hid hrk
            have hil : (xs.length : Int) < (p.kids.length : Int) := by omega
            rw [hA] at c4
            clear hrk hg hA ed
            by_cases hz : rk = 0
            · have Hz := Lib.hid (show R = 0 by
                rw [← HR.out, show d = (d - 1) + 1 by omega]
                exact plW_kid (List.getElem_mem hlt) (Hrk.out.trans hz))
              subst hz
              go_wp2_with fail
              refine HX.out.mono ?_
              rintro e w4 ⟨rfl, hb4⟩
              go_wp2
              go_ret
              exact ⟨ret_int Hz.out.symm, bch (bch HB1.out HB.out) hb4⟩
            · have Hz := Lib.hid hz
              have hz' : (rk == 0) = false := by simpa using hz
              clear hz
              go_wp2_with fail
              refine HX.out.mono ?_
              rintro e w4 ⟨rfl, hb4⟩
              have HB4 := Lib.hid (bch HB.out hb4)
              have HO4 := Lib.hid ((HOw.out.on hb4).on (balloc (Below.refl _ _) (.cells #[.int .i64 rk] 3)))
              have HS4 := Lib.hid (Row.sl' (w := w4.alloc (.cells #[.int .i64 rk] 3)) (t := 3) (xs := [rk]) intC_length ((Row.new w4 _ _).of rfl))
              have hsz4 : W1.heap.size ≤ (w4.alloc (.cells #[.int .i64 rk] 3)).heap.size := by have := HB4.out.size; simp; omega
              clear hb4
              go_wp2_with (at_builtin; refine wpList_app rfl (.tmp 42) (.tmp 44) 24 rfl W1.heap.size 3 _ 1 8 intC Try.underlying24 zeroIntT rfl (by decide) (by decide) intC_length intC_one _ xs rfl HO4.out (some ⟨w4.heap.size, 0, none⟩) 1 1 [rk] rfl rfl HS4.out (by simp; omega) hsz4 ?_; intro v' w' hown hgr)
              go_roundg (p.kids.length - (xs.length + 1))
              case measure => omega
              case rel =>
                refine ⟨xs ++ [rk], by simp; omega, by simp, by simp, fun j hj hn => ?_, hown, ?_⟩
                · by_cases hji : j < xs.length
                  · have h1 := HA.out j hj hji
                    exact ⟨h1.1, by rw [List.getElem?_append_left hji]; exact h1.2⟩
                  · have hje : j = xs.length := by simp at hn; omega
                    subst hje
                    rw [Hrk.out]
                    exact ⟨Hz.out, by simp⟩
                · exact (balloc HB4.out _).grown hgr hsz4 fun k hk => (HO4.out.ty k hk).1
          · have hxe : xs.length = p.kids.length := by omega
            have Hall := Lib.hid (show ∀ y ∈ p.kids, plW ws (d - 1) y ≠ 0 from fun y hy => by
              obtain ⟨j, hj, rfl⟩ := List.getElem_of_mem hy
              exact (HA.out j hj (by omega)).1)
            have Hkw := Lib.hid (show ∀ i, kidW (plW ws (d - 1)) p i = xs.getD i 0 from fun i => by
              unfold kidW
              split
              · rename_i y hy
                obtain ⟨hj, rfl⟩ := List.getElem?_eq_some_iff.1 hy
                rw [List.getD_eq_getElem?_getD, (HA.out i hj (by omega)).2]
                rfl
              · rename_i hy
                have := List.getElem?_eq_none_iff.1 hy
                rw [List.getD_eq_getElem?_getD, List.getElem?_eq_none (by omega)]
                rfl)
            have HT := Lib.hid (show topW ws p (xs.getD 0 0) (xs.getD 1 0) = R by
              rw [← HR.out, plW_top Hof.out Hdz.out Hall.out, Hkw.out, Hkw.out])
            have Hrg := Lib.hid (show ∀ x ∈ xs, 0 ≤ x ∧ x ≤ 6 from fun x hx => by
              obtain ⟨j, hj, rfl⟩ := List.getElem_of_mem hx
              have h1 := (HA.out j (by omega) hj).2
              rw [List.getElem?_eq_getElem hj] at h1
              have h2 := Option.some.inj h1
              rw [h2]
              exact plW_range HWS.out _ _)
            have HBr := Lib.hid (bch HB1.out HB.out)
            obtain ⟨Av, cv, rfl, hc1, hc2, hsv⟩ := HOw.out.shape intC_length
            have hk8 : p.kind = 1 ∨ p.kind = 2 ∨ p.kind = 3 ∨ p.kind = 4 ∨ p.kind = 5 ∨ p.kind = 6 ∨ p.kind = 7 ∨ p.kind = 8 := by have := Hof.out.1; omega
            rcases hk8 with hk | hk | hk | hk | hk | hk | hk | hk
            · have hT := HT.out
              rw [topW1 hk] at hT
              rw [hk] at c0
              have HTb := Lib.hid hT
              obtain ⟨tb, htb⟩ : ∃ t, p.table = t := ⟨_, rfl⟩
              rw [htb] at c1 HTb
              obtain ⟨q, hq⟩ : ∃ q, (decide (0 ≤ tb) && decide (tb ≤ (ws.length : Int) - 1)) = q := ⟨_, rfl⟩
              have HI := Lib.hid (inRange_ok tb 0 ((ws.length : Int) - 1) wr q hq)
              have Hq := Lib.hid hq
              clear hq hT hk htb
              cases q
              · have Hz := Lib.hid (show R = 0 by rw [← HTb.out, if_neg]; have := Hq.out; simp at this; omega)
                go_wp2_with fail
                refine HI.out.mono ?_
                rintro e w5 ⟨rfl, rfl⟩
                go_wp2
                go_ret
                exact ⟨ret_int Hz.out.symm, HBr.out⟩
              · have htr : 0 ≤ tb ∧ tb ≤ (ws.length : Int) - 1 := by have := Hq.out; simpa using this
                obtain ⟨j, rfl⟩ := Int.eq_ofNat_of_zero_le htr.1
                have hjl : j < ws.length := by omega
                have hjI : (j : Int) < (ws.length : Int) := by omega
                have Hz := Lib.hid (show R = ws[j] by rw [← HTb.out, if_pos (by omega)]; simp [List.getD_eq_getElem?_getD, hjl])
                obtain ⟨bs, os, hAs, hBs, cs⟩ := (HS.out wr HB.out).at1 hjl
                subst hAs
                clear htr
                go_wp2_with fail
                refine HI.out.mono ?_
                rintro e w5 ⟨rfl, rfl⟩
                go_wp2
                go_ret
                exact ⟨ret_int Hz.out.symm, HBr.out⟩
            · have hn1 : xs.length = 1 := by have := Hof.out.2.1; rw [hk] at this; simp [nkids] at this; omega
              rw [hn1]
              have hnlt : ¬ 1 < p.kids.length := by omega
              have hnltI : ¬ (1 : Int) < (p.kids.length : Int) := by omega
              obtain ⟨a, rfl⟩ : ∃ a, xs = [a] := List.length_eq_one_iff.1 hn1
              clear hn1
              have ha := Hrg.out a (by simp)
              obtain ⟨bv, ov, hAv, hBv, cv0⟩ := hsv.sl.at1 (i := 0) (by simp)
              subst hAv
              have cv0' : wr.cell? ⟨bv, ov, none⟩ = some (.int .i64 a) := by simpa using cv0
              have V0 := fun z : Aft wr.heap.size wr => z.cell hBv cv0'
              clear cv0
              have hel : p.exprs.length = 1 := by have := Hof.out.2.2.1; rw [hk] at this; simp [nexprs] at this; omega
              have HEl := Lib.hid hel
              obtain ⟨e0, he0⟩ : ∃ e0, p.exprs = [e0] := List.length_eq_one_iff.1 hel
              have hE := HE.out wr HB.out
              rw [he0] at hE
              obtain ⟨be, oe, ge, hAe, hBe, ⟨g0, g1, g2, g3, g4⟩, hge⟩ := hE.at_ (i := 0) (by simp)
              simp only [Nat.zero_mul, Nat.add_zero, List.getElem_cons_zero] at g0 g1 g2 g3 g4 hge
              have P2 := fun z : Aft wr.heap.size wr => (BX.out z.v (bch HB.out z.h)).2.2.1
              rw [hAe, he0] at c2 P2
              simp only [List.length_singleton] at c2 P2
              have G0 := fun z : Aft wr.heap.size wr => z.cell hBe g0
              have G1 := fun z : Aft wr.heap.size wr => z.cell hBe g1
              have G2 := fun z : Aft wr.heap.size wr => z.cell hBe g2
              have G3 := fun z : Aft wr.heap.size wr => z.cell hBe g3
              have G4 := fun z : Aft wr.heap.size wr => z.cell hBe g4
              have hT := HT.out
              rw [topW2 hk, he0] at hT
              rw [hk] at c0
              obtain ⟨q, hq⟩ := bool_of (P := EOk a e0)
              have HV := Lib.hid (fun z : Aft wr.heap.size wr => specValidExpr_ok e0 ge a z.v q (hge.on z.h) hq)
              unfold feV at HV
              have Hz := Lib.hid (show R = if q = true then a else 0 by
                rw [← hT]
                by_cases h0 : EOk a e0
                · rw [if_pos (by simpa using h0), if_pos (hq.2 h0)]
                  rfl
                · rw [if_neg (by simpa using h0), if_neg (fun h1 => h0 (hq.1 h1))])
              clear hq hT hk he0 hE hel hge hAe g0 g1 g2 g3 g4 hsv
              go_wp2
              refine wp_region_aft wr.heap.size (by kernel_rfl) (by kernel_rfl) ?_
              repeat (go_big_quiet_step ((go_at_call 55; exact Calls.aft (Nat.le_refl _) (HV.out _))))
              refine wpQuiet_nil ?_
              intro w5 hw'
              obtain ⟨⟨_, hb5⟩, rfl⟩ := hw'
              have V5 := V0 ⟨w5, hb5⟩
              cases q
              · go_wp2
                go_ret
                exact ⟨ret_int (by simpa using Hz.out.symm), bch HBr.out hb5⟩
              · go_wp2
                go_ret
                exact ⟨ret_int (by simpa using Hz.out.symm), bch HBr.out hb5⟩
            · have hn1 : xs.length = 1 := by have := Hof.out.2.1; rw [hk] at this; simp [nkids] at this; omega
              rw [hn1]
              have hnlt : ¬ 1 < p.kids.length := by omega
              have hnltI : ¬ (1 : Int) < (p.kids.length : Int) := by omega
              obtain ⟨a, rfl⟩ : ∃ a, xs = [a] := List.length_eq_one_iff.1 hn1
              clear hn1
              have ha := Hrg.out a (by simp)
              obtain ⟨bv, ov, hAv, hBv, cv0⟩ := hsv.sl.at1 (i := 0) (by simp)
              subst hAv
              have cv0' : wr.cell? ⟨bv, ov, none⟩ = some (.int .i64 a) := by simpa using cv0
              have V0 := fun z : Aft wr.heap.size wr => z.cell hBv cv0'
              clear cv0
              have P2 := fun z : Aft wr.heap.size wr => (BX.out z.v (bch HB.out z.h)).2.2.1
              have hT := HT.out
              rw [topW3 hk] at hT
              rw [hk] at c0
              have HV := Lib.hid (fun z : Aft wr.heap.size wr => projectWidth_ok p.exprs f.es.A f.es.c a z.v R (by unfold maxLen; exact hx1) ((HE.out wr HB.out).on z.h) hT)
              clear hT hk hsv
              go_wp2
              refine wp_region_aft wr.heap.size (by kernel_rfl) (by kernel_rfl) ?_
              repeat (go_big_quiet_step ((go_at_call 56; exact Calls.aft (Nat.le_refl _) (HV.out _))))
              refine wpQuiet_nil ?_
              intro w5 hw'
              obtain ⟨⟨_, hb5⟩, rfl⟩ := hw'
              go_wp2
              go_ret
              exact ⟨rfl, bch HBr.out hb5⟩
            · have hn2 : xs.length = 2 := by have := Hof.out.2.1; rw [hk] at this; simp [nkids] at this; omega
              rw [hn2]
              have hnlt : ¬ 2 < p.kids.length := by omega
              have hnltI : ¬ (2 : Int) < (p.kids.length : Int) := by omega
              obtain ⟨a, b, rfl⟩ : ∃ a b, xs = [a, b] := by
                match xs, hn2 with
                | [a, b], _ => exact ⟨a, b, rfl⟩
              clear hn2
              have ha := Hrg.out a (by simp)
              have hb := Hrg.out b (by simp)
              obtain ⟨bv, ov, hAv, hBv, cv0⟩ := hsv.sl.at1 (i := 0) (by simp)
              obtain ⟨bv', ov', hAv', hBv', cv1⟩ := hsv.sl.at1 (i := 1) (by simp)
              rw [hAv] at hAv'
              cases hAv'
              subst hAv
              have cv0' : wr.cell? ⟨bv, ov, none⟩ = some (.int .i64 a) := by simpa using cv0
              have cv1' : wr.cell? ⟨bv, ov + 1, none⟩ = some (.int .i64 b) := by simpa using cv1
              have V0 := fun z : Aft wr.heap.size wr => z.cell hBv cv0'
              have V1 := fun z : Aft wr.heap.size wr => z.cell hBv cv1'
              clear cv0 cv1
              have hel : p.exprs.length = 1 := by have := Hof.out.2.2.1; rw [hk] at this; simp [nexprs] at this; omega
              have HEl := Lib.hid hel
              obtain ⟨e0, he0⟩ : ∃ e0, p.exprs = [e0] := List.length_eq_one_iff.1 hel
              have hE := HE.out wr HB.out
              rw [he0] at hE
              obtain ⟨be, oe, ge, hAe, hBe, ⟨g0, g1, g2, g3, g4⟩, hge⟩ := hE.at_ (i := 0) (by simp)
              simp only [Nat.zero_mul, Nat.add_zero, List.getElem_cons_zero] at g0 g1 g2 g3 g4 hge
              have P2 := fun z : Aft wr.heap.size wr => (BX.out z.v (bch HB.out z.h)).2.2.1
              rw [hAe, he0] at c2 P2
              simp only [List.length_singleton] at c2 P2
              have G0 := fun z : Aft wr.heap.size wr => z.cell hBe g0
              have G1 := fun z : Aft wr.heap.size wr => z.cell hBe g1
              have G2 := fun z : Aft wr.heap.size wr => z.cell hBe g2
              have G3 := fun z : Aft wr.heap.size wr => z.cell hBe g3
              have G4 := fun z : Aft wr.heap.size wr => z.cell hBe g4
              have hT := HT.out
              rw [topW45 (.inl hk), he0] at hT
              rw [hk] at c0
              obtain ⟨q, hq⟩ := bool_of (P := EOk (a + b) e0)
              have HV := Lib.hid (fun z : Aft wr.heap.size wr => specValidExpr_ok e0 ge (a + b) z.v q (hge.on z.h) hq)
              unfold feV at HV
              have hsum : (a + b : Int) ≤ 12 ∧ 0 ≤ a + b := by omega
              by_cases h6 : a + b ≤ 6
              · have Hz := Lib.hid (show R = if q = true then a + b else 0 by
                  rw [← hT]
                  by_cases h0 : EOk (a + b) e0
                  · rw [if_pos ⟨h6, by simpa using h0⟩, if_pos (hq.2 h0)]
                    rfl
                  · rw [if_neg (fun h1 => h0 (by simpa using h1.2)), if_neg (fun h1 => h0 (hq.1 h1))])
                clear hq hT hk he0 hE hel hge hAe g0 g1 g2 g3 g4 hsv
                go_wp2
                refine wp_region_aft wr.heap.size (by kernel_rfl) (by kernel_rfl) ?_
                repeat (go_big_quiet_step ((go_at_call 55; exact Calls.aft (Nat.le_refl _) (HV.out _))))
                refine wpQuiet_nil ?_
                intro w5 hw'
                obtain ⟨⟨_, hb5⟩, rfl⟩ := hw'
                have V5 := V0 ⟨w5, hb5⟩
                have V6 := V1 ⟨w5, hb5⟩
                cases q
                · go_wp2
                  go_ret
                  exact ⟨ret_int (by simpa using Hz.out.symm), bch HBr.out hb5⟩
                · have hs5 := hb5.size
                  have V50 := fun z : Aft w5.heap.size w5 => z.cell (by omega) V5
                  have V60 := fun z : Aft w5.heap.size w5 => z.cell (by omega) V6
                  have HB5 := Lib.hid (bch HBr.out hb5)
                  clear hb5 V5 V6
                  go_wp2
                  refine wp_region_aft w5.heap.size (by kernel_rfl) (by kernel_rfl) ?_
                  repeat (go_big_quiet_step ((go_at_call 55; exact Calls.aft (Nat.le_refl _) (HV.out _))))
                  refine wpQuiet_nil ?_
                  intro w6 hw'
                  obtain ⟨⟨_, hb6⟩, rfl⟩ := hw'
                  go_wp2
                  go_ret
                  exact ⟨ret_int (by simpa using Hz.out.symm), bch HB5.out hb6⟩
              · have Hz := Lib.hid (show R = 0 by rw [← hT, if_neg (fun h1 => h6 h1.1)])
                clear hq hT hk he0 hE hel hge hAe g0 g1 g2 g3 g4 hsv HV
                have h6' : (decide (a + b ≤ 6)) = false := by simpa using h6
                go_wp2
                refine wp_region_aft wr.heap.size (by kernel_rfl) (by kernel_rfl) ?_
                repeat (go_big_quiet_step ((go_at_call 55; exact Calls.aft (Nat.le_refl _) (nothing))))
                refine wpQuiet_nil ?_
                intro w5 hw'
                obtain ⟨⟨_, hb5⟩, rfl⟩ := hw'
                go_wp2
                go_ret
                exact ⟨ret_int Hz.out.symm, bch HBr.out hb5⟩
            · have hn2 : xs.length = 2 := by have := Hof.out.2.1; rw [hk] at this; simp [nkids] at this; omega
              rw [hn2]
              have hnlt : ¬ 2 < p.kids.length := by omega
              have hnltI : ¬ (2 : Int) < (p.kids.length : Int) := by omega
              obtain ⟨a, b, rfl⟩ : ∃ a b, xs = [a, b] := by
                match xs, hn2 with
                | [a, b], _ => exact ⟨a, b, rfl⟩
              clear hn2
              have ha := Hrg.out a (by simp)
              have hb := Hrg.out b (by simp)
              obtain ⟨bv, ov, hAv, hBv, cv0⟩ := hsv.sl.at1 (i := 0) (by simp)
              obtain ⟨bv', ov', hAv', hBv', cv1⟩ := hsv.sl.at1 (i := 1) (by simp)
              rw [hAv] at hAv'
              cases hAv'
              subst hAv
              have cv0' : wr.cell? ⟨bv, ov, none⟩ = some (.int .i64 a) := by simpa using cv0
              have cv1' : wr.cell? ⟨bv, ov + 1, none⟩ = some (.int .i64 b) := by simpa using cv1
              have V0 := fun z : Aft wr.heap.size wr => z.cell hBv cv0'
              have V1 := fun z : Aft wr.heap.size wr => z.cell hBv cv1'
              clear cv0 cv1
              have hel : p.exprs.length = 1 := by have := Hof.out.2.2.1; rw [hk] at this; simp [nexprs] at this; omega
              have HEl := Lib.hid hel
              obtain ⟨e0, he0⟩ : ∃ e0, p.exprs = [e0] := List.length_eq_one_iff.1 hel
              have hE := HE.out wr HB.out
              rw [he0] at hE
              obtain ⟨be, oe, ge, hAe, hBe, ⟨g0, g1, g2, g3, g4⟩, hge⟩ := hE.at_ (i := 0) (by simp)
              simp only [Nat.zero_mul, Nat.add_zero, List.getElem_cons_zero] at g0 g1 g2 g3 g4 hge
              have P2 := fun z : Aft wr.heap.size wr => (BX.out z.v (bch HB.out z.h)).2.2.1
              rw [hAe, he0] at c2 P2
              simp only [List.length_singleton] at c2 P2
              have G0 := fun z : Aft wr.heap.size wr => z.cell hBe g0
              have G1 := fun z : Aft wr.heap.size wr => z.cell hBe g1
              have G2 := fun z : Aft wr.heap.size wr => z.cell hBe g2
              have G3 := fun z : Aft wr.heap.size wr => z.cell hBe g3
              have G4 := fun z : Aft wr.heap.size wr => z.cell hBe g4
              have hT := HT.out
              rw [topW45 (.inr hk), he0] at hT
              rw [hk] at c0
              obtain ⟨q, hq⟩ := bool_of (P := EOk (a + b) e0)
              have HV := Lib.hid (fun z : Aft wr.heap.size wr => specValidExpr_ok e0 ge (a + b) z.v q (hge.on z.h) hq)
              unfold feV at HV
              have hsum : (a + b : Int) ≤ 12 ∧ 0 ≤ a + b := by omega
              by_cases h6 : a + b ≤ 6
              · have Hz := Lib.hid (show R = if q = true then a + b else 0 by
                  rw [← hT]
                  by_cases h0 : EOk (a + b) e0
                  · rw [if_pos ⟨h6, by simpa using h0⟩, if_pos (hq.2 h0)]
                    rfl
                  · rw [if_neg (fun h1 => h0 (by simpa using h1.2)), if_neg (fun h1 => h0 (hq.1 h1))])
                clear hq hT hk he0 hE hel hge hAe g0 g1 g2 g3 g4 hsv
                go_wp2
                refine wp_region_aft wr.heap.size (by kernel_rfl) (by kernel_rfl) ?_
                repeat (go_big_quiet_step ((go_at_call 55; exact Calls.aft (Nat.le_refl _) (HV.out _))))
                refine wpQuiet_nil ?_
                intro w5 hw'
                obtain ⟨⟨_, hb5⟩, rfl⟩ := hw'
                have V5 := V0 ⟨w5, hb5⟩
                have V6 := V1 ⟨w5, hb5⟩
                cases q
                · go_wp2
                  go_ret
                  exact ⟨ret_int (by simpa using Hz.out.symm), bch HBr.out hb5⟩
                · have hs5 := hb5.size
                  have V50 := fun z : Aft w5.heap.size w5 => z.cell (by omega) V5
                  have V60 := fun z : Aft w5.heap.size w5 => z.cell (by omega) V6
                  have HB5 := Lib.hid (bch HBr.out hb5)
                  clear hb5 V5 V6
                  go_wp2
                  refine wp_region_aft w5.heap.size (by kernel_rfl) (by kernel_rfl) ?_
                  repeat (go_big_quiet_step ((go_at_call 55; exact Calls.aft (Nat.le_refl _) (HV.out _))))
                  refine wpQuiet_nil ?_
                  intro w6 hw'
                  obtain ⟨⟨_, hb6⟩, rfl⟩ := hw'
                  go_wp2
                  go_ret
                  exact ⟨ret_int (by simpa using Hz.out.symm), bch HB5.out hb6⟩
              · have Hz := Lib.hid (show R = 0 by rw [← hT, if_neg (fun h1 => h6 h1.1)])
                clear hq hT hk he0 hE hel hge hAe g0 g1 g2 g3 g4 hsv HV
                have h6' : (decide (a + b ≤ 6)) = false := by simpa using h6
                go_wp2
                refine wp_region_aft wr.heap.size (by kernel_rfl) (by kernel_rfl) ?_
                repeat (go_big_quiet_step ((go_at_call 55; exact Calls.aft (Nat.le_refl _) (nothing))))
                refine wpQuiet_nil ?_
                intro w5 hw'
                obtain ⟨⟨_, hb5⟩, rfl⟩ := hw'
                go_wp2
                go_ret
                exact ⟨ret_int Hz.out.symm, bch HBr.out hb5⟩
            · have hn2 : xs.length = 2 := by have := Hof.out.2.1; rw [hk] at this; simp [nkids] at this; omega
              rw [hn2]
              have hnlt : ¬ 2 < p.kids.length := by omega
              have hnltI : ¬ (2 : Int) < (p.kids.length : Int) := by omega
              obtain ⟨a, b, rfl⟩ : ∃ a b, xs = [a, b] := by
                match xs, hn2 with
                | [a, b], _ => exact ⟨a, b, rfl⟩
              clear hn2
              have ha := Hrg.out a (by simp)
              have hb := Hrg.out b (by simp)
              obtain ⟨bv, ov, hAv, hBv, cv0⟩ := hsv.sl.at1 (i := 0) (by simp)
              obtain ⟨bv', ov', hAv', hBv', cv1⟩ := hsv.sl.at1 (i := 1) (by simp)
              rw [hAv] at hAv'
              cases hAv'
              subst hAv
              have cv0' : wr.cell? ⟨bv, ov, none⟩ = some (.int .i64 a) := by simpa using cv0
              have cv1' : wr.cell? ⟨bv, ov + 1, none⟩ = some (.int .i64 b) := by simpa using cv1
              have V0 := fun z : Aft wr.heap.size wr => z.cell hBv cv0'
              have V1 := fun z : Aft wr.heap.size wr => z.cell hBv cv1'
              clear cv0 cv1
              have hT := HT.out
              rw [topW6 hk] at hT
              rw [hk] at c0
              by_cases hab : a = b
              · have Hz := Lib.hid (show R = a by rw [← hT, if_pos (by simpa using hab)]; rfl)
                have hab' : (a == b) = true := by simpa using hab
                clear hT hk hsv hab
                go_wp2
                refine wp_region_aft wr.heap.size (by kernel_rfl) (by kernel_rfl) ?_
                repeat (go_big_quiet_step ((go_at_call 55; exact Calls.aft (Nat.le_refl _) (HV.out _))))
                refine wpQuiet_nil ?_
                intro w5 hw'
                obtain ⟨⟨_, hb5⟩, rfl⟩ := hw'
                have V5 := V0 ⟨w5, hb5⟩
                go_wp2
                go_ret
                exact ⟨ret_int Hz.out.symm, bch HBr.out hb5⟩
              · have Hz := Lib.hid (show R = 0 by rw [← hT, if_neg (by simpa using hab)])
                have hab' : (a == b) = false := by simpa using hab
                clear hT hk hsv hab
                go_wp2
                refine wp_region_aft wr.heap.size (by kernel_rfl) (by kernel_rfl) ?_
                repeat (go_big_quiet_step ((go_at_call 55; exact Calls.aft (Nat.le_refl _) (HV.out _))))
                refine wpQuiet_nil ?_
                intro w5 hw'
                obtain ⟨⟨_, hb5⟩, rfl⟩ := hw'
                go_wp2
                go_ret
                exact ⟨ret_int Hz.out.symm, bch HBr.out hb5⟩
            · have hn1 : xs.length = 1 := by have := Hof.out.2.1; rw [hk] at this; simp [nkids] at this; omega
              rw [hn1]
              have hnlt : ¬ 1 < p.kids.length := by omega
              have hnltI : ¬ (1 : Int) < (p.kids.length : Int) := by omega
              obtain ⟨a, rfl⟩ : ∃ a, xs = [a] := List.length_eq_one_iff.1 hn1
              clear hn1
              have ha := Hrg.out a (by simp)
              obtain ⟨bv, ov, hAv, hBv, cv0⟩ := hsv.sl.at1 (i := 0) (by simp)
              subst hAv
              have cv0' : wr.cell? ⟨bv, ov, none⟩ = some (.int .i64 a) := by simpa using cv0
              have V0 := fun z : Aft wr.heap.size wr => z.cell hBv cv0'
              clear cv0
              have hT := HT.out
              rw [topW7 hk] at hT
              rw [hk] at c0
              have Hz := Lib.hid (show R = a from hT.symm)
              clear hT hk hsv
              go_wp2
              go_ret
              exact ⟨ret_int Hz.out.symm, HBr.out⟩
            · have hn1 : xs.length = 1 := by have := Hof.out.2.1; rw [hk] at this; simp [nkids] at this; omega
              rw [hn1]
              have hnlt : ¬ 1 < p.kids.length := by omega
              have hnltI : ¬ (1 : Int) < (p.kids.length : Int) := by omega
              obtain ⟨a, rfl⟩ : ∃ a, xs = [a] := List.length_eq_one_iff.1 hn1
              clear hn1
              have ha := Hrg.out a (by simp)
              obtain ⟨bv, ov, hAv, hBv, cv0⟩ := hsv.sl.at1 (i := 0) (by simp)
              subst hAv
              have cv0' : wr.cell? ⟨bv, ov, none⟩ = some (.int .i64 a) := by simpa using cv0
              have V0 := fun z : Aft wr.heap.size wr => z.cell hBv cv0'
              clear cv0
              have P3 := fun z : Aft wr.heap.size wr => (BX.out z.v (bch HB.out z.h)).2.2.2.1
              have hT := HT.out
              rw [topW8 hk] at hT
              rw [hk] at c0
              obtain ⟨q, hq⟩ := bool_of (P := ColsOk p.cols a)
              have HV := Lib.hid (fun z : Aft wr.heap.size wr => validCols_ok p.cols f.cs.A f.cs.c a z.v q (by omega) (by omega) (by unfold maxLen; exact hx3) ((HC.out wr HB.out).on z.h) hq)
              have Hz := Lib.hid (show R = if q = true ∧ p.cols.length < 6 then (p.cols.length : Int) + 1 else 0 by
                rw [← hT]
                by_cases h0 : ColsOk p.cols a ∧ p.cols.length < 6
                · rw [if_pos (by exact h0), if_pos ⟨hq.2 h0.1, h0.2⟩]
                · rw [if_neg (by exact h0), if_neg (fun h1 => h0 ⟨hq.1 h1.1, h1.2⟩)])
              clear hq hT hk hsv
              cases q
              · go_wp2
                refine wp_region_aft wr.heap.size (by kernel_rfl) (by kernel_rfl) ?_
                repeat (go_big_quiet_step ((go_at_call 57; exact Calls.aft (Nat.le_refl _) (HV.out _))))
                refine wpQuiet_nil ?_
                intro w5 hw'
                obtain ⟨⟨_, hb5⟩, rfl⟩ := hw'
                go_wp2
                go_ret
                exact ⟨ret_int (by simpa using Hz.out.symm), bch HBr.out hb5⟩
              · by_cases h6 : p.cols.length < 6
                · have Hz6 := Lib.hid (show R = (p.cols.length : Int) + 1 by rw [Hz.out, if_pos ⟨by rfl, h6⟩])
                  have h6I : (p.cols.length : Int) < 6 := by omega
                  go_wp2
                  refine wp_region_aft wr.heap.size (by kernel_rfl) (by kernel_rfl) ?_
                  repeat (go_big_quiet_step ((go_at_call 57; exact Calls.aft (Nat.le_refl _) (HV.out _))))
                  refine wpQuiet_nil ?_
                  intro w5 hw'
                  obtain ⟨⟨_, hb5⟩, rfl⟩ := hw'
                  have P5 := P3 ⟨w5, hb5⟩
                  go_wp2
                  go_ret
                  exact ⟨ret_int Hz6.out.symm, bch HBr.out hb5⟩
                · have Hz6 := Lib.hid (show R = 0 by rw [Hz.out, if_neg fun h1 => h6 h1.2])
                  have h6I : ¬ (p.cols.length : Int) < 6 := by omega
                  go_wp2
                  refine wp_region_aft wr.heap.size (by kernel_rfl) (by kernel_rfl) ?_
                  repeat (go_big_quiet_step ((go_at_call 57; exact Calls.aft (Nat.le_refl _) (HV.out _))))
                  refine wpQuiet_nil ?_
                  intro w5 hw'
                  obtain ⟨⟨_, hb5⟩, rfl⟩ := hw'
                  go_wp2
                  go_ret
                  exact ⟨ret_int Hz6.out.symm, bch HBr.out hb5⟩

open Classical in
/-- The width of a plan for widths that may be invalid. -/
noncomputable def widthP (ws : List Int) (p : Pl) : Int := if WsOk ws then plW ws 8 p else 0

set_option maxRecDepth 20000 in
set_option maxHeartbeats 1000000 in
theorem widthOf_ok (p : Pl) (f : FP) (ws : List Int) (A : Option Addr) (c : Nat) (w : World) (R : Int) (h : PlIn w w.heap.size f p) (hwl : ws.length ≤ maxLen) (hsl : Sl 1 intC w w.heap.size A ws) (hr : widthP ws p = R) :
    Calls Try.prog 17 #[fpV f, .slice A ws.length c] w fun e w' => e = .returned (.int .i64 R) ∧ Below w.heap.size w w' := by
  obtain ⟨W1, hW1⟩ : ∃ z, w.alloc (.cells #[.int .i64 f.kind, .int .i64 f.table, .slice f.es.A f.es.n f.es.c, .slice f.cs.A f.cs.n f.cs.c, .slice f.ks.A f.ks.n f.ks.c] 27) = z := ⟨_, rfl⟩
  have B1 : Below w.heap.size w W1 := by rw [← hW1]; exact balloc (Below.refl _ _) _
  have r1 : Row W1 w.heap.size 27 [.int .i64 f.kind, .int .i64 f.table, .slice f.es.A f.es.n f.es.c, .slice f.cs.A f.cs.n f.cs.c, .slice f.ks.A f.ks.n f.ks.c] := by rw [← hW1]; exact Row.new _ _ _
  obtain ⟨q, hq⟩ := bool_of (P := WsOk ws)
  have HV := Lib.hid (specValidWidths_ok ws A c W1 q hwl (hsl.on B1) hq)
  have Hq := Lib.hid hq
  have HW1 := Lib.hid hW1
  have HB1 := Lib.hid B1
  have HR := Lib.hid hr
  have Hrow := Lib.hid r1
  have HP := Lib.hid (fun (z : World) (hz : Below w.heap.size w z) => And.intro (h.on hz) (hsl.on hz))
  have Hwl := Lib.hid hwl
  unfold fpV
  clear hq hW1 B1 hr r1 h hsl hwl
  cases q
  · have Hz := Lib.hid (show R = 0 by rw [← HR.out]; unfold widthP; rw [if_neg fun ho => by have := Hq.out.2 ho; cases this])
    go_enter Try.func17, Try.ntmps17
    go_upto_region 1 with fail
    rw [HW1.out]
    go_wp2_with fail
    refine HV.out.mono ?_
    rintro e w3 ⟨rfl, hb3⟩
    go_wp2
    go_ret
    exact ⟨ret_int Hz.out.symm, bch HB1.out hb3⟩
  · have hws : WsOk ws := Hq.out.1 rfl
    have HX := Lib.hid (fun (z : World) (hz : Below w.heap.size w z) => planWidth_ok p f ws A c 8 z R (HP.out z hz).1 hws.2 Hwl.out (HP.out z hz).2 (by omega) (by rw [← HR.out]; unfold widthP; rw [if_pos hws]))
    unfold fpV at HX
    clear hws
    go_enter Try.func17, Try.ntmps17
    go_upto_region 1 with fail
    rw [HW1.out]
    go_wp2_with fail
    refine HV.out.mono ?_
    rintro e w3 ⟨rfl, hb3⟩
    have HB3 := Lib.hid (bch HB1.out hb3)
    have hrow := Hrow.out.on hb3
    have c0 : w3.cell? ⟨w.heap.size, 0, none⟩ = some (.int .i64 f.kind) := hrow.cell 0
    have c1 : w3.cell? ⟨w.heap.size, 1, none⟩ = some (.int .i64 f.table) := hrow.cell 1
    have c2 : w3.cell? ⟨w.heap.size, 2, none⟩ = some (.slice f.es.A f.es.n f.es.c) := hrow.cell 2
    have c3 : w3.cell? ⟨w.heap.size, 3, none⟩ = some (.slice f.cs.A f.cs.n f.cs.c) := hrow.cell 3
    have c4 : w3.cell? ⟨w.heap.size, 4, none⟩ = some (.slice f.ks.A f.ks.n f.ks.c) := hrow.cell 4
    clear hb3 hrow
    go_wp2_with fail
    refine (HX.out w3 HB3.out).mono ?_
    rintro e w4 ⟨rfl, hb4⟩
    go_wp2
    go_ret
    exact ⟨rfl, bch HB3.out hb4⟩
end Go.Proofs.Ytcbfbgngkdiijaa
