/-
  Contract of IndexOf: the reference's. (Printed by idxs.py.)
-/
import Derived.Test.YtlhonhacehgooaaGreatProg
import Derived.Test.YtlhonhacehgooaaGreatZjIdx
namespace Go.Proofs.YtlhonhacehgooaaGreat
open Go.RowKit Go.Qo
set_option linter.unusedVariables false
set_option linter.unusedSimpArgs false

theorem owI_sl {lo : Nat} {w : World} {A : Option Addr} {n c : Nat} {xs : List Int} (h : Ow lo 3 1 intC w (.slice A n c) xs) : Sl 1 intC w w.heap.size A xs := by
  obtain ⟨A2, c2, e, _, _, h2⟩ := h.shape intC_length
  injection e with e1 e2 e3
  subst e1
  exact h2.sl
set_option maxRecDepth 20000 in
set_option maxHeartbeats 4000000 in
theorem specIndexOf_ok (W col : Int) (A : Option Addr) (c : Nat) (rows : List Row1) (w : World) (hn : rows.length ≤ 1048576) (h : Rws w w.heap.size A rows) (q : Bool) (hq : q = true ↔ (TabOk W rows ∧ 0 ≤ col ∧ col < W)) :
    Calls Tryz.prog 65 #[.agg #[.int .i64 W, .slice A rows.length c], .int .i64 col] w (IntRes (if q then idxOf rows col.toNat else []) w) := by
  obtain ⟨W0, hW0⟩ : ∃ z, (w.alloc (.cells #[.int .i64 W, .slice A rows.length c] 32)).alloc (.cells #[] 3) = z := ⟨_, rfl⟩
  have B0 : Below w.heap.size w W0 := by rw [← hW0]; exact balloc (balloc (Below.refl _ _) _) _
  have r0 : Row W0 w.heap.size 32 [.int .i64 W, .slice A rows.length c] := by rw [← hW0]; exact Row.first _ _ _ _
  have o0 : Ow w.heap.size 3 1 intC W0 (.slice (some ⟨w.heap.size + 1, 0, none⟩) 0 0) [] := by
    have h1 := Ow.lit (w := w.alloc (.cells #[.int .i64 W, .slice A rows.length c] 32)) (lo := w.heap.size) (e := 3) (enc := intC) (xs := ([] : List Int)) (cs := #[]) (sz := 1) rfl rfl (by simp) (by decide)
    rw [World.size_alloc] at h1
    rw [← hW0]; exact h1
  have HW := Lib.hid hW0
  have HB0 := Lib.hid (And.intro B0 (And.intro r0 o0))
  obtain ⟨t, ht⟩ : ∃ t : Bool, t = true ↔ TabOk W rows := ⟨_, @decide_eq_true_iff _ (Classical.propDecidable _)⟩
  have HT := Lib.hid (specValidTable_ok W A c rows W0 (by unfold maxLen; omega) (h.on B0) t ht)
  have Ht := Lib.hid ht
  have HH := Lib.hid h
  have Hq := Lib.hid hq
  have a0 : W0.cell? ⟨w.heap.size, 0, none⟩ = some (.int .i64 W) := r0.cell 0
  have a1 : W0.cell? ⟨w.heap.size, 1, none⟩ = some (.slice A rows.length c) := r0.cell 1
  clear hW0 B0 r0 o0 h hq ht
  cases t
  · have hf : q = false := bfalse Hq.out fun ht => by have := Ht.out.2 ht.1; cases this
    subst hf
    go_enter Tryz.func65, Tryz.ntmps65
    go_upto_region 2 with fail
    rw [HW.out]
    go_wp2_with fail
    refine HT.out.mono ?_
    rintro e w1 ⟨rfl, hb1⟩
    have H1 := Lib.hid (bch HB0.out.1 hb1)
    clear hb1 a0 a1
    go_wp2
    go_ret
    exact ⟨_, rfl, Ow.nil, H1.out⟩
  · have hto := Ht.out.1 rfl
    have Hto := Lib.hid hto
    have hW1 := hto.1
    have hW6 : W ≤ 6 := hto.2.1
    have hn4 : rows.length ≤ 400 := hto.2.2.1
    have Hr := Lib.hid (tabRows1 hto)
    clear hto
    obtain ⟨q1, hq1⟩ : ∃ q1, (decide ((0 : Int) ≤ col) && decide (col ≤ W - 1)) = q1 := ⟨_, rfl⟩
    have HI1 := Lib.hid (fun w => inRange_ok col 0 (W - 1) w q1 hq1)
    have Hq1 := Lib.hid hq1
    clear hq1
    cases q1
    · have hf : q = false := bfalse Hq.out fun ht => by have h1 := Hq1.out; have h2 := ht.2; simp at h1; omega
      subst hf
      go_enter Tryz.func65, Tryz.ntmps65
      go_upto_region 2 with fail
      rw [HW.out]
      go_wp2_with fail
      refine HT.out.mono ?_
      rintro e w1 ⟨rfl, hb1⟩
      have H1 := Lib.hid (bch HB0.out.1 hb1)
      have a0 : w1.cell? ⟨w.heap.size, 0, none⟩ = some (.int .i64 W) := (HB0.out.2.1.on hb1).cell 0
      clear hb1 a1
      go_wp2_with fail
      refine (HI1.out _).mono ?_
      rintro e w2 ⟨rfl, rfl⟩
      go_wp2
      go_ret
      exact ⟨_, rfl, Ow.nil, H1.out⟩
    · have hcc : 0 ≤ col ∧ col < W := by have h1 := Hq1.out; simp at h1; omega
      have hf : q = true := Hq.out.2 ⟨Hto.out, hcc⟩
      subst hf
      obtain ⟨cn, rfl⟩ := Int.eq_ofNat_of_zero_le hcc.1
      have hcW : (cn : Int) < W := hcc.2
      clear hcc
      have hc6 : cn ≤ 6 := by omega
      go_enter Tryz.func65, Tryz.ntmps65
      go_upto_region 2 with fail
      rw [HW.out]
      go_wp2_with fail
      refine HT.out.mono ?_
      rintro e w1 ⟨rfl, hb1⟩
      have a0 : w1.cell? ⟨w.heap.size, 0, none⟩ = some (.int .i64 W) := (HB0.out.2.1.on hb1).cell 0
      have H1 := Lib.hid hb1
      clear hb1 a1
      go_wp2_with fail
      refine (HI1.out _).mono ?_
      rintro e wb ⟨rfl, rfl⟩
      obtain ⟨wb, hwb⟩ : ∃ wb : World, wb = w1 := ⟨_, rfl⟩
      subst hwb
      have HX := Lib.hid (show Below w.heap.size w wb ∧ Row wb w.heap.size 32 [.int .i64 W, .slice A rows.length c] ∧ Ow w.heap.size 3 1 intC wb (.slice (some ⟨w.heap.size + 1, 0, none⟩) 0 0) [] from ⟨bch HB0.out.1 H1.out, HB0.out.2.1.on H1.out, HB0.out.2.2.on H1.out⟩)
      have hzb : w.heap.size < wb.heap.size := HX.out.2.1.lt
      clear a0
      go_wp2
      go_loopg [5, 6] rows.length (fun g v5 iv wr => ∃ k : Nat, k ≤ rows.length ∧ g = rows.length - k ∧ iv = .int .i64 k ∧ Below wb.heap.size wb wr ∧ Ow w.heap.size 3 1 intC wr v5 (gSort (cAt rows cn) (idxTo rows cn k)))
      case atStart => exact ⟨0, by omega, by omega, rfl, Below.refl _ _, HX.out.2.2⟩
      case round =>
        obtain ⟨k, hk, rfl, rfl, hb, how⟩ := hrel
        obtain ⟨out, hout⟩ : ∃ out, gSort (cAt rows cn) (idxTo rows cn k) = out := ⟨_, rfl⟩
        have hol : out.length ≤ k := by rw [← hout, gSort_length]; exact idxTo_len k
        have hoi : ∀ i ∈ out, InR k i := by rw [← hout]; exact idxS_in (Nat.le_refl _)
        rw [hout] at how
        have Hout := Lib.hid hout
        have Hoi := Lib.hid hoi
        have HB := Lib.hid hb
        have hsz := hb.size
        have a1 : wr.cell? ⟨w.heap.size, 1, none⟩ = some (.slice A rows.length c) := (HX.out.2.1.on hb).cell 1
        obtain ⟨A5, c5, rfl, hc51, hc52, _⟩ := how.shape intC_length
        have HO := Lib.hid how
        clear hout hoi how
        by_cases hlt : k < rows.length
        · obtain ⟨b3, off3, A3, C3, hA3, hB3, c3, _, _, s3⟩ := (HH.out.on (bch HX.out.1 hb)).at_ hlt
          have hx := Lib.hid (List.getElem?_eq_getElem hlt)
          have hxo := Hr.out _ (List.getElem_mem hlt)
          generalize rows[k] = x at *
          subst hA3
          have hx6 := (rowValid_len hxo.1).2
          have hcx : cn < x.length := by have := hxo.2; omega
          obtain ⟨b4, o4, hA4, hB4, d0, d1⟩ := Val.at_ s3 hcx
          subst hA4
          have HV := Lib.hid (nul_eq hx.out (List.getElem?_eq_getElem hcx))
          have HNA := Lib.hid (nAt_eq hx.out (List.getElem?_eq_getElem hcx))
          generalize x[cn] = u at *
          obtain ⟨un, n⟩ := u
          dsimp only at HV HNA d0 d1
          have hcx5 : (cn : Int) < (x.length : Int) := by omega
          have hlt5 : (k : Int) < (rows.length : Int) := by omega
          clear hb hxo s3
          cases un
          · obtain ⟨wo, hwo⟩ : ∃ wo : World, wo = wr := ⟨_, rfl⟩
            subst hwo
            have HCK := Lib.hid (And.intro c3 (And.intro d0 d1))
            have HBK := Lib.hid (And.intro hB3 hB4)
            go_wp2
            go_loopg [7] out.length (fun jn j wr => jn ≤ out.length ∧ j = .int .i64 jn ∧ Below wo.heap.size wo wr ∧ ∀ (i : Nat) (y : Int), jn ≤ i → out[i]? = some y → cAt rows cn (k : Int) y < 0)
            case atStart => exact ⟨Nat.le_refl _, rfl, Below.refl _ _, fun i y hi hy => by have := (List.getElem?_eq_some_iff.1 hy).1; omega⟩
            case round =>
              obtain ⟨hjk, rfl, hbi, hp⟩ := hrel
              obtain ⟨jn, hgj⟩ : ∃ j, j = gk := ⟨_, rfl⟩
              subst hgj
              have Hp := Lib.hid hp
              have HBI := Lib.hid hbi
              have HJL := Lib.hid hjk
              clear hp
              have hjc : jn ≤ c5 := by omega
              by_cases h0 : 0 < jn
              · have hj0 : (0 : Int) < (jn : Int) := by omega
                have hjo : jn - 1 < out.length := by omega
                have i5 : (jn : Int) - 1 < (out.length : Int) := by omega
                obtain ⟨g3, o3, hA3, hBg, hc3⟩ := (owI_sl (HO.out.on hbi)).at_ hjo
                have hA3 : A5 = some ⟨g3, o3, none⟩ := hA3
                subst hA3
                have hye := Lib.hid (List.getElem?_eq_getElem hjo)
                have hyi := Hoi.out _ (List.getElem_mem hjo)
                have e1 : wr.cell? ⟨g3, o3 + (jn - 1), none⟩ = some (.int .i64 out[jn - 1]) := by have := hc3 0 _ rfl; simpa using this
                generalize out[jn - 1] = yi at *
                obtain ⟨y, rfl⟩ := Int.eq_ofNat_of_zero_le hyi.1
                have hyk : y < k := by have := hyi.2; omega
                have hyr : y < rows.length := by omega
                obtain ⟨b6, o6, A6, C6, hA6, hB6, c6, _, _, s6⟩ := (HH.out.on (bch HX.out.1 (bch HB.out hbi))).at_ hyr
                cases hA6
                have hx2 := Lib.hid (List.getElem?_eq_getElem hyr)
                have hxo2 := Hr.out _ (List.getElem_mem hyr)
                generalize rows[y] = z at *
                have hz6 := (rowValid_len hxo2.1).2
                have hcz : cn < z.length := by have := hxo2.2; omega
                obtain ⟨b7, o7, hA7, hB7, d70, d71⟩ := Val.at_ s6 hcz
                subst hA7
                have HNY := Lib.hid (nAt_eq hx2.out (List.getElem?_eq_getElem hcz))
                generalize z[cn] = u2 at *
                obtain ⟨un2, n2⟩ := u2
                dsimp only at HNY d71
                have hcz5 : (cn : Int) < (z.length : Int) := by omega
                have hyr5 : (y : Int) < (rows.length : Int) := by omega
                have a1' : wr.cell? ⟨w.heap.size, 1, none⟩ = some (.slice (some ⟨b3, off3, none⟩) rows.length c) := (HX.out.2.1.on (bch HB.out hbi)).cell 1
                have c3' : wr.cell? ⟨b3, off3 + k, none⟩ = some (.slice (some ⟨b4, o4, none⟩) x.length C3) := (hbi.cell (p := ⟨b3, _, none⟩) hB3).trans HCK.out.1
                have d1' : wr.cell? ⟨b4, o4 + cn * 2 + 1, none⟩ = some (.int .i64 n) := (hbi.cell (p := ⟨b4, _, none⟩) hB4).trans HCK.out.2.2
                have f0 := fun z : Aft wr.heap.size wr => z.cell (by have := hbi.size; omega) a1'
                have f1 := fun z : Aft wr.heap.size wr => z.cell hBg e1
                have f2 := fun z : Aft wr.heap.size wr => z.cell hB6 c6
                have f3 := fun z : Aft wr.heap.size wr => z.cell hB7 d71
                have f4 := fun z : Aft wr.heap.size wr => z.cell (by have := hbi.size; omega) c3'
                have f5 := fun z : Aft wr.heap.size wr => z.cell (by have := hbi.size; omega) d1'
                have i1 : IntKind.i64.wrap ((jn : Int) - 1) = (jn : Int) - 1 := IntWalk.i64_in _ (by omega)
                have i2 : ((jn : Int) - 1).toNat = jn - 1 := by omega
                have i3 : (0 : Int) ≤ (jn : Int) - 1 := by omega
                have hy4 : y ≤ 400 := by omega
                clear hyi hc3 c6 d70 d71 s6 hxo2 a1' c3' d1' e1
                by_cases hlt2 : n < n2
                · go_wp2
                  refine wp_region_aft wr.heap.size (by kernel_rfl) (by kernel_rfl) ?_
                  repeat (go_big_quiet_step (fail))
                  refine wpQuiet_nil ?_
                  intro w1 hw'
                  obtain ⟨⟨_, hb1⟩, rfl⟩ := hw'
                  go_wp2
                  go_roundg (jn - 1)
                  case measure => omega
                  case rel =>
                    refine ⟨by omega, congrArg (Value.int IntKind.i64) (by omega), bch HBI.out hb1, fun i z hi hz => ?_⟩
                    rcases Nat.lt_or_ge i jn with h3 | h3
                    · obtain rfl : i = jn - 1 := by omega
                      rw [hye.out] at hz; cases hz
                      unfold cAt; rw [iCmp_lt, HNA.out, HNY.out]; exact hlt2
                    · exact Hp.out i z h3 hz
                · have Hexit := Lib.hid (fun (z : Int) (hj : 0 < jn) (hz : out[jn - 1]? = some z) => show ¬ cAt rows cn (k : Int) z < 0 by rw [hye.out] at hz; cases hz; unfold cAt; rw [iCmp_lt, HNA.out, HNY.out]; omega)
                  go_wp2
                  refine wp_region_aft wr.heap.size (by kernel_rfl) (by kernel_rfl) ?_
                  repeat (go_big_quiet_step (fail))
                  refine wpQuiet_nil ?_
                  intro w1 hw'
                  obtain ⟨⟨_, hb1⟩, rfl⟩ := hw'
                  clear f0 f1 f2 f3 f4 f5
                  have B1 := Lib.hid (bch HBI.out hb1)
                  have hz1 := B1.out.size
                  have L0 := Lib.hid (Ow.lit (w := w1) (lo := w1.heap.size) (e := 3) (enc := intC) (xs := ([] : List Int)) (cs := #[]) (sz := 1) rfl rfl (Nat.le_refl _) (by decide))
                  have S1 := Lib.hid (((owI_sl (HO.out.on B1.out)).on (balloc (Below.refl _ _) (.cells #[] 3))).cut jn)
                  have hlt1 : (out.take jn).length = jn := by rw [List.length_take]; omega
                  have hsz1 : w1.heap.size ≤ (w1.alloc (.cells #[] 3)).heap.size := by simp
                  have ho4 : out.length ≤ 400 := by omega
                  have hld : (out.drop jn).length = out.length - jn := List.length_drop
                  go_wp2_with (at_builtin; first
                    | (refine wpList_app rfl (.tmp 68) (.tmp 71) 23 rfl w1.heap.size 3 _ 1 8 intC Tryz.underlying23 zeroIntI rfl (by decide) (by decide) intC_length intC_one _ ([] : List Int) rfl L0.out _ _ _ (out.take jn) rfl hlt1.symm S1.out (by simp <;> omega) hsz1 ?_; intro v1 w2 how1 hgr1; have B12 := Lib.hid ((balloc (Below.refl _ w1) _).grown hgr1 hsz1 fun k hk => (L0.out.ty k hk).1); have hz2 : w1.heap.size ≤ w2.heap.size := B12.out.size; have hsz2 : w1.heap.size ≤ (w2.alloc (.cells #[.int .i64 k] 3)).heap.size := (by simp; omega); have O1 := Lib.hid (how1.on (balloc (Below.refl _ w2) (.cells #[.int .i64 k] 3))); have S2 := Lib.hid (Row.sl' (w := w2.alloc (.cells #[.int .i64 k] 3)) (t := 3) (xs := [(k : Int)]) intC_length ((Row.new w2 _ _).of rfl)); clear how1 hgr1)
                    | (refine wpList_app rfl (.tmp 73) (.tmp 75) 23 rfl w1.heap.size 3 _ 1 8 intC Tryz.underlying23 zeroIntI rfl (by decide) (by decide) intC_length intC_one _ ([] ++ out.take jn) rfl O1.out (some ⟨w2.heap.size, 0, none⟩) 1 1 [(k : Int)] rfl rfl S2.out (by simp <;> omega) hsz2 ?_; intro v3 w4 how3 hgr3; have O3 := Lib.hid how3; have B14 := Lib.hid ((balloc B12.out (.cells #[.int .i64 k] 3)).grown hgr3 (by simp; omega) fun b hb => (O1.out.ty b hb).1); have hsz4 : w1.heap.size ≤ w4.heap.size := B14.out.size; have S3 := Lib.hid ((owI_sl (HO.out.on B1.out)).on B14.out); clear how3 hgr3)
                    | (refine wpList_app rfl (.tmp 77) (.tmp 80) 23 rfl w1.heap.size 3 _ 1 8 intC Tryz.underlying23 zeroIntI rfl (by decide) (by decide) intC_length intC_one _ (([] ++ out.take jn) ++ [(k : Int)]) rfl O3.out _ _ _ (out.drop jn) rfl (by simp <;> omega) (by refine Sl.from_ S3.out ?_; intro b off hA hl; cases hA; split <;> simp <;> omega) (by simp <;> omega) hsz4 ?_; intro v5 w6 how5 hgr5))
                  all_goals (
                    go_roundg (rows.length - (k + 1))
                    case measure => omega
                    case rel =>
                      have B6 : Below wo.heap.size wo w6 := (bch B1.out B14.out).grown hgr5 (by have := B14.out.size; omega) fun b hb => by have := (O3.out.ty b hb).1; omega
                      refine ⟨k + 1, by omega, rfl, by go_num, bch HB.out B6, ?_⟩
                      have hTe : gSort (cAt rows cn) (idxTo rows cn (k + 1)) = out.take jn ++ [(k : Int)] ++ out.drop jn := by
                        rw [idxS_succ, if_neg (by rw [HV.out]; simp), Hout.out]
                        exact gIns_at (cAt_cm (fun _ => True)) trivial (fun _ _ => trivial) (Hout.out ▸ gSort_ord (cAt_cm (fun _ => True)) (fun _ _ => trivial)) HJL.out Hp.out (fun z hj hz => by have := Hexit.out z hj hz; omega)
                      rw [hTe]
                      rw [List.nil_append] at how5
                      exact how5.low (by omega))
              · obtain rfl : jn = 0 := by omega
                have Hexit := Lib.hid (fun (z : Int) (hj : 0 < 0) (hz : out[0 - 1]? = some z) => show ¬ cAt rows cn (k : Int) z < 0 by omega)
                go_wp2
                refine wp_region_aft wr.heap.size (by kernel_rfl) (by kernel_rfl) ?_
                repeat (go_big_quiet_step (fail))
                refine wpQuiet_nil ?_
                intro w1 hw'
                obtain ⟨⟨_, hb1⟩, rfl⟩ := hw'
                have B1 := Lib.hid (bch HBI.out hb1)
                have hz1 := B1.out.size
                have L0 := Lib.hid (Ow.lit (w := w1) (lo := w1.heap.size) (e := 3) (enc := intC) (xs := ([] : List Int)) (cs := #[]) (sz := 1) rfl rfl (Nat.le_refl _) (by decide))
                have S1 := Lib.hid (((owI_sl (HO.out.on B1.out)).on (balloc (Below.refl _ _) (.cells #[] 3))).cut 0)
                have hlt1 : (out.take 0).length = 0 := by rw [List.length_take]; omega
                have hsz1 : w1.heap.size ≤ (w1.alloc (.cells #[] 3)).heap.size := by simp
                have ho4 : out.length ≤ 400 := by omega
                have hld : (out.drop 0).length = out.length - 0 := List.length_drop
                go_wp2_with (at_builtin; first
                  | (refine wpList_app rfl (.tmp 68) (.tmp 71) 23 rfl w1.heap.size 3 _ 1 8 intC Tryz.underlying23 zeroIntI rfl (by decide) (by decide) intC_length intC_one _ ([] : List Int) rfl L0.out _ _ _ (out.take 0) rfl hlt1.symm S1.out (by simp <;> omega) hsz1 ?_; intro v1 w2 how1 hgr1; have B12 := Lib.hid ((balloc (Below.refl _ w1) _).grown hgr1 hsz1 fun k hk => (L0.out.ty k hk).1); have hz2 : w1.heap.size ≤ w2.heap.size := B12.out.size; have hsz2 : w1.heap.size ≤ (w2.alloc (.cells #[.int .i64 k] 3)).heap.size := (by simp; omega); have O1 := Lib.hid (how1.on (balloc (Below.refl _ w2) (.cells #[.int .i64 k] 3))); have S2 := Lib.hid (Row.sl' (w := w2.alloc (.cells #[.int .i64 k] 3)) (t := 3) (xs := [(k : Int)]) intC_length ((Row.new w2 _ _).of rfl)); clear how1 hgr1)
                  | (refine wpList_app rfl (.tmp 73) (.tmp 75) 23 rfl w1.heap.size 3 _ 1 8 intC Tryz.underlying23 zeroIntI rfl (by decide) (by decide) intC_length intC_one _ ([] ++ out.take 0) rfl O1.out (some ⟨w2.heap.size, 0, none⟩) 1 1 [(k : Int)] rfl rfl S2.out (by simp <;> omega) hsz2 ?_; intro v3 w4 how3 hgr3; have O3 := Lib.hid how3; have B14 := Lib.hid ((balloc B12.out (.cells #[.int .i64 k] 3)).grown hgr3 (by simp; omega) fun b hb => (O1.out.ty b hb).1); have hsz4 : w1.heap.size ≤ w4.heap.size := B14.out.size; have S3 := Lib.hid ((owI_sl (HO.out.on B1.out)).on B14.out); clear how3 hgr3)
                  | (refine wpList_app rfl (.tmp 77) (.tmp 80) 23 rfl w1.heap.size 3 _ 1 8 intC Tryz.underlying23 zeroIntI rfl (by decide) (by decide) intC_length intC_one _ (([] ++ out.take 0) ++ [(k : Int)]) rfl O3.out _ _ _ (out.drop 0) rfl (by simp <;> omega) (by refine Sl.from_ S3.out ?_; intro b off hA hl; simpa using hA) (by simp <;> omega) hsz4 ?_; intro v5 w6 how5 hgr5))
                all_goals (
                  go_roundg (rows.length - (k + 1))
                  case measure => omega
                  case rel =>
                    have B6 : Below wo.heap.size wo w6 := (bch B1.out B14.out).grown hgr5 (by have := B14.out.size; omega) fun b hb => by have := (O3.out.ty b hb).1; omega
                    refine ⟨k + 1, by omega, rfl, by go_num, bch HB.out B6, ?_⟩
                    have hTe : gSort (cAt rows cn) (idxTo rows cn (k + 1)) = out.take 0 ++ [(k : Int)] ++ out.drop 0 := by
                      rw [idxS_succ, if_neg (by rw [HV.out]; simp), Hout.out]
                      exact gIns_at (cAt_cm (fun _ => True)) trivial (fun _ _ => trivial) (Hout.out ▸ gSort_ord (cAt_cm (fun _ => True)) (fun _ _ => trivial)) HJL.out Hp.out (fun z hj hz => by have := Hexit.out z hj hz; omega)
                    rw [hTe]
                    rw [List.nil_append] at how5
                    exact how5.low (by omega))
          · go_wp2
            go_roundg (rows.length - (k + 1))
            case measure => omega
            case rel =>
              refine ⟨k + 1, by omega, rfl, by go_num, HB.out, ?_⟩
              rw [idxS_succ, if_pos HV.out, Hout.out]
              exact HO.out
        · obtain rfl : k = rows.length := by omega
          go_wp2
          go_ret
          refine ⟨_, rfl, ?_, bch HX.out.1 HB.out⟩
          have e : idxOf rows cn = out := Hout.out
          simp only [if_true, Int.toNat_natCast]
          rw [e]
          exact HO.out
end Go.Proofs.YtlhonhacehgooaaGreat
