/-
  FnGroupAggregate returns true for all bytes and leaves them as they were. No condition.
-/
import Derived.Test.YtfhafbincknaeaaRows
import Derived.OpenShut
import Derived.Deep.DeepCutAuto
import Derived.Test.YtfhafbincknaeaaGrb
import Derived.Test.YtfhafbincknaeaaDrG
import Derived.Test.YtfhafbincknaeaaSetQ
import Derived.Test.YtfhafbincknaeaaTwo
import Derived.Test.YtfhafbincknaeaaEqL
import Derived.Test.YtfhafbincknaeaaAgt
import Derived.Test.YtfhafbincknaeaaArgB
namespace Go.Proofs.Ytfhafbincknaeaa
open Go.RowKit Go.Qo
open Go.ChangeShapes Go.WideShapes Go.ChangeAt
set_option linter.unusedVariables false
set_option linter.unusedSimpArgs false

theorem pick_nilG (r : Row1) : pickR [] r = [] := by simp [pickR]
theorem keys_nilG : ∀ (l : List Row1) (ks : List Row1), (ks = [] ∨ ks = [[]]) → l.foldl (fun ks r => if pickR [] r ∈ ks then ks else ks ++ [pickR [] r]) ks = if l = [] then ks else [[]]
  | [], ks, _ => by simp
  | r :: l, ks, h => by
    have h1 : (if pickR [] r ∈ ks then ks else ks ++ [pickR [] r]) = [[]] := by
      rw [pick_nilG]
      rcases h with rfl | rfl
      · simp
      · simp
    rw [List.foldl_cons, h1, keys_nilG l [[]] (.inr rfl)]
    simp
theorem grp_nilG (col kind : Int) (l : List Row1) : grpRows [] col kind l = if l = [] then [] else [[aggF kind (valG col l)]] := by
  have h1 : keysOf [] l = if l = [] then [] else [[]] := keys_nilG l [] (.inl rfl)
  have h2 : inG [] [] l = l := by unfold inG; simp [pick_nilG]
  unfold grpRows
  rw [h1]
  by_cases hl : l = []
  · simp [hl]
  · simp only [if_neg hl, List.map_cons, List.map_nil]
    unfold grpRow
    rw [h2]
    simp
theorem one_ofG {W W1 : Int} {rows out : List Row1} {kind col : Int} (h : TabC true W (grpRows [] col kind rows) W1 out) : out = if rows = [] then [] else [[aggF kind (valG col rows)]] := by
  rw [grp_nilG] at h
  rcases h with ⟨h, _⟩ | ⟨_, _, h⟩
  · cases h
  · by_cases hl : rows = []
    · simp only [if_pos hl] at h ⊢
      simp at h
      exact h.1
    · simp only [if_neg hl] at h ⊢
      simp only [List.length_singleton, show (1 : Nat) ≤ 400 by decide, if_true] at h
      exact List.perm_singleton.1 h.1

set_option maxRecDepth 20000 in
set_option maxHeartbeats 4000000 in
theorem FnGroupAggregate_walk (A : Option Addr) (c : Nat) (xs : List Int) (w : World) (hc : xs.length ≤ c) (hm : c ≤ maxLen) (hg : ∀ x ∈ xs, 0 ≤ x ∧ x ≤ 255) (h : Sl 1 byteC w w.heap.size A xs) :
    Calls Try.prog 4 #[.slice A xs.length c] w fun e w' => e = .returned (.bool true) ∧ Below w.heap.size w w' := by
  have HD := Lib.hid (dDrawGroupBy_ok A c xs w hc hm hg h)
  have hx63 : xs.length ≤ 9223372036854775807 := by unfold maxLen at hm; omega
  clear h hg hc hm
  by_cases hx : (1048576 : Int) < xs.length
  · clear HD
    go_enter Try.func4, Try.ntmps4
    go_wp2
    go_ret
    exact ⟨rfl, Below.refl _ _⟩
  go_enter Try.func4, Try.ntmps4
  go_wp2_with fail
  refine HD.out.mono ?_
  rintro e w3 ⟨W1, v1, svs1, rows1, cols, A', c', kind, col, rfl, hd1, hsc, hcl, hb3⟩
  obtain ⟨A1, c1, rfl, hc11, hc12, hs1, ht1, hl1, hr1⟩ := hd1.read
  obtain ⟨q, hq⟩ := bool_ofG (P := GbOk W1 rows1 cols kind col)
  have HQ := Lib.hid hq
  have R1 := Lib.hid (fun (z : World) (hz : Below w3.heap.size w3 z) => show Rws z z.heap.size A1 rows1 from (sls_of' hs1 ht1).on hz)
  have RC := Lib.hid (fun (z : World) (hz : Below w3.heap.size w3 z) => hsc.on hz)
  have K1 := Lib.hid (fun (z : World) (hz : Below w3.heap.size w3 z) => implGroupBy_ok W1 A1 A' c1 c' rows1 cols kind col z (by omega) (by omega) (R1.out z hz) (RC.out z hz) q HQ.out)
  have K2 := Lib.hid (fun (z : World) (hz : Below w3.heap.size w3 z) => specGroupBy_ok W1 A1 A' c1 c' rows1 cols kind col z (by omega) (by omega) (R1.out z hz) (RC.out z hz) q HQ.out)
  have HV : Hid (q = true → (grpRows cols col kind rows1).Perm (grpRows cols col kind rows1) ∧ ∀ r ∈ grpRows cols col kind rows1, RowOk ((cols.length : Int) + 1) r) := Lib.hid (by
    intro hq
    obtain ⟨h1, h2, h3, h4, h5⟩ := HQ.out.1 hq
    refine ⟨List.Perm.refl _, fun r hr => ?_⟩
    obtain ⟨k, hk, rfl⟩ := List.mem_map.1 hr
    exact grpRow_ok (tabRows1 h1) (colsOk_mem h2) h4 h3 hk)
  obtain ⟨gr, hgr⟩ : ∃ gr, grpRows cols col kind rows1 = gr := ⟨_, rfl⟩
  obtain ⟨V, hV⟩ : ∃ V : Int, (cols.length : Int) + 1 = V := ⟨_, rfl⟩
  rw [hgr, hV] at K1 K2 HV
  have HCL := Lib.hid hcl
  obtain ⟨W5, hW5⟩ : ∃ z, w3.alloc (.cells #[.int .i64 W1, .slice A1 rows1.length c1] 29) = z := ⟨_, rfl⟩
  have B5 : Below w3.heap.size w3 W5 := by rw [← hW5]; exact balloc (Below.refl _ _) _
  have x1 : Row W5 w3.heap.size 29 [.int .i64 W1, .slice A1 rows1.length c1] := by rw [← hW5]; exact Row.new _ _ _
  have BX := Lib.hid (fun (z : World) (hz : Below W5.heap.size W5 z) => show (z.cell? ⟨w3.heap.size, 0, none⟩ = some (.int .i64 W1) ∧ z.cell? ⟨w3.heap.size, 1, none⟩ = some (.slice A1 rows1.length c1))
    from ⟨(x1.on hz).cell 0, (x1.on hz).cell 1⟩)
  have HB3 := Lib.hid (And.intro hb3 B5)
  have HW5 := Lib.hid hW5
  have HL := Lib.hid (And.intro hl1 hr1)
  have z5 := BX.out _ (Below.refl _ _)
  clear hd1 hb3 hs1 ht1 hr1 hq x1 B5 hW5 hc11 hc12 hsc hcl hgr hV
  go_upto_region 4 with fail
  rw [HW5.out]
  go_wp2_with fail
  refine (K1.out _ HB3.out.2).mono ?_
  intro e w8 hex
  obtain ⟨W8, A8, c8, out, rfl, hT8, hr8, hc81, hc82, hb8⟩ := TabRes.read2 hex
  obtain ⟨W9, hW9⟩ : ∃ z, w8.alloc (.cells #[.int .i64 W8, .slice A8 out.length c8] 29) = z := ⟨_, rfl⟩
  have B9 : Below w8.heap.size w8 W9 := by rw [← hW9]; exact balloc (Below.refl _ _) _
  have x9 : Row W9 w8.heap.size 29 [.int .i64 W8, .slice A8 out.length c8] := by rw [← hW9]; exact Row.new _ _ _
  have H9 := Lib.hid (And.intro (bch hb8 B9) (And.intro x9 (hr8.on B9)))
  have HW9 := Lib.hid hW9
  have HT8 := Lib.hid hT8
  clear hex hT8 hr8 hc81 hc82 hb8 hW9 B9 x9 z5
  go_upto_region 5 with fail
  rw [HW9.out]
  have z9 := BX.out _ H9.out.1
  go_wp2_with fail
  refine (K2.out _ (bch HB3.out.2 H9.out.1)).mono ?_
  intro e w10 hex
  obtain ⟨W10, A10, c10, out10, rfl, hT10, hr10, hc101, hc102, hb10⟩ := SpecTab.read2 hex
  obtain ⟨hWe, hoe⟩ := tab_same HV.out hT10 HT8.out
  subst hWe
  subst hoe
  have hol := (tabC_bd (fun hq r hr => (HV.out hq).2 r ((HV.out hq).1.mem_iff.2 hr)) HT8.out).1
  obtain ⟨W11, hW11⟩ : ∃ z, w10.alloc (.cells #[.int .i64 W8, .slice A10 out.length c10] 29) = z := ⟨_, rfl⟩
  have B11 : Below w10.heap.size w10 W11 := by rw [← hW11]; exact balloc (Below.refl _ _) _
  have x11 : Row W11 w10.heap.size 29 [.int .i64 W8, .slice A10 out.length c10] := by rw [← hW11]; exact Row.new _ _ _
  have hb911 := bch hb10 B11
  have HE := Lib.hid (fun (z : World) (hz : Below W11.heap.size W11 z) => equalTables_ok W8 W8 A8 A10 c8 c10 out out z (by unfold maxLen; omega) (by unfold maxLen; omega) ((H9.out.2.2.on hb911).on hz) ((hr10.on B11).on hz) true (by simp))
  have H11 := Lib.hid (And.intro hb911 (H9.out.2.1.on hb911))
  have BE := Lib.hid (fun (z : World) (hz : Below W11.heap.size W11 z) => show (z.cell? ⟨w10.heap.size, 0, none⟩ = some (.int .i64 W8) ∧ z.cell? ⟨w10.heap.size, 1, none⟩ = some (.slice A10 out.length c10) ∧ z.cell? ⟨w8.heap.size, 0, none⟩ = some (.int .i64 W8) ∧ z.cell? ⟨w8.heap.size, 1, none⟩ = some (.slice A8 out.length c8)) from
    ⟨(x11.on hz).cell 0, (x11.on hz).cell 1, (H11.out.2.on hz).cell 0, (H11.out.2.on hz).cell 1⟩)
  have z11 := BE.out _ (Below.refl _ _)
  have HW11 := Lib.hid hW11
  have hqq : (q != q) = false := by simp
  have hqe : (q == q) = true := by simp
  have HF11 := Lib.hid (show Below W5.heap.size W5 W11 from bch H9.out.1 hb911)
  clear hex hT10 hr10 hc101 hc102 hb10 hW11 B11 x11 z9 hb911 hol
  go_upto_region 6 with fail
  rw [HW11.out]
  go_wp2_with fail
  refine (HE.out _ (Below.refl _ _)).mono ?_
  rintro e w12 ⟨rfl, hb12⟩
  have H12 := Lib.hid hb12
  have HF12 := Lib.hid (bch HF11.out hb12)
  clear hb12 z11
  cases hq1 : q
  · clear hq1
    have z12 := BE.out _ H12.out
    go_wp2_with fail
    refine (HE.out _ H12.out).mono ?_
    rintro e w13 ⟨rfl, hb13⟩
    have H13 := Lib.hid hb13
    clear hb13
    go_wp2
    go_ret
    exact ⟨rfl, bch HB3.out.1 (bch HB3.out.2 (bch HF12.out H13.out))⟩
  · subst hq1
    have hok := HQ.out.1 rfl
    obtain ⟨cn, hcn⟩ := Int.eq_ofNat_of_zero_le hok.2.2.2.1.1
    subst hcn
    have HOK := Lib.hid hok
    have hk5 := hok.2.2.2.2
    have Z0 : GbOk W1 rows1 [] kind cn := ⟨hok.1, (fun i c hc => by simp at hc), by simp, hok.2.2.2.1, hok.2.2.2.2⟩
    have HZ0 := Lib.hid Z0
    have hAG : AggOk kind (valG cn rows1) := ⟨fun v hv => by
      obtain ⟨r, hr, rfl⟩ := List.mem_map.1 hv
      have hro := tabRows1 hok.1 r hr
      have hlt : cn < r.length := by have := hro.2; have := hok.2.2.2.1.2; omega
      show vValid (r.getD (cn : Int).toNat (false, 0)) = true
      rw [List.getD_eq_getElem?_getD, Int.toNat_natCast, List.getElem?_eq_getElem hlt]
      exact hro.vals _ (List.getElem_mem hlt), by simp [valG]; have := HL.out.1; omega, hk5.1, hk5.2⟩
    have HRL := Lib.hid (fun r (hr : r ∈ rows1) => show cn < r.length by have hro := tabRows1 hok.1 r hr; have := hro.2; have := hok.2.2.2.1.2; omega)
    have HAG := Lib.hid hAG
    obtain ⟨⟨m1, m2⟩, hmm⟩ : ∃ m, aggF kind (valG cn rows1) = m := ⟨_, rfl⟩
    have HMM := Lib.hid hmm
    have hl16 := HL.out.1
    have K3 := Lib.hid (fun (z : World) (hz : Below w3.heap.size w3 z) (a : Nat) => show Calls Try.prog 9 #[.agg #[.int .i64 W1, .slice A1 rows1.length c1], .slice (some ⟨a, 0, none⟩) 0 0, .int .i64 kind, .int .i64 cn] z (TabRes true ((([] : List Int).length : Int) + 1) (grpRows [] cn kind rows1) z) from
      implGroupBy_ok W1 A1 (some ⟨a, 0, none⟩) c1 0 rows1 [] kind cn z (by omega) (by simp) (R1.out z hz) (fun h0 => absurd h0 (by simp)) true ⟨fun _ => HZ0.out, fun _ => rfl⟩)
    clear hok hk5 Z0 hAG hmm K1 K2 HV HT8 HQ
    have z12 := BX.out _ HF12.out
    go_wp2_with fail
    refine (K3.out _ (bch HB3.out.2 (bch HF12.out (balloc (Below.refl _ _) _))) _).mono ?_
    intro e w14 hex
    obtain ⟨W14, A14, c14, o14, rfl, hT14, hr14, _, _, hb14⟩ := TabRes.read2 hex
    have ho14 := one_ofG hT14
    obtain ⟨W15, hW15⟩ : ∃ z, w14.alloc (.cells #[.int .i64 W14, .slice A14 o14.length c14] 29) = z := ⟨_, rfl⟩
    have B15 : Below w14.heap.size w14 W15 := by rw [← hW15]; exact balloc (Below.refl _ _) _
    have x15 : Row W15 w14.heap.size 29 [.int .i64 W14, .slice A14 o14.length c14] := by rw [← hW15]; exact Row.new _ _ _
    have HW15 := Lib.hid hW15
    have HF15 := Lib.hid (show Below W5.heap.size W5 W15 from bch HF12.out (bch (balloc (Below.refl _ _) _) (bch hb14 B15)))
    have H15 := Lib.hid (And.intro x15 (hr14.on B15))
    have HO14 := Lib.hid ho14
    clear hex hT14 hr14 hb14 ho14 hW15 B15 x15 z12
    go_upto_region 9 with fail
    rw [HW15.out]
    go_wp2
    go_loopg [13, 14] rows1.length (fun g v iv wr => ∃ i : Nat, i ≤ rows1.length ∧ g = rows1.length - i ∧ iv = .int .i64 i ∧ Below W15.heap.size W15 wr ∧ Ow W15.heap.size 44 2 valC wr v (valG cn (rows1.take i)))
    case atStart => exact ⟨0, by omega, by omega, rfl, balloc (Below.refl _ _) _, Ow.lit (xs := ([] : List Val)) rfl rfl (Nat.le_refl _) (by decide)⟩
    case round =>
      obtain ⟨i, hi, rfl, rfl, hb, how⟩ := hrel
      have HB := Lib.hid (And.intro hb how)
      have HFr := Lib.hid (bch HF15.out hb)
      have zr := BX.out _ HFr.out
      have hvl : (valG (cn : Int) (rows1.take i)).length ≤ 16 := by simp [valG]; omega
      by_cases hlt : i < rows1.length
      · obtain ⟨b, off, A3, C3, hA3, hB3, c3, hcc3, hmx3, s3⟩ := (R1.out _ (bch HB3.out.2 HFr.out)).at_ hlt
        have hcr := HRL.out _ (List.getElem_mem hlt)
        have hx := Lib.hid (List.getElem?_eq_getElem hlt)
        generalize rows1[i] = rw1 at *
        subst hA3
        obtain ⟨b4, o4, hA4, hB4, d0, d1⟩ := Val.at_ s3 hcr
        subst hA4
        have hy := Lib.hid (List.getElem?_eq_getElem hcr)
        generalize rw1[cn] = xv at *
        obtain ⟨nx, x⟩ := xv
        obtain ⟨L, hL⟩ : ∃ L, rw1.length = L := ⟨_, rfl⟩
        rw [hL] at c3 hcr hcc3
        have hkl : (cn : Int) < (L : Int) := by omega
        have HT := Lib.hid (show valG (cn : Int) (rows1.take (i + 1)) = valG (cn : Int) (rows1.take i) ++ [(nx, x)] by
          rw [take_at hx.out]; simp [valG, getV, hy.out])
        have hsz : W15.heap.size ≤ (wr.alloc (.cells #[.bool nx, .int .i64 x] 44)).heap.size := by have := hb.size; simp; omega
        have HO1 := Lib.hid (HB.out.2.on (balloc (Below.refl _ wr) (.cells #[.bool nx, .int .i64 x] 44)))
        have HS := Lib.hid (Row.sl' (w := wr.alloc (.cells #[.bool nx, .int .i64 x] 44)) (t := 44) (xs := [((nx, x) : Val)]) valC_length ((Row.new wr _ _).of rfl))
        have HLe := Lib.hid hL
        clear hb how hL s3
        dsimp only at d0 d1
        go_wp2_with (at_builtin; refine wpList_app rfl (.tmp 80) (.tmp 89) 42 rfl W15.heap.size 44 _ 2 16 valC Try.underlying42 zeroVal rfl (by decide) (by decide) valC_length valC_one _ (valG (cn : Int) (rows1.take i)) rfl HO1.out (some ⟨wr.heap.size, 0, none⟩) 1 1 [((nx, x) : Val)] rfl rfl HS.out (by simp; omega) hsz ?_; intro v' w' hown hgr)
        go_roundg (rows1.length - (i + 1))
        case measure => omega
        case rel =>
          refine ⟨i + 1, by omega, rfl, by go_num, (((only_below (S := fun _ => False) HB.out.1).alloc _).grown hgr (fun k hk => .inr (HO1.out.ty k hk).1)).old (fun _ _ h => h), ?_⟩
          rw [HT.out]; exact hown
      · have hie : i = rows1.length := by omega
        obtain ⟨Av, cv, rfl, _, _, hsv⟩ := how.shape valC_length
        have hsv' := hsv.sl
        have htk : rows1.take i = rows1 := by rw [hie, List.take_length]
        rw [htk] at hsv' ⊢
        have hvn : (valG (cn : Int) rows1).length = rows1.length := by simp [valG]
        have AG : Calls Try.prog 17 #[.slice Av (valG (cn : Int) rows1).length cv, .int .i64 kind] wr (fun e w' => e = .returned (.tuple #[.agg #[.bool m1, .int .i64 m2], .bool true]) ∧ Below wr.heap.size wr w') := by
          have := implAggregate_ok Av cv (valG (cn : Int) rows1) kind wr (by rw [hvn]; omega) hsv' true ⟨fun _ => HAG.out, fun _ => rfl⟩
          rw [if_pos rfl, HMM.out] at this
          exact this
        have AG := Lib.hid AG
        have HIE := Lib.hid hie
        clear how hsv hsv' htk hvn hb hie hvl
        go_wp2_with fail
        refine AG.out.mono ?_
        rintro e w16 ⟨rfl, hb16⟩
        obtain ⟨W17, hW17⟩ : ∃ z, w16.alloc (.cells #[.bool m1, .int .i64 m2] 44) = z := ⟨_, rfl⟩
        have B17 : Below w16.heap.size w16 W17 := by rw [← hW17]; exact balloc (Below.refl _ _) _
        have x17 : Row W17 w16.heap.size 44 [.bool m1, .int .i64 m2] := by rw [← hW17]; exact Row.new _ _ _
        have HW17 := Lib.hid hW17
        have HG17 := Lib.hid (show Below W15.heap.size W15 W17 from bch HB.out.1 (bch hb16 B17))
        have HF17 := Lib.hid (bch HF15.out HG17.out)
        have z17 := BX.out _ HF17.out
        have y17 := (H15.out.1.on HG17.out)
        have y0 : W17.cell? ⟨w14.heap.size, 0, none⟩ = some (.int .i64 W14) := y17.cell 0
        have y1 : W17.cell? ⟨w14.heap.size, 1, none⟩ = some (.slice A14 o14.length c14) := y17.cell 1
        have u0 : W17.cell? ⟨w16.heap.size, 0, none⟩ = some (.bool m1) := x17.cell 0
        have u1 : W17.cell? ⟨w16.heap.size, 1, none⟩ = some (.int .i64 m2) := x17.cell 1
        have FINE := Lib.hid (show Below w.heap.size w W17 from bch HB3.out.1 (bch HB3.out.2 HF17.out))
        have l14 := y17.lt
        have l16 := x17.lt
        clear hb16 hW17 B17 x17 y17 zr
        go_upto_region 15 with fail
        rw [HW17.out]
        by_cases hr0 : rows1 = []
        · have hon : o14.length = 0 := by rw [HO14.out, if_pos hr0]; rfl
          have hrn : rows1.length = 0 := by rw [hr0]; rfl
          rw [hon] at y1
          obtain ⟨z17a, z17b⟩ := z17
          rw [hrn] at z17b
          clear hon hrn hr0
          go_wp2
          go_ret
          exact ⟨rfl, FINE.out⟩
        · have hoe : o14 = [[(m1, m2)]] := by rw [HO14.out, if_neg hr0, HMM.out]
          have hrw := H15.out.2.on HG17.out
          rw [hoe] at hrw y1
          have hrn : rows1.length ≠ 0 := fun h => hr0 (List.length_eq_zero_iff.1 h)
          obtain ⟨b, off, A3, C3, hA3, hB3, c3, hcc3, hmx3, s3⟩ := hrw.at_ (i := 0) (by simp)
          obtain ⟨b4, o4, hA4, hB4, d0, d1⟩ := Val.at_ s3 (i := 0) (by simp)
          subst hA3
          subst hA4
          dsimp only [List.getElem_cons_zero, List.length_singleton, List.length_cons, List.length_nil] at c3 d0 d1 y1
          have heq := fun z => eqlVal (x := (m1, m2)) (y := (m1, m2)) true (by simp) z
          dsimp only at heq
          have hrni : ¬ ((rows1.length : Int) = 0) := by omega
          have hrnb : ((rows1.length : Int) == 0) = false := by simp; omega
          clear hrw hoe hcc3 hmx3 s3 hr0
          have c3' : W17.cell? ⟨b, off, none⟩ = some (.slice (some ⟨b4, o4, none⟩) 1 C3) := by simpa using c3
          have d0' : W17.cell? ⟨b4, o4, none⟩ = some (.bool m1) := by simpa using d0
          have d1' : W17.cell? ⟨b4, o4 + 1, none⟩ = some (.int .i64 m2) := by simpa using d1
          have HSZ : Hid (∀ z, Below W17.heap.size W17 z → (fun z => z.cell? ⟨w14.heap.size, 1, none⟩ = some (.slice (some ⟨b, off, none⟩) 1 c14) ∧ z.cell? ⟨b, off, none⟩ = some (.slice (some ⟨b4, o4, none⟩) 1 C3) ∧ z.cell? ⟨b4, o4, none⟩ = some (.bool m1) ∧ z.cell? ⟨b4, o4 + 1, none⟩ = some (.int .i64 m2) ∧ z.cell? ⟨w16.heap.size, 0, none⟩ = some (.bool m1) ∧ z.cell? ⟨w16.heap.size, 1, none⟩ = some (.int .i64 m2)) z) := Lib.hid (fun z hz => ⟨(hz.cell (p := ⟨w14.heap.size, 1, none⟩) l14).trans y1, (hz.cell (p := ⟨b, off, none⟩) hB3).trans c3', (hz.cell (p := ⟨b4, o4, none⟩) hB4).trans d0', (hz.cell (p := ⟨b4, o4 + 1, none⟩) hB4).trans d1', (hz.cell (p := ⟨w16.heap.size, 0, none⟩) l16).trans u0, (hz.cell (p := ⟨w16.heap.size, 1, none⟩) l16).trans u1⟩)
          go_upto_region 17 with fail
          obtain ⟨u, hu⟩ : ∃ u, W17.drew = u := ⟨_, rfl⟩
          have Bu : Hid (Below W17.heap.size W17 u) := Lib.hid (hu ▸ (Below.refl _ _).drew)
          have Hu := Lib.hid hu
          clear hu c3 d0 d1 c3' d0' d1' y0 y1 u0 u1 z17
          refine wp_region_held_drew (S := (fun z => z.cell? ⟨w14.heap.size, 1, none⟩ = some (.slice (some ⟨b, off, none⟩) 1 c14) ∧ z.cell? ⟨b, off, none⟩ = some (.slice (some ⟨b4, o4, none⟩) 1 C3) ∧ z.cell? ⟨b4, o4, none⟩ = some (.bool m1) ∧ z.cell? ⟨b4, o4 + 1, none⟩ = some (.int .i64 m2) ∧ z.cell? ⟨w16.heap.size, 0, none⟩ = some (.bool m1) ∧ z.cell? ⟨w16.heap.size, 1, none⟩ = some (.int .i64 m2))) (by kernel_rfl) ?_ (fun hHeld => ?_)
          · exact HSZ.out _ (Below.refl _ _).drew
          rw [Hu.out] at hHeld ⊢
          refine takeL (i := 0) (v := ?v0) rfl (by kernel_rfl) (by kernel_rfl) (by kernel_rfl) (fun _ _ _ h => h) (Or.inl ⟨by rfl, ?hy0⟩) (by assumption) ?_
          case hy0 => ((intro w' hSw; (try dsimp only at hSw); go_simp) <;> with_reducible rfl)
          try simp only [Act.put, List.setIfInBounds_toArray, List.set_cons_zero, List.set_cons_succ]
          refine takeL (i := 1) (v := ?v1) rfl (by kernel_rfl) (by kernel_rfl) (by kernel_rfl) (fun _ _ _ h => h) (Or.inl ⟨by rfl, ?hy1⟩) (by assumption) ?_
          case hy1 => ((intro w' hSw; (try dsimp only at hSw); go_simp) <;> with_reducible rfl)
          try simp only [Act.put, List.setIfInBounds_toArray, List.set_cons_zero, List.set_cons_succ]
          refine takeL (i := 2) (v := ?v2) rfl (by kernel_rfl) (by kernel_rfl) (by kernel_rfl) (fun _ _ _ h => h) (Or.inl ⟨by rfl, ?hy2⟩) (by assumption) ?_
          case hy2 => ((intro w' hSw; (try dsimp only at hSw); go_simp) <;> with_reducible rfl)
          try simp only [Act.put, List.setIfInBounds_toArray, List.set_cons_zero, List.set_cons_succ]
          refine takeL (i := 3) (v := ?v3) rfl (by kernel_rfl) (by kernel_rfl) (by kernel_rfl) (fun _ _ _ h => h) (Or.inl ⟨by rfl, ?hy3⟩) (by assumption) ?_
          case hy3 => ((intro w' hSw; (try dsimp only at hSw); go_simp) <;> with_reducible rfl)
          try simp only [Act.put, List.setIfInBounds_toArray, List.set_cons_zero, List.set_cons_succ]
          refine takeL (i := 4) (v := ?v4) rfl (by kernel_rfl) (by kernel_rfl) (by kernel_rfl) (fun _ _ _ h => h) (Or.inl ⟨by rfl, ?hy4⟩) (by assumption) ?_
          case hy4 => ((intro w' hSw; (try dsimp only at hSw); go_simp) <;> with_reducible rfl)
          try simp only [Act.put, List.setIfInBounds_toArray, List.set_cons_zero, List.set_cons_succ]
          refine takeL (i := 5) (v := ?v5) rfl (by kernel_rfl) (by kernel_rfl) (by kernel_rfl) (fun _ _ _ h => h) (Or.inl ⟨by rfl, ?hy5⟩) (by assumption) ?_
          case hy5 => ((intro w' hSw; (try dsimp only at hSw); go_simp) <;> with_reducible rfl)
          try simp only [Act.put, List.setIfInBounds_toArray, List.set_cons_zero, List.set_cons_succ]
          refine takeL (i := 6) (v := ?v6) rfl (by kernel_rfl) (by kernel_rfl) (by kernel_rfl) (fun _ _ _ h => h) (Or.inl ⟨by rfl, ?hy6⟩) (by assumption) ?_
          case hy6 => ((intro w' hSw; (try dsimp only at hSw); go_simp) <;> with_reducible rfl)
          try simp only [Act.put, List.setIfInBounds_toArray, List.set_cons_zero, List.set_cons_succ]
          refine takeL (i := 7) (v := ?v7) rfl (by kernel_rfl) (by kernel_rfl) (by kernel_rfl) (fun _ _ _ h => h) (Or.inl ⟨by rfl, ?hy7⟩) (by assumption) ?_
          case hy7 => ((intro w' hSw; (try dsimp only at hSw); go_simp) <;> with_reducible rfl)
          try simp only [Act.put, List.setIfInBounds_toArray, List.set_cons_zero, List.set_cons_succ]
          refine takeL (i := 8) (v := ?v8) rfl (by kernel_rfl) (by kernel_rfl) (by kernel_rfl) (fun _ _ _ h => h) (Or.inl ⟨by rfl, ?hy8⟩) (by assumption) ?_
          case hy8 => ((intro w' hSw; (try dsimp only at hSw); go_simp) <;> with_reducible rfl)
          try simp only [Act.put, List.setIfInBounds_toArray, List.set_cons_zero, List.set_cons_succ]
          refine takeL (i := 9) (v := ?v9) rfl (by kernel_rfl) (by kernel_rfl) (by kernel_rfl) (fun _ _ _ h => h) (Or.inl ⟨by rfl, ?hy9⟩) (by assumption) ?_
          case hy9 => ((intro w' hSw; (try dsimp only at hSw); go_simp) <;> with_reducible rfl)
          try simp only [Act.put, List.setIfInBounds_toArray, List.set_cons_zero, List.set_cons_succ]
          refine takeL (i := 10) (v := ?v10) rfl (by kernel_rfl) (by kernel_rfl) (by kernel_rfl) (fun _ _ _ h => h) (Or.inl ⟨by rfl, ?hy10⟩) (by assumption) ?_
          case hy10 => ((intro w' hSw; (try dsimp only at hSw); go_simp) <;> with_reducible rfl)
          try simp only [Act.put, List.setIfInBounds_toArray, List.set_cons_zero, List.set_cons_succ]
          refine takeL (i := 11) (v := ?v11) rfl (by kernel_rfl) (by kernel_rfl) (by kernel_rfl) (fun _ _ _ h => h) (Or.inl ⟨by rfl, ?hy11⟩) (by assumption) ?_
          case hy11 => ((intro w' hSw; (try dsimp only at hSw); go_simp) <;> with_reducible rfl)
          try simp only [Act.put, List.setIfInBounds_toArray, List.set_cons_zero, List.set_cons_succ]
          refine takeL (i := 12) (v := ?v12) rfl (by kernel_rfl) (by kernel_rfl) (by kernel_rfl) (fun _ _ _ h => h) (Or.inl ⟨by rfl, ?hy12⟩) (by assumption) ?_
          case hy12 => ((intro w' hSw; (try dsimp only at hSw); go_simp) <;> with_reducible rfl)
          try simp only [Act.put, List.setIfInBounds_toArray, List.set_cons_zero, List.set_cons_succ]
          refine takeL (i := 13) (v := ?v13) rfl (by kernel_rfl) (by kernel_rfl) (by kernel_rfl) (fun _ _ _ h => h) (Or.inl ⟨by rfl, ?hy13⟩) (by assumption) ?_
          case hy13 => ((intro w' hSw; (try dsimp only at hSw); go_simp) <;> with_reducible rfl)
          try simp only [Act.put, List.setIfInBounds_toArray, List.set_cons_zero, List.set_cons_succ]
          refine takeL (i := 14) (v := ?v14) rfl (by kernel_rfl) (by kernel_rfl) (by kernel_rfl) (fun _ _ _ h => h) (Or.inl ⟨by rfl, ?hy14⟩) (by assumption) ?_
          case hy14 => ((intro w' hSw; (try dsimp only at hSw); go_simp) <;> with_reducible rfl)
          try simp only [Act.put, List.setIfInBounds_toArray, List.set_cons_zero, List.set_cons_succ]
          refine takeL (i := 15) (v := ?v15) rfl (by kernel_rfl) (by kernel_rfl) (by kernel_rfl) (fun _ _ _ h => h) (Or.inl ⟨by rfl, ?hy15⟩) (by assumption) ?_
          case hy15 => ((intro w' hSw; (try dsimp only at hSw); go_simp) <;> with_reducible rfl)
          try simp only [Act.put, List.setIfInBounds_toArray, List.set_cons_zero, List.set_cons_succ]
          refine takeL (i := 16) (v := ?v16) rfl (by kernel_rfl) (by kernel_rfl) (by kernel_rfl) (fun _ _ _ h => h) (Or.inl ⟨by rfl, ?hy16⟩) (by assumption) ?_
          case hy16 => ((intro w' hSw; (try dsimp only at hSw); go_simp) <;> with_reducible rfl)
          try simp only [Act.put, List.setIfInBounds_toArray, List.set_cons_zero, List.set_cons_succ]
          refine takeL (i := 17) (v := ?v17) rfl (by kernel_rfl) (by kernel_rfl) (by kernel_rfl) (fun _ _ _ h => h) (Or.inl ⟨by rfl, ?hy17⟩) (by assumption) ?_
          case hy17 => ((intro w' hSw; (try dsimp only at hSw); go_simp) <;> with_reducible rfl)
          try simp only [Act.put, List.setIfInBounds_toArray, List.set_cons_zero, List.set_cons_succ]
          refine takeL (i := 18) (v := ?v18) rfl (by kernel_rfl) (by kernel_rfl) (by kernel_rfl) (fun _ _ _ h => h) (Or.inl ⟨by rfl, ?hy18⟩) (by assumption) ?_
          case hy18 => ((intro w' hSw; (try dsimp only at hSw); go_simp) <;> with_reducible rfl)
          try simp only [Act.put, List.setIfInBounds_toArray, List.set_cons_zero, List.set_cons_succ]
          refine takeL (i := 19) (v := ?v19) rfl (by kernel_rfl) (by kernel_rfl) (by kernel_rfl) (fun _ _ _ h => h) (Or.inl ⟨by rfl, ?hy19⟩) (by assumption) ?_
          case hy19 => ((intro w' hSw; (try dsimp only at hSw); go_simp) <;> with_reducible rfl)
          try simp only [Act.put, List.setIfInBounds_toArray, List.set_cons_zero, List.set_cons_succ]
          refine takeL (i := 20) (v := ?v20) rfl (by kernel_rfl) (by kernel_rfl) (by kernel_rfl) (fun _ _ _ h => h) (Or.inl ⟨by rfl, ?hy20⟩) (by assumption) ?_
          case hy20 => ((intro w' hSw; (try dsimp only at hSw); go_simp) <;> with_reducible rfl)
          try simp only [Act.put, List.setIfInBounds_toArray, List.set_cons_zero, List.set_cons_succ]
          refine wpAnyH_done (by kernel_rfl) ?_ _
          go_wp2
          go_ret
          exact ⟨rfl, bch FINE.out Bu.out⟩

namespace lawFnGroupAggregate
theorem own : ownKnob Try.prog.godebug = none := by kernel_rfl
theorem laidOut : laidOutB Try.prog = true := by kernel_rfl

set_option maxRecDepth 100000 in
theorem lifted (os : Os) (started : os.Started) (H : Type) (enc : TypeId × Value → H) :
    ReturnsInHanded {} Try.checked os 4 .any (Rows.fnGroupAggregateSpec.pre6 enc Try.prog Try.f4 Rows.fnGroupAggregateRow.domain false) (Rows.fnGroupAggregateSpec.post enc Try.prog Try.f4 false true false false) := by
  refine returnsInHanded_of_change (C := Try.checked) own started (by kernel_rfl) Try.func4
    (ChangeSpec.witness6 (enc := enc) (C := Try.checked) false ⟨#[], #[.slice none 0 0], []⟩ 8 (by kernel_rfl) (by kernel_rfl) (by kernel_rfl) (by kernel_rfl)) ?_
  intro W base args ds gs before hval0 hW hcnd _
  have hval : ∀ (j : Nat) t v, Try.f4.params[j]? = some t → args[j]? = some v → Value.okWide Try.prog W .any base t v := hval0
  have hW' := hW
  obtain ⟨p, q, hA0, hV, rfl, hfz, hnd⟩ := hW
  have hA : DataW.TrodAll enc Try.prog W 0 (fun _ => true) true Try.f4.params.toList args.toList ds p := hA0
  rw [Try.params4] at hA hval
  obtain ⟨v0, vs0, d0, ds0, p0, q0, hargs, rfl, rfl, h0, r0⟩ := trodAll_cons hA
  obtain ⟨rfl, rfl, rfl⟩ := trodAll_nil r0
  obtain rfl : args = #[v0] := by cases args; simp_all
  obtain ⟨rfl, rfl⟩ := trodVars_none hV
  obtain ⟨a0, len0, c0, rfl⟩ := okWide_slice Try.underlying39 (hval 0 39 v0 rfl rfl)
  have k0 := h0
  have lt0 : ∀ x ∈ p0, x.block < W.heap.size := by obtain ⟨m, hm⟩ := k0; exact DataW.trod_lt m _ _ _ hm
  obtain ⟨f0, h0⟩ := h0
  obtain ⟨xs0, rfl, hc0, hm0, g0, s0⟩ := open_sl (sz := 1) (ec := byteC) Try.underlying39 (by kernel_rfl) (by omega) byteC_length (el_byte Try.underlying5) h0
  clear hA0 hval0
  refine (FnGroupAggregate_walk a0 c0 xs0 W hc0 hm0 g0 s0).mono fun e W' ⟨he, bel⟩ => ?_
  subst he
  exact ⟨_, rfl, _, _, _, [], _, [], hW', trodAll_mk1 (shut_bool Try.underlying4 _), (trodAll_cons_mk (Below.trod laidOut (by kernel_rfl) (of_decide_eq_true (by kernel_rfl)) k0 bel lt0) trodAll_mk0), rfl, bel.frame _, fun h => by cases h⟩

theorem over : Rows.fnGroupAggregateRow.holds Try.pinned (OpenSpec.ofChange Rows.fnGroupAggregateSpec) :=
  OpenClaim.holds_of_wide 4 Try.f4 rfl rfl rfl rfl rfl rfl rfl ⟨rfl, rfl, rfl, rfl, rfl⟩ rfl rfl rfl rfl rfl (by kernel_rfl) Try.func4 (by kernel_rfl)
    (of_decide_eq_true (by kernel_rfl)) (by unfold Func.isWrapper; first | (rw [if_pos (by decide +kernel)]; kernel_rfl) | (rw [if_neg (by decide +kernel)]; exact ⟨rfl, rfl⟩))
    (fun os started H enc _ => lifted os started H enc)

theorem proved : Rows.FnGroupAggregateSaid := over
end lawFnGroupAggregate
#print axioms lawFnGroupAggregate.proved

end Go.Proofs.Ytfhafbincknaeaa
