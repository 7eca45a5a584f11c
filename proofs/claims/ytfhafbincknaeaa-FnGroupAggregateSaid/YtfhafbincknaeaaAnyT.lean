/-
  Contract of the drawing of a table that may be no valid one: anyTable.
-/
import Derived.Test.YtfhafbincknaeaaProg
import Derived.Test.YtfhafbincknaeaaTbg
import Derived.Test.YtfhafbincknaeaaPln
import Derived.Deep.DeepCutAuto
namespace Go.Proofs.Ytfhafbincknaeaa
open Go.RowKit Go.Qo
set_option linter.unusedVariables false
set_option linter.unusedSimpArgs false

/-- A drawn table, valid or not. -/
def AnyTab (most : Nat) (b p : Nat) (w : World) (e : Ending) (w' : World) : Prop :=
  ∃ (W : Int) (v : Value) (svs : List SV) (rows : List Row1), e = .returned (.agg #[.int .i64 W, v]) ∧ W ≤ 16 ∧ rows.length ≤ most + 1 ∧ (∀ r ∈ rows, r.length ≤ 16) ∧ Ow w.heap.size 42 1 svC w' v svs ∧ RowsT 44 2 valC w.heap.size w' svs rows ∧ But b w w' ∧ Rd w' b p

theorem anyFin {most b p p' : Nat} {w wz : World} {W' : Int} {v : Value} {svs : List SV} {rows : List Row1} (hlt : b < w.heap.size) (hb : But b w wz) (hO : Ow w.heap.size 42 1 svC wz v svs) (hR : RowsT 44 2 valC w.heap.size wz svs rows) (hRd : Rd wz b p') (hp : p' ≤ p)
    (hT : TyAt wz w.heap.size 29) (hW : W' ≤ 16) (hl : rows.length ≤ most + 1) (hr : ∀ r ∈ rows, r.length ≤ 16) : AnyTab most b p w (.returned (.agg #[.int .i64 W', v])) ((wz.setCell ⟨w.heap.size, 0, none⟩ (.int .i64 W')).setCell ⟨w.heap.size, 1, none⟩ v) := by
  have hS0 := (Only.set (S := fun i => i = w.heap.size) (p := ⟨w.heap.size, 0, none⟩) (Only.refl wz) (.inl rfl) (.int .i64 W')).set (p := ⟨w.heap.size, 1, none⟩) (.inl rfl) v
  refine ⟨W', v, svs, rows, rfl, hW, hl, hr, hO.only hS0 fun k hk => .inr ⟨29, by decide, by subst hk; exact hT⟩, hR.only hS0 fun k hk => .inr ⟨29, by decide, by subst hk; exact hT⟩, ?_, ?_⟩
  · exact (hb.set (p := ⟨_, _, none⟩) (.inr (Nat.le_refl _)) _).set (p := ⟨_, _, none⟩) (.inr (Nat.le_refl _)) _
  · exact ((hRd.set (a := ⟨_, _, none⟩) hlt _).set (a := ⟨_, _, none⟩) hlt _).mono hp

set_option maxRecDepth 20000 in
set_option maxHeartbeats 2000000 in
theorem anyTable_ok (b p : Nat) (W most : Int) (w : World) (h : Rd w b p) (hp : p + 40000 ≤ 1099511627776) (hW : W ≤ 6) (hW1 : 1 ≤ W) (hm0 : 0 ≤ most) (hm : most ≤ 16) :
    Calls Try.prog 37 #[.pointer (some ⟨b, 0, none⟩), .int .i64 W, .int .i64 most] w (AnyTab most.toNat b (p + 17000) w) := by
  have hlt := h.lt
  have HT := Lib.hid (randomTable_ok b p W most _ (h.on (balloc (Below.refl _ w) (.cells #[.int .i64 0, .slice none 0 0] 29))) (by omega) (by omega) hm0 (by omega))
  clear h
  go_enter Try.func37, Try.ntmps37
  go_wp2_with fail
  refine HT.out.mono ?_
  rintro e w1 ⟨v1, svs, rows0, rows, rfl, hrl, hrv, hbt, how1, hrt1, hb1, hR1⟩
  obtain ⟨A1, c1, rfl, hc11, hc12, hs1⟩ := how1.shape svC_length
  have hz1 := hb1.size
  rw [World.size_alloc] at hz1
  have hrw : rows.length ≤ most.toNat := by
    have h1 := hbt.perm.length_eq
    omega
  have hrr : ∀ r ∈ rows, r.length ≤ 16 := fun r hr => by
    have h2 := (hrv r (hbt.perm.mem_iff.1 hr)).1
    omega
  have RB := Lib.hid (((Row.new w 29 #[.int .i64 0, .slice none 0 0]).only hb1 (by omega)).alloc (.cells #[.int .i64 W, .slice A1 svs.length c1] 29))
  have R7 := Lib.hid (Row.new w1 29 #[.int .i64 W, .slice A1 svs.length c1])
  have H0 := Lib.hid (((Only.refl (S := fun k => k = b) w).alloc (.cells #[.int .i64 0, .slice none 0 0] 29)).trans hb1 |>.alloc (.cells #[.int .i64 W, .slice A1 svs.length c1] 29))
  have HO := Lib.hid (((how1.on (balloc (Below.refl _ _) (.cells #[.int .i64 W, .slice A1 svs.length c1] 29))).low (show w.heap.size ≤ (w.alloc (.cells #[.int .i64 0, .slice none 0 0] 29)).heap.size by simp)))
  have HRT := Lib.hid (((hrt1.on (balloc (Below.refl _ _) (.cells #[.int .i64 W, .slice A1 svs.length c1] 29))).low (show w.heap.size ≤ (w.alloc (.cells #[.int .i64 0, .slice none 0 0] 29)).heap.size by simp)))
  have HP := Lib.hid (pick_ok b (p + 16001) 20 _ (hR1.on (balloc (Below.refl _ w1) (.cells #[.int .i64 W, .slice A1 svs.length c1] 29))) (by omega))
  have HLN := Lib.hid (And.intro hrw hrr)
  have hsl : svs.length = rows.length := hrt1.1
  have hsv : svs.length ≤ 16 := by omega
  have HSL := Lib.hid hsl
  clear how1 hrt1 hbt hrv hrl hb1 hR1 hs1 hrw hrr hsl
  go_wp2_with fail
  refine HP.out.mono ?_
  rintro e w2 ⟨r, rfl, hr, hb2, hsz2, hR2⟩
  have hbl : b < w1.heap.size := by omega
  have B2 := Lib.hid (H0.out.trans hb2)
  have RB2 := Lib.hid (RB.out.only hb2 (by omega))
  have R72 := Lib.hid (R7.out.only hb2 (by omega))
  have HO2 := Lib.hid (HO.out.only hb2 (by intro k hk; left; omega))
  have HRT2 := Lib.hid (HRT.out.only hb2 (by intro k hk; left; omega))
  have HR2 := Lib.hid hR2
  rw [World.size_alloc] at hsz2
  have hz2 : w1.heap.size + 1 = w2.heap.size := hsz2
  clear hb2 hR2 hr hsz2
  have q0 := RB2.out.lt
  have q1 := RB2.out.frozen 0
  have q2 := RB2.out.frozen 1
  have q3 : w2.cell? ⟨w.heap.size, 0, none⟩ = some (.int .i64 0) := RB2.out.cell 0
  have q4 : w2.cell? ⟨w.heap.size, 1, none⟩ = some (.slice none 0 0) := RB2.out.cell 1
  have p0 := R72.out.lt
  have p1 := R72.out.frozen 0
  have p2 := R72.out.frozen 1
  have p3 : w2.cell? ⟨w1.heap.size, 0, none⟩ = some (.int .i64 W) := R72.out.cell 0
  have p4 : w2.cell? ⟨w1.heap.size, 1, none⟩ = some (.slice A1 svs.length c1) := R72.out.cell 1
  have hne : ¬ (w1.heap.size = w.heap.size) := by omega
  have hne' : ¬ (w.heap.size = w1.heap.size) := by omega
  by_cases h0 : r = 0
  · subst h0
    have HO3 := Lib.hid (one_ok b (p + 16001 + 1) (some ⟨w2.heap.size, 0, none⟩) 3 [0, 7, 2] _ (HR2.out.on (balloc (Below.refl _ _) _)) (by omega) (by decide) (by decide) (ints5 w2 [0, 7, 2] 3) (by rintro a ha; cases ha; exact (show w2.heap.size ≠ b by omega)))
    go_wp2_with fail
    refine HO3.out.mono ?_
    rintro e w3 ⟨k, rfl, hk, hb3, _, hR3⟩
    have hk16 : k ≤ 16 := by simp at hk; omega
    have RB3 := (RB2.out.alloc (.cells ([0, 7, 2].map (Value.int .i64)).toArray 3)).only hb3 (by omega)
    have R73 := (R72.out.alloc (.cells ([0, 7, 2].map (Value.int .i64)).toArray 3)).only hb3 (by omega)
    have HRB3 := Lib.hid RB3
    have HR73 := Lib.hid R73
    have HO4 := Lib.hid (((HO2.out.on (balloc (Below.refl _ _) (.cells ([0, 7, 2].map (Value.int .i64)).toArray 3)))).only hb3 (by intro k hk; left; omega))
    have HRT4 := Lib.hid (((HRT2.out.on (balloc (Below.refl _ _) (.cells ([0, 7, 2].map (Value.int .i64)).toArray 3)))).only hb3 (by intro k hk; left; omega))
    have B3 := Lib.hid ((B2.out.alloc (.cells ([0, 7, 2].map (Value.int .i64)).toArray 3)).trans hb3)
    have HR3 := Lib.hid hR3
    clear q0 q1 q2 q3 q4 p0 p1 p2 p3 p4 hb3 hR3 hk
    have q0 := RB3.lt
    have q1 := RB3.frozen 0
    have q2 := RB3.frozen 1
    have q3 : w3.cell? ⟨w.heap.size, 0, none⟩ = some (.int .i64 0) := RB3.cell 0
    have q4 : w3.cell? ⟨w.heap.size, 1, none⟩ = some (.slice none 0 0) := RB3.cell 1
    have p0 := R73.lt
    have p1 := R73.frozen 0
    have p2 := R73.frozen 1
    have p3 : w3.cell? ⟨w1.heap.size, 0, none⟩ = some (.int .i64 W) := R73.cell 0
    have p4 : w3.cell? ⟨w1.heap.size, 1, none⟩ = some (.slice A1 svs.length c1) := R73.cell 1
    clear RB3 R73
    go_wp2
    have hS1 := Only.set (S := fun i => i = w1.heap.size) (p := ⟨w1.heap.size, 0, none⟩) (Only.refl w3) (.inl rfl) (.int .i64 k)
    refine bodyPost_ret (v := .agg #[.int .i64 k, .slice A1 svs.length c1]) (by simp [results, Try.results37, go_sem, q0, q1, q2, q3, q4, p0, p1, p2, p3, p4, hne, hne']) rfl (anyFin (svs := svs) (rows := rows) (p' := p + 16001 + 1 + 1) hlt ?_ ?_ ?_ ?_ (by omega) ?_ hk16 (by have := HLN.out.1; omega) HLN.out.2)
    · exact B3.out.set (p := ⟨w1.heap.size, 0, none⟩) (.inr (show w.heap.size ≤ w1.heap.size by omega)) _
    · exact HO4.out.only hS1 fun i hi => .inr ⟨29, by decide, by subst hi; exact HR73.out.ty⟩
    · exact HRT4.out.only hS1 fun i hi => .inr ⟨29, by decide, by subst hi; exact HR73.out.ty⟩
    · exact HR3.out.set (a := ⟨w1.heap.size, 0, none⟩) hbl _
    · exact (HRB3.out.far (p := ⟨w1.heap.size, 0, none⟩) hne' _).ty
  · by_cases h1 : r = 1
    · subst h1
      rcases Nat.eq_zero_or_pos svs.length with hz | hz
      · have hz0 : ¬ ((0 : Int) < (svs.length : Int)) := by omega
        have hzz := Lib.hid hz
        clear hz
        go_wp2
        exact bodyPost_ret (v := .agg #[.int .i64 W, .slice A1 svs.length c1]) (by simp [results, Try.results37, go_sem, q0, q1, q2, q3, q4]) rfl (anyFin hlt B2.out HO2.out HRT2.out HR2.out (by omega) RB2.out.ty (by omega) (by have := HLN.out.1; omega) HLN.out.2)
      · have hz0 : ((0 : Int) < (svs.length : Int)) := by omega
        obtain ⟨g, hA, _, hg, hgl, hgT, hgf, hgc⟩ := HO2.out.head svC_length hz
        subst hA
        have hzr : 0 < rows.length := by have := HSL.out; omega
        obtain ⟨s, hs⟩ : ∃ s, svs[0]? = some s := ⟨_, List.getElem?_eq_getElem hz⟩
        obtain ⟨x0, hx0⟩ : ∃ x, rows[0]? = some x := ⟨_, List.getElem?_eq_getElem hzr⟩
        obtain ⟨hsn, hsc, hscm, hsT⟩ := HRT2.out.2 0 s x0 hs hx0
        have hx16 : x0.length ≤ 16 := HLN.out.2 x0 (List.mem_of_getElem? hx0)
        have hc0 : w2.cell? ⟨g, 0, none⟩ = some (.slice s.A x0.length s.c) := by
          rw [← hsn]
          refine hgc 0 _ ?_
          exact flat_get 1 svC svC_length svs 0 s 0 _ hs rfl
        have hgf0 := hgf 0
        have HC := Lib.hid (copyRow_ok s.A s.c x0 w2.drew (by omega) (hsT.sl))
        have H2F := Lib.hid (And.intro hsn (And.intro hsc (And.intro hscm (And.intro hs hx0))))
        clear hgc hgf hgT hsT hsn hsc hscm hs hx0
        go_wp2
        go_region_law (first
          | (go_simp; go_at_call 61; refine HC.out.mono ?_; rintro e w3 ⟨v3, rfl, how3, hb3'⟩; have hb3 : Below w2.heap.size w2 w3 := (Below.refl _ w2).drew.trans hb3'; clear hb3'; obtain ⟨A3, c3, rfl, hc31, hc32, hs3⟩ := how3.shape valC_length; have b3c : ∀ b o, b < w2.heap.size → w3.cell? ⟨b, o, none⟩ = w2.cell? ⟨b, o, none⟩ := (fun b o h => hb3.cell (p := ⟨b, o, none⟩) h); have b3f : ∀ b o, b < w2.heap.size → w3.frozen? ⟨b, o, none⟩ = w2.frozen? ⟨b, o, none⟩ := (fun b o h => hb3.frozen (p := ⟨b, o, none⟩) h); have HOx := Lib.hid ((HO2.out.on hb3).on (balloc (Below.refl _ _) (.cells #[.slice A3 x0.length c3] 42))); have HSx := Lib.hid (Row.sl' (w := w3.alloc (.cells #[.slice A3 x0.length c3] 42)) (t := 42) (xs := [(⟨A3, x0.length, c3⟩ : SV)]) svC_length ((Row.new w3 _ _).of rfl)); have hz3 : w2.heap.size ≤ w3.heap.size := hb3.size; have hsz4 : w.heap.size ≤ (w3.alloc (.cells #[.slice A3 x0.length c3] 42)).heap.size := (by simp; omega); have HB3 := Lib.hid hb3; have HR73 := Lib.hid ((R72.out.on hb3).alloc (.cells #[.slice A3 x0.length c3] 42)); have HRB3 := Lib.hid ((RB2.out.on hb3).alloc (.cells #[.slice A3 x0.length c3] 42)); have HX3 := Lib.hid (And.intro hs3 (And.intro hc31 hc32)); have b3c0 := (b3c w1.heap.size 0 p0).trans p3; have b3c1 := (b3c w1.heap.size 1 p0).trans p4; have b3f1 := (b3f w1.heap.size 1 p0).trans p2; have b3g := (b3c g 0 hgl).trans hc0; have b3l : w1.heap.size < w3.heap.size := (by omega); have b3k : w.heap.size < w3.heap.size := (by omega); have b3m : g < w3.heap.size := (by omega); clear b3c b3f hb3 how3 hs3 hc31 hc32)
          | (refine step_app rfl (.tmp 27) (.tmp 33) 27 rfl w.heap.size 42 _ 1 24 svC Try.underlying27 zeroRow rfl (by decide) (by decide) svC_length svC_one _ svs rfl HOx.out (some ⟨w3.heap.size, 0, none⟩) 1 1 [(⟨A3, x0.length, c3⟩ : SV)] rfl rfl HSx.out (by simp <;> omega) hsz4 ?_; intro v4 w4 how4 hgr4; obtain ⟨A4, c4, rfl, _, _, _⟩ := how4.shape svC_length; have R74 := HR73.out.keep (hgr4.block _ HR73.out.lt fun e => (TyAt.ne (HOx.out.ty _ e.symm).2.2 HR73.out.ty (by decide)) rfl); have RB4 := HRB3.out.keep (hgr4.block _ HRB3.out.lt fun e => (TyAt.ne (HOx.out.ty _ e.symm).2.2 HRB3.out.ty (by decide)) rfl); have s0 := R74.cell 0; have s1 := R74.cell 1; have s2 := R74.frozen 1; have s3 := RB4.cell 0; have s4 := RB4.cell 1; have s5 := RB4.frozen 0; have s6 := RB4.frozen 1; have s7 := R74.lt; have s8 := RB4.lt; have Hw4 := Lib.hid (And.intro how4 (And.intro hgr4 (And.intro R74 RB4))); clear how4 hgr4 R74 RB4))
        all_goals (
          go_wp2
          obtain ⟨how4, hgr4, R74, RB4⟩ := Hw4.out
          obtain ⟨hs3, hc31, hc32⟩ := HX3.out
          have hrow : ∀ q, Value.ownBlock _ = some q → w.heap.size ≤ q ∧ TyAt _ q 42 := fun q hq => ⟨(HOx.out.ty q hq).1, (HOx.out.ty q hq).2.2⟩
          have how4' : Ow w.heap.size 42 1 svC w4 (.slice A4 (svs.length + 1) c4) (svs ++ [⟨A3, x0.length, c3⟩]) := by rw [List.length_append] at how4; exact how4
          have hS1 := Only.set (S := fun i => i = w1.heap.size) (p := ⟨w1.heap.size, 1, none⟩) (Only.refl w4) (.inl rfl) (.slice A4 (svs.length + 1) c4)
          have hS2 := balloc (Below.refl _ w3) (.cells #[.slice A3 x0.length c3] 42)
          have hX4 := ((HRT2.out.on HB3.out).on hS2).grown hgr4 fun q hq => .inr ⟨_, by decide, (hrow q hq).2⟩
          have hs4 := ((hs3.on hS2).grown hgr4 fun q hq => .inr ⟨_, by decide, (hrow q hq).2⟩).low (show w.heap.size ≤ w2.drew.heap.size from by show w.heap.size ≤ w2.heap.size; omega)
          exact bodyPost_ret (v := .agg #[.int .i64 W, .slice A4 (svs.length + 1) c4]) (by simp [results, Try.results37, go_sem, s0, s1, s2, s3, s4, s5, s6, s7, s8, hne, hne']) rfl (anyFin (svs := svs ++ [⟨A3, x0.length, c3⟩]) (rows := rows ++ [x0]) (p' := p + 16001 + 1) hlt
            ((((B2.out.below HB3.out).alloc _).grown hgr4 fun q hq => .inr (hrow q hq).1).set (p := ⟨w1.heap.size, 1, none⟩) (.inr (show w.heap.size ≤ w1.heap.size by omega)) _)
            (how4'.only hS1 fun i hi => .inr ⟨29, by decide, by subst hi; exact R74.ty⟩)
            ((hX4.snoc rfl hc31 hc32 hs4).only hS1 fun i hi => .inr ⟨29, by decide, by subst hi; exact R74.ty⟩)
            ((((HR2.out.on HB3.out).on hS2).grown hgr4 fun q hq => by have := (hrow q hq).1; omega).set (a := ⟨w1.heap.size, 1, none⟩) (show b < w1.heap.size from hbl) _)
            (by omega)
            (RB4.far (p := ⟨w1.heap.size, 1, none⟩) hne' _).ty (by omega) (by have := HLN.out.1; simp; omega)
            (fun r hr => by
              rcases List.mem_append.1 hr with h1 | h1
              · exact HLN.out.2 r h1
              · simp only [List.mem_singleton] at h1
                subst h1
                exact hx16)))
    · by_cases h2 : r = 2
      · subst h2
        rcases Nat.eq_zero_or_pos svs.length with hz | hz
        · have hz0 : ¬ ((0 : Int) < (svs.length : Int)) := by omega
          have hzz := Lib.hid hz
          clear hz
          go_wp2
          exact bodyPost_ret (v := .agg #[.int .i64 W, .slice A1 svs.length c1]) (by simp [results, Try.results37, go_sem, q0, q1, q2, q3, q4]) rfl (anyFin hlt B2.out HO2.out HRT2.out HR2.out (by omega) RB2.out.ty (by omega) (by have := HLN.out.1; omega) HLN.out.2)
        · have hz0 : ((0 : Int) < (svs.length : Int)) := by omega
          obtain ⟨g, hA, _, hg, hgl, hgT, hgf, hgc⟩ := HO2.out.head svC_length hz
          subst hA
          have hHT := Lib.hid hgT
          have HAR := Lib.hid (anyRow_ok b (p + 16001 + 1) W w2.drew (HR2.out.on (Below.refl _ _).drew) (by omega) (by omega) hW1)
          obtain ⟨y0, hy0⟩ : ∃ y, w2.cell? ⟨g, 0, none⟩ = some y := ⟨_, hgc 0 _ (List.getElem?_eq_getElem (by rw [flat_length 1 svC svC_length]; omega))⟩
          have hgf0 := hgf 0
          clear hgf hgc hgT
          go_wp2
          go_region_law (first
            | (go_simp; go_at_call 62; refine HAR.out.mono ?_; rintro e w3 ⟨vb, ys, rfl, hyl, hyv, howb, hbb', hRb⟩; have hbb : But b w2 w3 := (Only.refl w2).drew.trans hbb'; clear hbb'; obtain ⟨Ab, cb, rfl, hcb1, hcb2, hsb⟩ := howb.shape valC_length; have hz3 : w2.heap.size ≤ w3.heap.size := hbb.size; have hob := HO2.out.only hbb (by intro k hk; left; omega); obtain ⟨g', hA', _, _, hgl3, _, hgf3, hgc3⟩ := hob.head svC_length hz; cases hA'; obtain ⟨y3, hy3⟩ : ∃ y, w3.cell? ⟨g, 0, none⟩ = some y := ⟨_, hgc3 0 _ (List.getElem?_eq_getElem (by rw [flat_length 1 svC svC_length]; omega))⟩; have hgf30 := hgf3 0; have hr7 := R72.out.only hbb (by omega); have hrb := RB2.out.only hbb (by omega); have s0 := hr7.cell 0; have s1 : w3.cell? ⟨w1.heap.size, 1, none⟩ = some (.slice (some ⟨g, 0, none⟩) svs.length c1) := hr7.cell 1; have s3 := hrb.cell 0; have s4 := hrb.cell 1; have s5 := hrb.frozen 0; have s6 := hrb.frozen 1; have s7 := hr7.lt; have s8 := hrb.lt; have HW3 := Lib.hid (And.intro hob (And.intro hr7 (And.intro hrb (And.intro hbb hRb)))); have HX3 := Lib.hid (And.intro hsb (And.intro hcb1 (And.intro hcb2 hyl))); clear hgf3 hgc3 hob hr7 hrb hbb hRb hsb hcb1 hcb2 hyl hyv howb))
          all_goals (
            have hgw : ¬ (g = w.heap.size) := fun e => (TyAt.ne hHT.out RB2.out.ty (by decide)) (by omega)
            have hgw' : ¬ (w.heap.size = g) := by omega
            have hg1 : ¬ (g = w1.heap.size) := fun e => (TyAt.ne hHT.out R72.out.ty (by decide)) e
            have hg1' : ¬ (w1.heap.size = g) := by omega
            go_wp2
            obtain ⟨how3, R73, RB3, hbb, hRb⟩ := HW3.out
            obtain ⟨hsb, hcb1, hcb2, hyl⟩ := HX3.out
            obtain ⟨_, _, hty3⟩ := how3.ty g rfl
            have hp3 := how3.put 0 (.slice Ab ys.length cb)
            rw [flat_setS svs 0 ⟨Ab, ys.length, cb⟩ hz] at hp3
            have how4 : Ow w.heap.size 42 1 svC (w3.setCell ⟨g, 0, none⟩ (.slice Ab ys.length cb)) (.slice (some ⟨g, 0, none⟩) svs.length c1) (svs.set 0 ⟨Ab, ys.length, cb⟩) := by unfold Ow; rw [List.length_set]; exact hp3
            have hS1 := Only.set (S := fun i => i = g) (p := ⟨g, 0, none⟩) (Only.refl w3) (.inl rfl) (.slice Ab ys.length cb)
            have hX4 := HRT2.out.only hbb (by intro k hk; left; omega)
            have hsb' := hsb.low (show w.heap.size ≤ w2.drew.heap.size from by show w.heap.size ≤ w2.heap.size; omega)
            exact bodyPost_ret (v := .agg #[.int .i64 W, .slice (some ⟨g, 0, none⟩) svs.length c1]) (by simp [results, Try.results37, go_sem, s0, s1, s3, s4, s5, s6, s7, s8, hne, hne', hgw, hgw', hg1, hg1']) rfl (anyFin (svs := svs.set 0 ⟨Ab, ys.length, cb⟩) (rows := rows.set 0 ys) (p' := p + 16001 + 1 + 72) hlt
              ((B2.out.trans hbb).set (p := ⟨g, 0, none⟩) (.inr (show w.heap.size ≤ g by omega)) _)
              how4
              ((hX4.only hS1 fun i hi => .inr ⟨42, by decide, by subst hi; exact hty3⟩).set rfl hcb1 hcb2 (hsb'.only hS1 fun i hi => .inr ⟨42, by decide, by subst hi; exact hty3⟩))
              (hRb.set (a := ⟨g, 0, none⟩) (show b < g by omega) _)
              (by omega)
              (RB3.far (p := ⟨g, 0, none⟩) hgw' _).ty (by omega) (by have := HLN.out.1; simp; omega)
              (fun r hr => by
                rcases List.mem_or_eq_of_mem_set hr with h | h
                · exact HLN.out.2 r h
                · subst h; exact hyl)))
      · go_wp2
        exact bodyPost_ret (v := .agg #[.int .i64 W, .slice A1 svs.length c1]) (by simp [results, Try.results37, go_sem, q0, q1, q2, q3, q4]) rfl (anyFin hlt B2.out HO2.out HRT2.out HR2.out (by omega) RB2.out.ty (by omega) (by have := HLN.out.1; omega) HLN.out.2)

end Go.Proofs.Ytfhafbincknaeaa
