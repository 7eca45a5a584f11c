/-
  Contracts: the program's text of a plan (planName, appendText, EncodePlan). (Printed by wip/enk.py.)
-/
import Derived.Test.YtmhlpjfijpomkaaGreatDoorProg
import Derived.Test.YtmhlpjfijpomkaaGreatDoorZqEnJ
import Derived.Test.YtmhlpjfijpomkaaGreatDoorZqEnG
namespace Go.Proofs.YtmhlpjfijpomkaaGreatDoor
open Go.RowKit Go.Qo
set_option linter.unusedVariables false
set_option linter.unusedSimpArgs false

theorem plAt_below {w w' : World} {B : Nat} (hb : Below B w w') : ∀ (n : Nat) (f : FP) (p : Pl), PlAt w B n f p → PlAt w' B n f p
  | 0, _, _, h => h.elim
  | n + 1, f, p, ⟨h1, h2, h3, h4, h5, h6, h7, fs, h8, h9, h10⟩ => ⟨h1, h2, h3, h4, h5, ExsIn.below h6 hb, h7.below hb, fs, h8, h9.below hb, fun i g x hg hx => plAt_below hb n g x (h10 i g x hg hx)⟩
theorem plIn_below {w w' : World} {B : Nat} {f : FP} {p : Pl} (h : PlIn w B f p) (hb : Below B w w') : PlIn w' B f p := h.imp fun n h => plAt_below hb n f p h
theorem plsIn_below {w w' : World} {B : Nat} {A : Option Addr} {ps : List Pl} (h : PlsIn w B A ps) (hb : Below B w w') : PlsIn w' B A ps := by
  obtain ⟨fs, h1, h2, h3⟩ := h
  exact ⟨fs, h1, h2.below hb, fun i g x hg hx => plIn_below (h3 i g x hg hx) hb⟩

set_option maxHeartbeats 1000000 in
theorem planName_ok (k : Int) (w : World) (h0 : 1 ≤ k) (h1 : k ≤ 8) : Calls Tryz.prog 69 #[.int .i64 k] w fun e w' => e = .returned (.string (bArr (plName k))) ∧ Below w.heap.size w w' := by
  obtain ⟨S, hS⟩ : ∃ S, bArr (plName k) = S := ⟨_, rfl⟩
  rw [hS]
  obtain ⟨n, rfl⟩ := Int.eq_ofNat_of_zero_le (show 0 ≤ k by omega)
  have hn : n = 1 ∨ n = 2 ∨ n = 3 ∨ n = 4 ∨ n = 5 ∨ n = 6 ∨ n = 7 ∨ n = 8 := by omega
  rcases hn with rfl | rfl | rfl | rfl | rfl | rfl | rfl | rfl
  all_goals
    subst hS
    go_enter Tryz.func69, Tryz.ntmps69
    go_wp2
    go_ret
    exact ⟨rfl, balloc (Below.refl _ _) _⟩

def ApP (p : Pl) : Prop := ∀ (f : FP) (b o lo d : Nat) (v : Value) (l : List UInt8) (w : World), b < lo → lo ≤ w.heap.size → FpAt w b o f → PlIn w lo f p → d ≤ 8 → TxOk d p → T10 lo w → l.length + (plText p).length ≤ 8388608 → Bt lo 5 w v l →
  Calls Tryz.prog 53 #[.pointer (some ⟨b, o, none⟩), v] w fun e w' => ∃ v', e = .returned v' ∧ Bt lo 5 w' v' (l ++ plText p) ∧ Below lo w w'

set_option maxRecDepth 20000 in
set_option maxHeartbeats 8000000 in
theorem appendPlan_ok : ∀ p : Pl, ApP p := Pl.ind fun p ih f b o lo d v l w hbl hlo hat h hd8 hx ht hlen how => by
  obtain ⟨a1, a2, ⟨e1, e2, e3⟩, ⟨i1, i2, i3⟩, ⟨j1, j2, j3⟩, hE, hC⟩ := h.flat
  obtain ⟨ho, te, tc, tt, tx, tcs, td, tks⟩ := txOk_iff.1 hx
  obtain ⟨c0, c1, c2, c3, c4⟩ := hat
  rw [a1] at c0
  rw [a2] at c1
  rw [e1] at c2
  rw [i1] at c3
  obtain ⟨cA, hcA⟩ : ∃ A, f.cs.A = A := ⟨_, rfl⟩
  rw [hcA] at c3 hC
  rw [j1] at c4
  obtain ⟨T1, hT1⟩ : ∃ T, 40 :: (plName p.kind ++ tabText p.kind p.table) = T := ⟨_, rfl⟩
  obtain ⟨T2, hT2⟩ : ∃ T, T1 ++ colsText p.cols = T := ⟨_, rfl⟩
  obtain ⟨T3, hT3⟩ : ∃ T, T2 ++ exsText p.exprs = T := ⟨_, rfl⟩
  have htx : plText p = T3 ++ plsText p.kids ++ [41] := by rw [plText_eq, ← hT3, ← hT2, ← hT1]; simp
  have hl3 : l.length + T3.length + (plsText p.kids).length + 1 ≤ 8388608 := by have := congrArg List.length htx; simp at this; omega
  have hl2 : T2.length + (exsText p.exprs).length ≤ T3.length := by have := congrArg List.length hT3; simp at this; omega
  have hl1 : T1.length + (colsText p.cols).length ≤ T2.length := by have := congrArg List.length hT2; simp at this; omega
  have hl0 : 1 + (plName p.kind).length + (tabText p.kind p.table).length ≤ T1.length := by have := congrArg List.length hT1; simp at this; omega
  obtain ⟨So, hSo⟩ : ∃ S, bArr (plName p.kind) = S := ⟨_, rfl⟩
  have HSo := Lib.hid hSo
  have HN := Lib.hid (fun z => planName_ok p.kind z ho.1.1 ho.1.2)
  rw [hSo] at HN
  have HE := Lib.hid hE
  have HC := Lib.hid hC
  have HK := Lib.hid (plKids_in h)
  have HI := Lib.hid ih
  have HTb := Lib.hid ht
  have HT := Lib.hid (And.intro (And.intro te (And.intro tc (And.intro tt trivial))) (And.intro tx (And.intro tcs (And.intro td tks))))
  have Htx := Lib.hid htx
  have HL := Lib.hid (And.intro hl0 (And.intro hl1 (And.intro hl2 hl3)))
  have HTT := Lib.hid (And.intro hT1 (And.intro hT2 hT3))
  have C2 := Lib.hid c2
  have C3 := Lib.hid c3
  have C4 := Lib.hid c4
  have Cc1 := Lib.hid c1
  have hm1 : p.exprs.length ≤ maxLen := by omega
  have hm2 : p.cols.length ≤ maxLen := by omega
  have hm3 : p.kids.length ≤ maxLen := by omega
  unfold maxLen at hm1 hm2 hm3
  have HO1 := Lib.hid (how.on (balloc (Below.refl _ _) (.cells #[.int .u8 40] 5)))
  have HS1 := Lib.hid (ub_row (w := w) (e := 5) 40)
  have HB1 := Lib.hid (show Below lo w (w.alloc (.cells #[.int .u8 40] 5)) from ((Below.refl lo w).alloc hlo _))
  have hz1 : lo ≤ (w.alloc (.cells #[.int .u8 40] 5)).heap.size := by simp; omega
  clear h ih hE hC how ht hx ho te tc tt tx tcs td tks a1 a2 e1 e2 e3 i1 i2 i3 j1 j2 j3 hSo hT1 hT2 hT3 htx hl0 hl1 hl2 hl3 hlen c1 c2 c3 c4 hcA
  go_enter Tryz.func53, Tryz.ntmps53
  go_wp2_with (at_builtin; refine wpList_btL rfl (.tmp 9) (.tmp 10) 35 rfl lo 5 Tryz.underlying35 zeroU8T _ l rfl HO1.out (some ⟨w.heap.size, 0, none⟩) 1 1 [40] rfl rfl HS1.out (by have := HL.out; simp; omega) hz1 ?_; intro v2 w2 ho2 hb2; have HO2 := Lib.hid ho2; have HB2 := Lib.hid (HB1.out.trans hb2); have d0 := (HB2.out.cell (p := ⟨_, _, none⟩) hbl).trans c0; clear ho2 hb2)
  have hz2 : lo ≤ w2.heap.size := Nat.le_trans hlo HB2.out.size
  refine (HN.out w2).mono ?_
  rintro e w3 ⟨rfl, hb3⟩
  have HO3 := Lib.hid (HO2.out.on hb3)
  have HB3 := Lib.hid (HB2.out.trans (hb3.mono hz2))
  have hz3 : lo ≤ w3.heap.size := Nat.le_trans hz2 hb3.size
  clear hb3 d0
  by_cases hk1 : p.kind = 1
  · have Hk1 := Lib.hid hk1
    rw [hk1] at c0 ⊢
    clear hk1
    go_wp2_with (at_builtin; refine wpList_btS rfl (.tmp 12) (.tmp 17) 35 9 rfl lo 5 Tryz.underlying35 Tryz.underlying9 zeroU8T _ (l ++ [40]) rfl HO3.out So (plName p.kind) rfl HSo.out (by have := HL.out; simp; omega) hz3 ?_; intro v4 w4 ho4 hb4; have HO4 := Lib.hid ho4; have HB4 := Lib.hid (HB3.out.trans hb4); have d4 := (HB4.out.cell (p := ⟨_, _, none⟩) hbl).trans c0)
    have ck := (HB4.out.cell (p := ⟨b, o + 1, none⟩) hbl).trans Cc1.out
    have hzr : lo ≤ w4.heap.size := Nat.le_trans hlo HB4.out.size
    have htr := HT.out.1.2.2.1
    have Htr := Lib.hid htr
    have Hll := Lib.hid (show l.length + 1 + (plName p.kind).length + 30 ≤ 8388700 by have := HL.out; omega)
    clear htr
    go_wp2
    obtain ⟨u, hu⟩ : ∃ u, w4.drew = u := ⟨_, rfl⟩
    have Bu : Hid (Below w4.heap.size w4 u) := Lib.hid (hu ▸ (Below.refl _ _).drew)
    have Hu := Lib.hid hu
    clear hu
    refine wp_region_held_drew (S := fun z => z.cell? ⟨b, o + 1, none⟩ = some (.int .i64 p.table)) (by kernel_rfl) ?_ (fun hHeld => ?_)
    · exact ck
    rw [Hu.out] at hHeld ⊢
    refine takeL (i := 0) (v := ?v1) rfl (by kernel_rfl) (by kernel_rfl) (by kernel_rfl) (fun _ _ _ h => h) (Or.inl ⟨by rfl, ?hy1⟩) (by assumption) ?_
    case hy1 => ((intro w' hSw; (try dsimp only at hSw); go_simp) <;> with_reducible rfl)
    try simp only [Act.put, List.setIfInBounds_toArray, List.set_cons_zero, List.set_cons_succ]
    refine takeL (i := 3) (v := ?v2) rfl (by kernel_rfl) (by kernel_rfl) (by kernel_rfl) (fun _ _ _ h => h) (Or.inl ⟨by rfl, ?hy2⟩) (by assumption) ?_
    case hy2 => ((intro w' hSw; (try dsimp only at hSw); go_simp) <;> with_reducible rfl)
    try simp only [Act.put, List.setIfInBounds_toArray, List.set_cons_zero, List.set_cons_succ]
    refine takeL (i := 4) (v := ?v3) rfl (by kernel_rfl) (by kernel_rfl) (by kernel_rfl) (fun _ _ _ h => h) (Or.inl ⟨by rfl, ?hy3⟩) (by assumption) ?_
    case hy3 => ((intro w' hSw; (try dsimp only at hSw); go_simp) <;> with_reducible rfl)
    try simp only [Act.put, List.setIfInBounds_toArray, List.set_cons_zero, List.set_cons_succ]
    refine takeL (i := 5) (v := ?v4) rfl (by kernel_rfl) (by kernel_rfl) (by kernel_rfl) (fun _ _ _ h => h) (Or.inl ⟨by rfl, ?hy4⟩) (by assumption) ?_
    case hy4 => ((intro w' hSw; (try dsimp only at hSw); go_simp) <;> with_reducible rfl)
    try simp only [Act.put, List.setIfInBounds_toArray, List.set_cons_zero, List.set_cons_succ]
    refine takeL (i := 6) (v := ?v5) rfl (by kernel_rfl) (by kernel_rfl) (by kernel_rfl) (fun _ _ _ h => h) (Or.inl ⟨by rfl, ?hy5⟩) (by assumption) ?_
    case hy5 => ((intro w' hSw; (try dsimp only at hSw); go_simp) <;> with_reducible rfl)
    try simp only [Act.put, List.setIfInBounds_toArray, List.set_cons_zero, List.set_cons_succ]
    refine wpAnyH_ready (rs := [1]) (by kernel_rfl) (by simp) ?_
    refine readyL rfl (fun K hK => ?_) AllReadyH.nil
    obtain ⟨x1, hx1⟩ : ∃ z, u.alloc (.cells #[.int .u8 32] 5) = z := ⟨_, rfl⟩
    have bx1 : Below u.heap.size u x1 := by rw [← hx1]; exact balloc (Below.refl _ _) _
    have S1 := Lib.hid (show Sl 1 ubC x1 x1.heap.size (some ⟨u.heap.size, 0, none⟩) [32] by rw [← hx1]; exact ub_row 32)
    have B1 := Lib.hid ((Bu.out.mono hzr).trans (bx1.mono (Nat.le_trans hzr Bu.out.size)))
    have O1 := Lib.hid ((HO4.out.on Bu.out).on bx1)
    clear bx1
    go_simp
    try rw [hx1]
    clear hx1
    refine hK.out _ _ ?hS6 (fun hHeld => ?_)
    case hS6 => exact (B1.out.cell (p := ⟨_, _, none⟩) hbl).trans ck
    clear hK K
    try simp only [Act.put, List.setIfInBounds_toArray, List.set_cons_zero, List.set_cons_succ]
    refine wpAnyH_ready (rs := [2]) (by kernel_rfl) (by simp) ?_
    refine readyL rfl (fun K hK => ?_) AllReadyH.nil
    refine step_btL rfl (.tmp 24) (.tmp 25) 35 rfl lo 5 Tryz.underlying35 zeroU8T _ _ rfl O1.out (some ⟨u.heap.size, 0, none⟩) 1 1 [32] rfl rfl S1.out (by have := Hll.out; simp; omega) (Nat.le_trans hzr B1.out.size) ?_
    intro v6 x2 ho2 hb2
    have B2 := Lib.hid (B1.out.trans hb2)
    have O2 := Lib.hid ho2
    clear ho2 hb2
    refine hK.out _ _ ?hS7 (fun hHeld => ?_)
    case hS7 => exact (B2.out.cell (p := ⟨_, _, none⟩) hbl).trans ck
    clear hK K
    try simp only [Act.put, List.setIfInBounds_toArray, List.set_cons_zero, List.set_cons_succ]
    refine wpAnyH_ready (rs := [7]) (by kernel_rfl) (by simp) ?_
    refine readyL rfl (fun K hK => ?_) AllReadyH.nil
    go_simp
    go_at_call 96
    refine (Tryz.strconv_AppendInt_10 lo _ p.table (by have := Htr.out; omega) (by have := Htr.out; omega) _ _ x2 O2.out.row (Nat.le_trans hzr B2.out.size) (by have := Hll.out; simp; omega) (HTb.out.on (HB4.out.trans B2.out))).mono ?_
    rintro e x3 ⟨v7, rfl, ho3, hb3, _⟩
    have B3 := Lib.hid (B2.out.trans hb3)
    have O3 := Lib.hid (show Bt lo 5 x3 v7 (l ++ T1) from Bt.of (by
      have e1 : l ++ T1 = (l ++ [40] ++ plName p.kind ++ [32]) ++ Lib.itoa p.table := by rw [← HTT.out.1, Hk1.out]; simp [tabText]
      rw [e1, Lib.byteCells_append, List.length_append]
      exact ho3))
    clear ho3 hb3
    refine hK.out _ _ ?hS8 (fun hHeld => ?_)
    case hS8 => exact (B3.out.cell (p := ⟨_, _, none⟩) hbl).trans ck
    clear hK K
    try simp only [Act.put, List.setIfInBounds_toArray, List.set_cons_zero, List.set_cons_succ]
    refine takeL (i := 8) (v := ?v9) rfl (by kernel_rfl) (by kernel_rfl) (by kernel_rfl) (fun _ _ _ h => h) (Or.inl ⟨by rfl, ?hy9⟩) (by assumption) ?_
    case hy9 => ((intro w' hSw; (try dsimp only at hSw); go_simp) <;> with_reducible rfl)
    try simp only [Act.put, List.setIfInBounds_toArray, List.set_cons_zero, List.set_cons_succ]
    refine wpAnyH_done (by kernel_rfl) ?_ _
    have HBX := Lib.hid (HB4.out.trans B3.out)
    clear d4 ck
    have hlo1 : lo ≤ x3.heap.size := Nat.le_trans hlo HBX.out.size
    have c3 := (HBX.out.cell (p := ⟨b, o + 3, none⟩) hbl).trans C3.out
    go_wp2
    clear c3
    go_loopg [1, 37] p.cols.length (fun g ov iv wr => ∃ i : Nat, i ≤ p.cols.length ∧ g = p.cols.length - i ∧ iv = .int .i64 i ∧ Bt lo 5 wr ov (l ++ (T1 ++ colsText (p.cols.take i))) ∧ Below lo w wr)
    case atStart => exact ⟨0, by omega, by omega, rfl, by have := O3.out; simpa [colsText] using this, HBX.out⟩
    case round =>
      obtain ⟨i, hi, rfl, rfl, ho, hb⟩ := hrel
      have HB := Lib.hid hb
      have HOr := Lib.hid ho
      have hzr : lo ≤ wr.heap.size := Nat.le_trans hlo hb.size
      have hct : (colsText (p.cols.take i)).length ≤ (colsText p.cols).length := by
        have e : colsText p.cols = colsText (p.cols.take i) ++ colsText (p.cols.drop i) := by rw [← colsText_append, List.take_append_drop]
        rw [e]; simp
      have Hll := Lib.hid (show l.length + T1.length + (colsText (p.cols.take i)).length ≤ 8388607 by have := HL.out; omega)
      clear ho hb hct
      by_cases hlt : i < p.cols.length
      · obtain ⟨b1, o1, hA, hB1, hcell⟩ := (HC.out.below HB.out).at_ hlt
        have hcell0 : wr.cell? ⟨b1, o1 + i, none⟩ = some (.int .i64 p.cols[i]) := by simpa using hcell 0 _ rfl
        have hil : (i : Int) < (p.cols.length : Int) := by omega
        have hcr := HT.out.2.2.1 _ (List.getElem_mem hlt)
        have HO5 := Lib.hid (HOr.out.on (balloc (Below.refl _ _) (.cells #[.int .u8 32] 5)))
        have HS5 := Lib.hid (ub_row (w := wr) (e := 5) 32)
        have HB5 := Lib.hid (show Below lo w (wr.alloc (.cells #[.int .u8 32] 5)) from HB.out.alloc hzr _)
        have hz5 : lo ≤ (wr.alloc (.cells #[.int .u8 32] 5)).heap.size := by simp; omega
        have HCr := Lib.hid hcr
        clear hcell hcr
        subst hA
        go_wp2_with (at_builtin; refine wpList_btL rfl (.tmp 41) (.tmp 42) 35 rfl lo 5 Tryz.underlying35 zeroU8T _ (l ++ (T1 ++ colsText (p.cols.take i))) rfl HO5.out (some ⟨wr.heap.size, 0, none⟩) 1 1 [32] rfl rfl HS5.out (by have := Hll.out; simp; omega) hz5 ?_; intro v6 w6 ho6 hb6; have HO6 := Lib.hid ho6; have HB6 := Lib.hid (HB5.out.trans hb6); clear ho6 hb6)
        refine (appendColumn_ok lo _ _ p.cols[i] w6 HO6.out (Nat.le_trans hlo HB6.out.size) (HTb.out.on HB6.out) (by have := Hll.out; simp; omega) (by have := HCr.out; omega) (by have := HCr.out; omega)).mono ?_
        rintro e w7 ⟨v7, rfl, ho7, hb7⟩
        have HO7 := Lib.hid ho7
        have HB7 := Lib.hid (HB6.out.trans hb7)
        clear ho7 hb7
        go_wp2
        go_roundg (p.cols.length - (i + 1))
        case measure => omega
        case rel =>
          refine ⟨i + 1, by omega, rfl, by go_num, ?_, HB7.out⟩
          have := HO7.out
          rw [List.take_succ_eq_append_getElem hlt, colsText_snoc]
          simpa using this
      · have hfin : p.cols.take i = p.cols := List.take_of_length_le (by omega)
        rw [hfin, HTT.out.2.1] at HOr
        have Hx1 := Lib.hid HB.out
        have Ho1 := Lib.hid HOr.out
        have c2 := (HB.out.cell (p := ⟨b, o + 2, none⟩) hbl).trans C2.out
        clear hfin HOr
        go_wp2
        clear c2
        go_loopg [1, 52] p.exprs.length (fun g ov iv wr => ∃ i : Nat, i ≤ p.exprs.length ∧ g = p.exprs.length - i ∧ iv = .int .i64 i ∧ Bt lo 5 wr ov (l ++ (T2 ++ exsText (p.exprs.take i))) ∧ Below lo w wr)
        case atStart => exact ⟨0, by omega, by omega, rfl, by have := Ho1.out; simpa [exsText] using this, Hx1.out⟩
        case round =>
          clear hlt HB hi hzr Hll
          obtain ⟨i, hi, rfl, rfl, ho, hb⟩ := hrel
          have HB := Lib.hid hb
          have HOr := Lib.hid ho
          have hzr : lo ≤ wr.heap.size := Nat.le_trans hlo hb.size
          have hct : (exsText (p.exprs.take i)).length ≤ (exsText p.exprs).length := by
            have e : exsText p.exprs = exsText (p.exprs.take i) ++ exsText (p.exprs.drop i) := by rw [← exsText_append, List.take_append_drop]
            rw [e]; simp
          have Hll := Lib.hid (show l.length + T2.length + (exsText (p.exprs.take i)).length ≤ 8388608 by have := HL.out; omega)
          clear ho hb hct
          by_cases hlt : i < p.exprs.length
          · obtain ⟨b1, o1, g, hA, hB1, hat1, hg⟩ := (ExsIn.below HE.out HB.out).at_ hlt
            have hil : (i : Int) < (p.exprs.length : Int) := by omega
            have hok := HT.out.2.1 _ (List.getElem_mem hlt)
            have hl1 : (exsText (p.exprs.take i)).length + 1 + (exText p.exprs[i]).length ≤ (exsText p.exprs).length := by
              have e : exsText p.exprs = exsText (p.exprs.take (i + 1)) ++ exsText (p.exprs.drop (i + 1)) := by rw [← exsText_append, List.take_append_drop]
              rw [List.take_succ_eq_append_getElem hlt, exsText_snoc] at e
              rw [e]
              simp
              omega
            have ck : wr.cell? ⟨b, o + 2, none⟩ = some (.slice (some ⟨b1, o1, none⟩) p.exprs.length f.es.c) := by rw [← hA]; exact (HB.out.cell (p := ⟨_, _, none⟩) hbl).trans C2.out
            have HX := Lib.hid (fun (z : World) (v' : Value) (hz : Below lo wr z) (hv : Bt lo 5 z v' (l ++ (T2 ++ exsText (p.exprs.take i)) ++ [32])) => appendText_ok p.exprs[i] g b1 (o1 + i * 5) lo 8 v' _ z hB1 (Nat.le_trans hzr hz.size) (by
              obtain ⟨e0, e1, e2, e3, e4⟩ := hat1
              exact ⟨(hz.cell (p := ⟨_, _, none⟩) hB1).trans e0, (hz.cell (p := ⟨_, _, none⟩) hB1).trans e1, (hz.cell (p := ⟨_, _, none⟩) hB1).trans e2, (hz.cell (p := ⟨_, _, none⟩) hB1).trans e3, (hz.cell (p := ⟨_, _, none⟩) hB1).trans e4⟩) (hg.below hz) (by omega) hok (HTb.out.on (HB.out.trans hz)) (by have := HL.out; simp; omega) hv)
            clear hok hat1 hg hA hl1
            go_wp2
            obtain ⟨u, hu⟩ : ∃ u, wr.drew = u := ⟨_, rfl⟩
            have Bu : Hid (Below wr.heap.size wr u) := Lib.hid (hu ▸ (Below.refl _ _).drew)
            have Hu := Lib.hid hu
            clear hu
            refine wp_region_held_drew (S := fun z => z.cell? ⟨b, o + 2, none⟩ = some (.slice (some ⟨b1, o1, none⟩) p.exprs.length f.es.c)) (by kernel_rfl) ?_ (fun hHeld => ?_)
            · exact ck
            rw [Hu.out] at hHeld ⊢
            refine takeL (i := 0) (v := ?v10) rfl (by kernel_rfl) (by kernel_rfl) (by kernel_rfl) (fun _ _ _ h => h) (Or.inl ⟨by rfl, ?hy10⟩) (by assumption) ?_
            case hy10 => ((intro w' hSw; (try dsimp only at hSw); go_simp) <;> with_reducible rfl)
            try simp only [Act.put, List.setIfInBounds_toArray, List.set_cons_zero, List.set_cons_succ]
            refine takeL (i := 1) (v := ?v11) rfl (by kernel_rfl) (by kernel_rfl) (by kernel_rfl) (fun _ _ _ h => h) (Or.inl ⟨by rfl, ?hy11⟩) (by assumption) ?_
            case hy11 => ((intro w' hSw; (try dsimp only at hSw); go_simp) <;> with_reducible rfl)
            try simp only [Act.put, List.setIfInBounds_toArray, List.set_cons_zero, List.set_cons_succ]
            refine takeL (i := 2) (v := ?v12) rfl (by kernel_rfl) (by kernel_rfl) (by kernel_rfl) (fun _ _ _ h => h) (Or.inl ⟨by rfl, ?hy12⟩) (by assumption) ?_
            case hy12 => ((intro w' hSw; (try dsimp only at hSw); go_simp) <;> with_reducible rfl)
            try simp only [Act.put, List.setIfInBounds_toArray, List.set_cons_zero, List.set_cons_succ]
            refine takeL (i := 3) (v := ?v13) rfl (by kernel_rfl) (by kernel_rfl) (by kernel_rfl) (fun _ _ _ h => h) (Or.inl ⟨by rfl, ?hy13⟩) (by assumption) ?_
            case hy13 => ((intro w' hSw; (try dsimp only at hSw); go_simp) <;> with_reducible rfl)
            try simp only [Act.put, List.setIfInBounds_toArray, List.set_cons_zero, List.set_cons_succ]
            refine takeL (i := 4) (v := ?v14) rfl (by kernel_rfl) (by kernel_rfl) (by kernel_rfl) (fun _ _ _ h => h) (Or.inl ⟨by rfl, ?hy14⟩) (by assumption) ?_
            case hy14 => ((intro w' hSw; (try dsimp only at hSw); go_simp) <;> with_reducible rfl)
            try simp only [Act.put, List.setIfInBounds_toArray, List.set_cons_zero, List.set_cons_succ]
            refine takeL (i := 5) (v := ?v15) rfl (by kernel_rfl) (by kernel_rfl) (by kernel_rfl) (fun _ _ _ h => h) (Or.inl ⟨by rfl, ?hy15⟩) (by assumption) ?_
            case hy15 => ((intro w' hSw; (try dsimp only at hSw); go_simp) <;> with_reducible rfl)
            try simp only [Act.put, List.setIfInBounds_toArray, List.set_cons_zero, List.set_cons_succ]
            refine takeL (i := 6) (v := ?v16) rfl (by kernel_rfl) (by kernel_rfl) (by kernel_rfl) (fun _ _ _ h => h) (Or.inl ⟨by rfl, ?hy16⟩) (by assumption) ?_
            case hy16 => ((intro w' hSw; (try dsimp only at hSw); go_simp) <;> with_reducible rfl)
            try simp only [Act.put, List.setIfInBounds_toArray, List.set_cons_zero, List.set_cons_succ]
            refine wpAnyH_ready (rs := [7]) (by kernel_rfl) (by simp) ?_
            refine readyL rfl (fun K hK => ?_) AllReadyH.nil
            obtain ⟨x1, hx1⟩ : ∃ z, u.alloc (.cells #[.int .u8 32] 5) = z := ⟨_, rfl⟩
            have bx1 : Below u.heap.size u x1 := by rw [← hx1]; exact balloc (Below.refl _ _) _
            have S1 := Lib.hid (show Sl 1 ubC x1 x1.heap.size (some ⟨u.heap.size, 0, none⟩) [32] by rw [← hx1]; exact ub_row 32)
            have B1 := Lib.hid ((Bu.out.mono hzr).trans (bx1.mono (Nat.le_trans hzr Bu.out.size)))
            have O1 := Lib.hid ((HOr.out.on Bu.out).on bx1)
            clear bx1
            go_simp
            try rw [hx1]
            clear hx1
            refine hK.out _ _ ?hS17 (fun hHeld => ?_)
            case hS17 => exact (B1.out.cell (p := ⟨_, _, none⟩) hbl).trans ck
            clear hK K
            try simp only [Act.put, List.setIfInBounds_toArray, List.set_cons_zero, List.set_cons_succ]
            refine wpAnyH_ready (rs := [8]) (by kernel_rfl) (by simp) ?_
            refine readyL rfl (fun K hK => ?_) AllReadyH.nil
            refine step_btL rfl (.tmp 61) (.tmp 62) 35 rfl lo 5 Tryz.underlying35 zeroU8T _ _ rfl O1.out (some ⟨u.heap.size, 0, none⟩) 1 1 [32] rfl rfl S1.out (by have := Hll.out; simp; omega) (Nat.le_trans hzr B1.out.size) ?_
            intro v6 x2 ho2 hb2
            have B2 := Lib.hid (B1.out.trans hb2)
            have O2 := Lib.hid ho2
            clear ho2 hb2
            refine hK.out _ _ ?hS18 (fun hHeld => ?_)
            case hS18 => exact (B2.out.cell (p := ⟨_, _, none⟩) hbl).trans ck
            clear hK K
            try simp only [Act.put, List.setIfInBounds_toArray, List.set_cons_zero, List.set_cons_succ]
            refine wpAnyH_ready (rs := [9]) (by kernel_rfl) (by simp) ?_
            refine readyL rfl (fun K hK => ?_) AllReadyH.nil
            go_simp
            go_at_call 49
            refine (HX.out x2 v6 B2.out (by have := O2.out; simpa using this)).mono ?_
            rintro e x3 ⟨v7, rfl, ho3, hb3⟩
            have B3 := Lib.hid (B2.out.trans hb3)
            have O3 := Lib.hid ho3
            clear ho3 hb3
            refine hK.out _ _ ?hS19 (fun hHeld => ?_)
            case hS19 => exact (B3.out.cell (p := ⟨_, _, none⟩) hbl).trans ck
            clear hK K
            try simp only [Act.put, List.setIfInBounds_toArray, List.set_cons_zero, List.set_cons_succ]
            refine takeL (i := 10) (v := ?v20) rfl (by kernel_rfl) (by kernel_rfl) (by kernel_rfl) (fun _ _ _ h => h) (Or.inl ⟨by rfl, ?hy20⟩) (by assumption) ?_
            case hy20 => ((intro w' hSw; (try dsimp only at hSw); go_simp) <;> with_reducible rfl)
            try simp only [Act.put, List.setIfInBounds_toArray, List.set_cons_zero, List.set_cons_succ]
            refine wpAnyH_done (by kernel_rfl) ?_ _
            go_wp2
            go_roundg (p.exprs.length - (i + 1))
            case measure => omega
            case rel =>
              refine ⟨i + 1, by omega, rfl, by go_num, ?_, HB.out.trans B3.out⟩
              have := O3.out
              rw [List.take_succ_eq_append_getElem hlt, exsText_snoc]
              simpa using this
          · have hfin : p.exprs.take i = p.exprs := List.take_of_length_le (by omega)
            rw [hfin, HTT.out.2.2] at HOr
            have Hx2 := Lib.hid HB.out
            have Ho2 := Lib.hid HOr.out
            have c4 := (HB.out.cell (p := ⟨b, o + 4, none⟩) hbl).trans C4.out
            clear hfin HOr
            go_wp2
            clear c4
            go_loopg [1, 71] p.kids.length (fun g ov iv wr => ∃ i : Nat, i ≤ p.kids.length ∧ g = p.kids.length - i ∧ iv = .int .i64 i ∧ Bt lo 5 wr ov (l ++ (T3 ++ plsText (p.kids.take i))) ∧ Below lo w wr)
            case atStart => exact ⟨0, by omega, by omega, rfl, by have := Ho2.out; simpa [plsText] using this, Hx2.out⟩
            case round =>
              clear hlt HB hi hzr Hll
              obtain ⟨i, hi, rfl, rfl, ho, hb⟩ := hrel
              have HB := Lib.hid hb
              have HOr := Lib.hid ho
              have hzr : lo ≤ wr.heap.size := Nat.le_trans hlo hb.size
              have hct : (plsText (p.kids.take i)).length ≤ (plsText p.kids).length := by
                have e : plsText p.kids = plsText (p.kids.take i) ++ plsText (p.kids.drop i) := by rw [← plsText_append, List.take_append_drop]
                rw [e]; simp
              have Hll := Lib.hid (show l.length + T3.length + (plsText (p.kids.take i)).length + 1 ≤ 8388608 by have := HL.out; omega)
              clear ho hb hct
              by_cases hlt : i < p.kids.length
              · obtain ⟨b1, o1, g, hA, hB1, hat1, hg⟩ := (plsIn_below HK.out HB.out).at_ hlt
                have hil : (i : Int) < (p.kids.length : Int) := by omega
                have hmem := List.getElem_mem hlt
                have hd0 : 0 < d := HT.out.2.2.2.1 (by omega)
                have hok := HT.out.2.2.2.2 _ hmem
                have hl1 : (plsText (p.kids.take i)).length + 1 + (plText p.kids[i]).length ≤ (plsText p.kids).length := by
                  have e : plsText p.kids = plsText (p.kids.take (i + 1)) ++ plsText (p.kids.drop (i + 1)) := by rw [← plsText_append, List.take_append_drop]
                  rw [List.take_succ_eq_append_getElem hlt, plsText_snoc] at e
                  rw [e]
                  simp
                  omega
                have ck : wr.cell? ⟨b, o + 4, none⟩ = some (.slice (some ⟨b1, o1, none⟩) p.kids.length f.ks.c) := by rw [← hA]; exact (HB.out.cell (p := ⟨_, _, none⟩) hbl).trans C4.out
                have HX := Lib.hid (fun (z : World) (v' : Value) (hz : Below lo wr z) (hv : Bt lo 5 z v' (l ++ (T3 ++ plsText (p.kids.take i)) ++ [32])) => HI.out _ hmem g b1 (o1 + i * 5) lo (d - 1) v' _ z hB1 (Nat.le_trans hzr hz.size) (by
                  obtain ⟨e0, e1, e2, e3, e4⟩ := hat1
                  exact ⟨(hz.cell (p := ⟨_, _, none⟩) hB1).trans e0, (hz.cell (p := ⟨_, _, none⟩) hB1).trans e1, (hz.cell (p := ⟨_, _, none⟩) hB1).trans e2, (hz.cell (p := ⟨_, _, none⟩) hB1).trans e3, (hz.cell (p := ⟨_, _, none⟩) hB1).trans e4⟩) (plIn_below hg hz) (by omega) hok (HTb.out.on (HB.out.trans hz)) (by have := HL.out; simp; omega) hv)
                clear hok hat1 hg hA hl1 hmem
                go_wp2
                obtain ⟨u, hu⟩ : ∃ u, wr.drew = u := ⟨_, rfl⟩
                have Bu : Hid (Below wr.heap.size wr u) := Lib.hid (hu ▸ (Below.refl _ _).drew)
                have Hu := Lib.hid hu
                clear hu
                refine wp_region_held_drew (S := fun z => z.cell? ⟨b, o + 4, none⟩ = some (.slice (some ⟨b1, o1, none⟩) p.kids.length f.ks.c)) (by kernel_rfl) ?_ (fun hHeld => ?_)
                · exact ck
                rw [Hu.out] at hHeld ⊢
                refine takeL (i := 0) (v := ?v21) rfl (by kernel_rfl) (by kernel_rfl) (by kernel_rfl) (fun _ _ _ h => h) (Or.inl ⟨by rfl, ?hy21⟩) (by assumption) ?_
                case hy21 => ((intro w' hSw; (try dsimp only at hSw); go_simp) <;> with_reducible rfl)
                try simp only [Act.put, List.setIfInBounds_toArray, List.set_cons_zero, List.set_cons_succ]
                refine takeL (i := 1) (v := ?v22) rfl (by kernel_rfl) (by kernel_rfl) (by kernel_rfl) (fun _ _ _ h => h) (Or.inl ⟨by rfl, ?hy22⟩) (by assumption) ?_
                case hy22 => ((intro w' hSw; (try dsimp only at hSw); go_simp) <;> with_reducible rfl)
                try simp only [Act.put, List.setIfInBounds_toArray, List.set_cons_zero, List.set_cons_succ]
                refine takeL (i := 2) (v := ?v23) rfl (by kernel_rfl) (by kernel_rfl) (by kernel_rfl) (fun _ _ _ h => h) (Or.inl ⟨by rfl, ?hy23⟩) (by assumption) ?_
                case hy23 => ((intro w' hSw; (try dsimp only at hSw); go_simp) <;> with_reducible rfl)
                try simp only [Act.put, List.setIfInBounds_toArray, List.set_cons_zero, List.set_cons_succ]
                refine takeL (i := 3) (v := ?v24) rfl (by kernel_rfl) (by kernel_rfl) (by kernel_rfl) (fun _ _ _ h => h) (Or.inl ⟨by rfl, ?hy24⟩) (by assumption) ?_
                case hy24 => ((intro w' hSw; (try dsimp only at hSw); go_simp) <;> with_reducible rfl)
                try simp only [Act.put, List.setIfInBounds_toArray, List.set_cons_zero, List.set_cons_succ]
                refine takeL (i := 4) (v := ?v25) rfl (by kernel_rfl) (by kernel_rfl) (by kernel_rfl) (fun _ _ _ h => h) (Or.inl ⟨by rfl, ?hy25⟩) (by assumption) ?_
                case hy25 => ((intro w' hSw; (try dsimp only at hSw); go_simp) <;> with_reducible rfl)
                try simp only [Act.put, List.setIfInBounds_toArray, List.set_cons_zero, List.set_cons_succ]
                refine takeL (i := 5) (v := ?v26) rfl (by kernel_rfl) (by kernel_rfl) (by kernel_rfl) (fun _ _ _ h => h) (Or.inl ⟨by rfl, ?hy26⟩) (by assumption) ?_
                case hy26 => ((intro w' hSw; (try dsimp only at hSw); go_simp) <;> with_reducible rfl)
                try simp only [Act.put, List.setIfInBounds_toArray, List.set_cons_zero, List.set_cons_succ]
                refine takeL (i := 6) (v := ?v27) rfl (by kernel_rfl) (by kernel_rfl) (by kernel_rfl) (fun _ _ _ h => h) (Or.inl ⟨by rfl, ?hy27⟩) (by assumption) ?_
                case hy27 => ((intro w' hSw; (try dsimp only at hSw); go_simp) <;> with_reducible rfl)
                try simp only [Act.put, List.setIfInBounds_toArray, List.set_cons_zero, List.set_cons_succ]
                refine wpAnyH_ready (rs := [7]) (by kernel_rfl) (by simp) ?_
                refine readyL rfl (fun K hK => ?_) AllReadyH.nil
                obtain ⟨x1, hx1⟩ : ∃ z, u.alloc (.cells #[.int .u8 32] 5) = z := ⟨_, rfl⟩
                have bx1 : Below u.heap.size u x1 := by rw [← hx1]; exact balloc (Below.refl _ _) _
                have S1 := Lib.hid (show Sl 1 ubC x1 x1.heap.size (some ⟨u.heap.size, 0, none⟩) [32] by rw [← hx1]; exact ub_row 32)
                have B1 := Lib.hid ((Bu.out.mono hzr).trans (bx1.mono (Nat.le_trans hzr Bu.out.size)))
                have O1 := Lib.hid ((HOr.out.on Bu.out).on bx1)
                clear bx1
                go_simp
                try rw [hx1]
                clear hx1
                refine hK.out _ _ ?hS28 (fun hHeld => ?_)
                case hS28 => exact (B1.out.cell (p := ⟨_, _, none⟩) hbl).trans ck
                clear hK K
                try simp only [Act.put, List.setIfInBounds_toArray, List.set_cons_zero, List.set_cons_succ]
                refine wpAnyH_ready (rs := [8]) (by kernel_rfl) (by simp) ?_
                refine readyL rfl (fun K hK => ?_) AllReadyH.nil
                refine step_btL rfl (.tmp 80) (.tmp 81) 35 rfl lo 5 Tryz.underlying35 zeroU8T _ _ rfl O1.out (some ⟨u.heap.size, 0, none⟩) 1 1 [32] rfl rfl S1.out (by have := Hll.out; simp; omega) (Nat.le_trans hzr B1.out.size) ?_
                intro v6 x2 ho2 hb2
                have B2 := Lib.hid (B1.out.trans hb2)
                have O2 := Lib.hid ho2
                clear ho2 hb2
                refine hK.out _ _ ?hS29 (fun hHeld => ?_)
                case hS29 => exact (B2.out.cell (p := ⟨_, _, none⟩) hbl).trans ck
                clear hK K
                try simp only [Act.put, List.setIfInBounds_toArray, List.set_cons_zero, List.set_cons_succ]
                refine wpAnyH_ready (rs := [9]) (by kernel_rfl) (by simp) ?_
                refine readyL rfl (fun K hK => ?_) AllReadyH.nil
                go_simp
                go_at_call 53
                refine (HX.out x2 v6 B2.out (by have := O2.out; simpa using this)).mono ?_
                rintro e x3 ⟨v7, rfl, ho3, hb3⟩
                have B3 := Lib.hid (B2.out.trans hb3)
                have O3 := Lib.hid ho3
                clear ho3 hb3
                refine hK.out _ _ ?hS30 (fun hHeld => ?_)
                case hS30 => exact (B3.out.cell (p := ⟨_, _, none⟩) hbl).trans ck
                clear hK K
                try simp only [Act.put, List.setIfInBounds_toArray, List.set_cons_zero, List.set_cons_succ]
                refine takeL (i := 10) (v := ?v31) rfl (by kernel_rfl) (by kernel_rfl) (by kernel_rfl) (fun _ _ _ h => h) (Or.inl ⟨by rfl, ?hy31⟩) (by assumption) ?_
                case hy31 => ((intro w' hSw; (try dsimp only at hSw); go_simp) <;> with_reducible rfl)
                try simp only [Act.put, List.setIfInBounds_toArray, List.set_cons_zero, List.set_cons_succ]
                refine wpAnyH_done (by kernel_rfl) ?_ _
                go_wp2
                go_roundg (p.kids.length - (i + 1))
                case measure => omega
                case rel =>
                  refine ⟨i + 1, by omega, rfl, by go_num, ?_, HB.out.trans B3.out⟩
                  have := O3.out
                  rw [List.take_succ_eq_append_getElem hlt, plsText_snoc]
                  simpa using this
              · have hfin : p.kids.take i = p.kids := List.take_of_length_le (by omega)
                have HO5 := Lib.hid (HOr.out.on (balloc (Below.refl _ _) (.cells #[.int .u8 41] 5)))
                have HS5 := Lib.hid (ub_row (w := wr) (e := 5) 41)
                have HB5 := Lib.hid (show Below lo w (wr.alloc (.cells #[.int .u8 41] 5)) from HB.out.alloc hzr _)
                have hz5 : lo ≤ (wr.alloc (.cells #[.int .u8 41] 5)).heap.size := by simp; omega
                have Hfin := Lib.hid hfin
                clear hfin
                go_wp2_with (at_builtin; refine wpList_btL rfl (.tmp 85) (.tmp 86) 35 rfl lo 5 Tryz.underlying35 zeroU8T _ (l ++ (T3 ++ plsText (p.kids.take i))) rfl HO5.out (some ⟨wr.heap.size, 0, none⟩) 1 1 [41] rfl rfl HS5.out (by have := Hll.out; simp; omega) hz5 ?_; intro v6 w6 ho6 hb6; have H6 := Lib.hid (And.intro ho6 (HB5.out.trans hb6)); clear ho6 hb6)
                go_ret
                refine ⟨_, rfl, ?_, H6.out.2⟩
                have := H6.out.1
                rw [Hfin.out] at this
                rw [Htx.out]
                simpa using this
  · have hk1I : (p.kind == 1) = false := by simpa using hk1
    go_wp2_with (at_builtin; refine wpList_btS rfl (.tmp 12) (.tmp 17) 35 9 rfl lo 5 Tryz.underlying35 Tryz.underlying9 zeroU8T _ (l ++ [40]) rfl HO3.out So (plName p.kind) rfl HSo.out (by have := HL.out; simp; omega) hz3 ?_; intro v4 w4 ho4 hb4; have HO4 := Lib.hid ho4; have HB4 := Lib.hid (HB3.out.trans hb4); have d4 := (HB4.out.cell (p := ⟨_, _, none⟩) hbl).trans c0; have c3 := (HB4.out.cell (p := ⟨b, o + 3, none⟩) hbl).trans C3.out)
    have HO5 := Lib.hid (show Bt lo 5 w4 v4 (l ++ T1) by
      have := HO4.out
      rw [← HTT.out.1]
      unfold tabText
      rw [if_neg hk1]
      simpa using this)
    clear hk1 c3
    have HBX := HB4
    have hlo1 : lo ≤ w4.heap.size := Nat.le_trans hlo HBX.out.size
    skip
    go_loopg [1, 37] p.cols.length (fun g ov iv wr => ∃ i : Nat, i ≤ p.cols.length ∧ g = p.cols.length - i ∧ iv = .int .i64 i ∧ Bt lo 5 wr ov (l ++ (T1 ++ colsText (p.cols.take i))) ∧ Below lo w wr)
    case atStart => exact ⟨0, by omega, by omega, rfl, by have := HO5.out; simpa [colsText] using this, HBX.out⟩
    case round =>
      obtain ⟨i, hi, rfl, rfl, ho, hb⟩ := hrel
      have HB := Lib.hid hb
      have HOr := Lib.hid ho
      have hzr : lo ≤ wr.heap.size := Nat.le_trans hlo hb.size
      have hct : (colsText (p.cols.take i)).length ≤ (colsText p.cols).length := by
        have e : colsText p.cols = colsText (p.cols.take i) ++ colsText (p.cols.drop i) := by rw [← colsText_append, List.take_append_drop]
        rw [e]; simp
      have Hll := Lib.hid (show l.length + T1.length + (colsText (p.cols.take i)).length ≤ 8388607 by have := HL.out; omega)
      clear ho hb hct
      by_cases hlt : i < p.cols.length
      · obtain ⟨b1, o1, hA, hB1, hcell⟩ := (HC.out.below HB.out).at_ hlt
        have hcell0 : wr.cell? ⟨b1, o1 + i, none⟩ = some (.int .i64 p.cols[i]) := by simpa using hcell 0 _ rfl
        have hil : (i : Int) < (p.cols.length : Int) := by omega
        have hcr := HT.out.2.2.1 _ (List.getElem_mem hlt)
        have HO5 := Lib.hid (HOr.out.on (balloc (Below.refl _ _) (.cells #[.int .u8 32] 5)))
        have HS5 := Lib.hid (ub_row (w := wr) (e := 5) 32)
        have HB5 := Lib.hid (show Below lo w (wr.alloc (.cells #[.int .u8 32] 5)) from HB.out.alloc hzr _)
        have hz5 : lo ≤ (wr.alloc (.cells #[.int .u8 32] 5)).heap.size := by simp; omega
        have HCr := Lib.hid hcr
        clear hcell hcr
        subst hA
        go_wp2_with (at_builtin; refine wpList_btL rfl (.tmp 41) (.tmp 42) 35 rfl lo 5 Tryz.underlying35 zeroU8T _ (l ++ (T1 ++ colsText (p.cols.take i))) rfl HO5.out (some ⟨wr.heap.size, 0, none⟩) 1 1 [32] rfl rfl HS5.out (by have := Hll.out; simp; omega) hz5 ?_; intro v6 w6 ho6 hb6; have HO6 := Lib.hid ho6; have HB6 := Lib.hid (HB5.out.trans hb6); clear ho6 hb6)
        refine (appendColumn_ok lo _ _ p.cols[i] w6 HO6.out (Nat.le_trans hlo HB6.out.size) (HTb.out.on HB6.out) (by have := Hll.out; simp; omega) (by have := HCr.out; omega) (by have := HCr.out; omega)).mono ?_
        rintro e w7 ⟨v7, rfl, ho7, hb7⟩
        have HO7 := Lib.hid ho7
        have HB7 := Lib.hid (HB6.out.trans hb7)
        clear ho7 hb7
        go_wp2
        go_roundg (p.cols.length - (i + 1))
        case measure => omega
        case rel =>
          refine ⟨i + 1, by omega, rfl, by go_num, ?_, HB7.out⟩
          have := HO7.out
          rw [List.take_succ_eq_append_getElem hlt, colsText_snoc]
          simpa using this
      · have hfin : p.cols.take i = p.cols := List.take_of_length_le (by omega)
        rw [hfin, HTT.out.2.1] at HOr
        have Hx1 := Lib.hid HB.out
        have Ho1 := Lib.hid HOr.out
        have c2 := (HB.out.cell (p := ⟨b, o + 2, none⟩) hbl).trans C2.out
        clear hfin HOr
        go_wp2
        clear c2
        go_loopg [1, 52] p.exprs.length (fun g ov iv wr => ∃ i : Nat, i ≤ p.exprs.length ∧ g = p.exprs.length - i ∧ iv = .int .i64 i ∧ Bt lo 5 wr ov (l ++ (T2 ++ exsText (p.exprs.take i))) ∧ Below lo w wr)
        case atStart => exact ⟨0, by omega, by omega, rfl, by have := Ho1.out; simpa [exsText] using this, Hx1.out⟩
        case round =>
          clear hlt HB hi hzr Hll
          obtain ⟨i, hi, rfl, rfl, ho, hb⟩ := hrel
          have HB := Lib.hid hb
          have HOr := Lib.hid ho
          have hzr : lo ≤ wr.heap.size := Nat.le_trans hlo hb.size
          have hct : (exsText (p.exprs.take i)).length ≤ (exsText p.exprs).length := by
            have e : exsText p.exprs = exsText (p.exprs.take i) ++ exsText (p.exprs.drop i) := by rw [← exsText_append, List.take_append_drop]
            rw [e]; simp
          have Hll := Lib.hid (show l.length + T2.length + (exsText (p.exprs.take i)).length ≤ 8388608 by have := HL.out; omega)
          clear ho hb hct
          by_cases hlt : i < p.exprs.length
          · obtain ⟨b1, o1, g, hA, hB1, hat1, hg⟩ := (ExsIn.below HE.out HB.out).at_ hlt
            have hil : (i : Int) < (p.exprs.length : Int) := by omega
            have hok := HT.out.2.1 _ (List.getElem_mem hlt)
            have hl1 : (exsText (p.exprs.take i)).length + 1 + (exText p.exprs[i]).length ≤ (exsText p.exprs).length := by
              have e : exsText p.exprs = exsText (p.exprs.take (i + 1)) ++ exsText (p.exprs.drop (i + 1)) := by rw [← exsText_append, List.take_append_drop]
              rw [List.take_succ_eq_append_getElem hlt, exsText_snoc] at e
              rw [e]
              simp
              omega
            have ck : wr.cell? ⟨b, o + 2, none⟩ = some (.slice (some ⟨b1, o1, none⟩) p.exprs.length f.es.c) := by rw [← hA]; exact (HB.out.cell (p := ⟨_, _, none⟩) hbl).trans C2.out
            have HX := Lib.hid (fun (z : World) (v' : Value) (hz : Below lo wr z) (hv : Bt lo 5 z v' (l ++ (T2 ++ exsText (p.exprs.take i)) ++ [32])) => appendText_ok p.exprs[i] g b1 (o1 + i * 5) lo 8 v' _ z hB1 (Nat.le_trans hzr hz.size) (by
              obtain ⟨e0, e1, e2, e3, e4⟩ := hat1
              exact ⟨(hz.cell (p := ⟨_, _, none⟩) hB1).trans e0, (hz.cell (p := ⟨_, _, none⟩) hB1).trans e1, (hz.cell (p := ⟨_, _, none⟩) hB1).trans e2, (hz.cell (p := ⟨_, _, none⟩) hB1).trans e3, (hz.cell (p := ⟨_, _, none⟩) hB1).trans e4⟩) (hg.below hz) (by omega) hok (HTb.out.on (HB.out.trans hz)) (by have := HL.out; simp; omega) hv)
            clear hok hat1 hg hA hl1
            go_wp2
            obtain ⟨u, hu⟩ : ∃ u, wr.drew = u := ⟨_, rfl⟩
            have Bu : Hid (Below wr.heap.size wr u) := Lib.hid (hu ▸ (Below.refl _ _).drew)
            have Hu := Lib.hid hu
            clear hu
            refine wp_region_held_drew (S := fun z => z.cell? ⟨b, o + 2, none⟩ = some (.slice (some ⟨b1, o1, none⟩) p.exprs.length f.es.c)) (by kernel_rfl) ?_ (fun hHeld => ?_)
            · exact ck
            rw [Hu.out] at hHeld ⊢
            refine takeL (i := 0) (v := ?v32) rfl (by kernel_rfl) (by kernel_rfl) (by kernel_rfl) (fun _ _ _ h => h) (Or.inl ⟨by rfl, ?hy32⟩) (by assumption) ?_
            case hy32 => ((intro w' hSw; (try dsimp only at hSw); go_simp) <;> with_reducible rfl)
            try simp only [Act.put, List.setIfInBounds_toArray, List.set_cons_zero, List.set_cons_succ]
            refine takeL (i := 1) (v := ?v33) rfl (by kernel_rfl) (by kernel_rfl) (by kernel_rfl) (fun _ _ _ h => h) (Or.inl ⟨by rfl, ?hy33⟩) (by assumption) ?_
            case hy33 => ((intro w' hSw; (try dsimp only at hSw); go_simp) <;> with_reducible rfl)
            try simp only [Act.put, List.setIfInBounds_toArray, List.set_cons_zero, List.set_cons_succ]
            refine takeL (i := 2) (v := ?v34) rfl (by kernel_rfl) (by kernel_rfl) (by kernel_rfl) (fun _ _ _ h => h) (Or.inl ⟨by rfl, ?hy34⟩) (by assumption) ?_
            case hy34 => ((intro w' hSw; (try dsimp only at hSw); go_simp) <;> with_reducible rfl)
            try simp only [Act.put, List.setIfInBounds_toArray, List.set_cons_zero, List.set_cons_succ]
            refine takeL (i := 3) (v := ?v35) rfl (by kernel_rfl) (by kernel_rfl) (by kernel_rfl) (fun _ _ _ h => h) (Or.inl ⟨by rfl, ?hy35⟩) (by assumption) ?_
            case hy35 => ((intro w' hSw; (try dsimp only at hSw); go_simp) <;> with_reducible rfl)
            try simp only [Act.put, List.setIfInBounds_toArray, List.set_cons_zero, List.set_cons_succ]
            refine takeL (i := 4) (v := ?v36) rfl (by kernel_rfl) (by kernel_rfl) (by kernel_rfl) (fun _ _ _ h => h) (Or.inl ⟨by rfl, ?hy36⟩) (by assumption) ?_
            case hy36 => ((intro w' hSw; (try dsimp only at hSw); go_simp) <;> with_reducible rfl)
            try simp only [Act.put, List.setIfInBounds_toArray, List.set_cons_zero, List.set_cons_succ]
            refine takeL (i := 5) (v := ?v37) rfl (by kernel_rfl) (by kernel_rfl) (by kernel_rfl) (fun _ _ _ h => h) (Or.inl ⟨by rfl, ?hy37⟩) (by assumption) ?_
            case hy37 => ((intro w' hSw; (try dsimp only at hSw); go_simp) <;> with_reducible rfl)
            try simp only [Act.put, List.setIfInBounds_toArray, List.set_cons_zero, List.set_cons_succ]
            refine takeL (i := 6) (v := ?v38) rfl (by kernel_rfl) (by kernel_rfl) (by kernel_rfl) (fun _ _ _ h => h) (Or.inl ⟨by rfl, ?hy38⟩) (by assumption) ?_
            case hy38 => ((intro w' hSw; (try dsimp only at hSw); go_simp) <;> with_reducible rfl)
            try simp only [Act.put, List.setIfInBounds_toArray, List.set_cons_zero, List.set_cons_succ]
            refine wpAnyH_ready (rs := [7]) (by kernel_rfl) (by simp) ?_
            refine readyL rfl (fun K hK => ?_) AllReadyH.nil
            obtain ⟨x1, hx1⟩ : ∃ z, u.alloc (.cells #[.int .u8 32] 5) = z := ⟨_, rfl⟩
            have bx1 : Below u.heap.size u x1 := by rw [← hx1]; exact balloc (Below.refl _ _) _
            have S1 := Lib.hid (show Sl 1 ubC x1 x1.heap.size (some ⟨u.heap.size, 0, none⟩) [32] by rw [← hx1]; exact ub_row 32)
            have B1 := Lib.hid ((Bu.out.mono hzr).trans (bx1.mono (Nat.le_trans hzr Bu.out.size)))
            have O1 := Lib.hid ((HOr.out.on Bu.out).on bx1)
            clear bx1
            go_simp
            try rw [hx1]
            clear hx1
            refine hK.out _ _ ?hS39 (fun hHeld => ?_)
            case hS39 => exact (B1.out.cell (p := ⟨_, _, none⟩) hbl).trans ck
            clear hK K
            try simp only [Act.put, List.setIfInBounds_toArray, List.set_cons_zero, List.set_cons_succ]
            refine wpAnyH_ready (rs := [8]) (by kernel_rfl) (by simp) ?_
            refine readyL rfl (fun K hK => ?_) AllReadyH.nil
            refine step_btL rfl (.tmp 61) (.tmp 62) 35 rfl lo 5 Tryz.underlying35 zeroU8T _ _ rfl O1.out (some ⟨u.heap.size, 0, none⟩) 1 1 [32] rfl rfl S1.out (by have := Hll.out; simp; omega) (Nat.le_trans hzr B1.out.size) ?_
            intro v6 x2 ho2 hb2
            have B2 := Lib.hid (B1.out.trans hb2)
            have O2 := Lib.hid ho2
            clear ho2 hb2
            refine hK.out _ _ ?hS40 (fun hHeld => ?_)
            case hS40 => exact (B2.out.cell (p := ⟨_, _, none⟩) hbl).trans ck
            clear hK K
            try simp only [Act.put, List.setIfInBounds_toArray, List.set_cons_zero, List.set_cons_succ]
            refine wpAnyH_ready (rs := [9]) (by kernel_rfl) (by simp) ?_
            refine readyL rfl (fun K hK => ?_) AllReadyH.nil
            go_simp
            go_at_call 49
            refine (HX.out x2 v6 B2.out (by have := O2.out; simpa using this)).mono ?_
            rintro e x3 ⟨v7, rfl, ho3, hb3⟩
            have B3 := Lib.hid (B2.out.trans hb3)
            have O3 := Lib.hid ho3
            clear ho3 hb3
            refine hK.out _ _ ?hS41 (fun hHeld => ?_)
            case hS41 => exact (B3.out.cell (p := ⟨_, _, none⟩) hbl).trans ck
            clear hK K
            try simp only [Act.put, List.setIfInBounds_toArray, List.set_cons_zero, List.set_cons_succ]
            refine takeL (i := 10) (v := ?v42) rfl (by kernel_rfl) (by kernel_rfl) (by kernel_rfl) (fun _ _ _ h => h) (Or.inl ⟨by rfl, ?hy42⟩) (by assumption) ?_
            case hy42 => ((intro w' hSw; (try dsimp only at hSw); go_simp) <;> with_reducible rfl)
            try simp only [Act.put, List.setIfInBounds_toArray, List.set_cons_zero, List.set_cons_succ]
            refine wpAnyH_done (by kernel_rfl) ?_ _
            go_wp2
            go_roundg (p.exprs.length - (i + 1))
            case measure => omega
            case rel =>
              refine ⟨i + 1, by omega, rfl, by go_num, ?_, HB.out.trans B3.out⟩
              have := O3.out
              rw [List.take_succ_eq_append_getElem hlt, exsText_snoc]
              simpa using this
          · have hfin : p.exprs.take i = p.exprs := List.take_of_length_le (by omega)
            rw [hfin, HTT.out.2.2] at HOr
            have Hx2 := Lib.hid HB.out
            have Ho2 := Lib.hid HOr.out
            have c4 := (HB.out.cell (p := ⟨b, o + 4, none⟩) hbl).trans C4.out
            clear hfin HOr
            go_wp2
            clear c4
            go_loopg [1, 71] p.kids.length (fun g ov iv wr => ∃ i : Nat, i ≤ p.kids.length ∧ g = p.kids.length - i ∧ iv = .int .i64 i ∧ Bt lo 5 wr ov (l ++ (T3 ++ plsText (p.kids.take i))) ∧ Below lo w wr)
            case atStart => exact ⟨0, by omega, by omega, rfl, by have := Ho2.out; simpa [plsText] using this, Hx2.out⟩
            case round =>
              clear hlt HB hi hzr Hll
              obtain ⟨i, hi, rfl, rfl, ho, hb⟩ := hrel
              have HB := Lib.hid hb
              have HOr := Lib.hid ho
              have hzr : lo ≤ wr.heap.size := Nat.le_trans hlo hb.size
              have hct : (plsText (p.kids.take i)).length ≤ (plsText p.kids).length := by
                have e : plsText p.kids = plsText (p.kids.take i) ++ plsText (p.kids.drop i) := by rw [← plsText_append, List.take_append_drop]
                rw [e]; simp
              have Hll := Lib.hid (show l.length + T3.length + (plsText (p.kids.take i)).length + 1 ≤ 8388608 by have := HL.out; omega)
              clear ho hb hct
              by_cases hlt : i < p.kids.length
              · obtain ⟨b1, o1, g, hA, hB1, hat1, hg⟩ := (plsIn_below HK.out HB.out).at_ hlt
                have hil : (i : Int) < (p.kids.length : Int) := by omega
                have hmem := List.getElem_mem hlt
                have hd0 : 0 < d := HT.out.2.2.2.1 (by omega)
                have hok := HT.out.2.2.2.2 _ hmem
                have hl1 : (plsText (p.kids.take i)).length + 1 + (plText p.kids[i]).length ≤ (plsText p.kids).length := by
                  have e : plsText p.kids = plsText (p.kids.take (i + 1)) ++ plsText (p.kids.drop (i + 1)) := by rw [← plsText_append, List.take_append_drop]
                  rw [List.take_succ_eq_append_getElem hlt, plsText_snoc] at e
                  rw [e]
                  simp
                  omega
                have ck : wr.cell? ⟨b, o + 4, none⟩ = some (.slice (some ⟨b1, o1, none⟩) p.kids.length f.ks.c) := by rw [← hA]; exact (HB.out.cell (p := ⟨_, _, none⟩) hbl).trans C4.out
                have HX := Lib.hid (fun (z : World) (v' : Value) (hz : Below lo wr z) (hv : Bt lo 5 z v' (l ++ (T3 ++ plsText (p.kids.take i)) ++ [32])) => HI.out _ hmem g b1 (o1 + i * 5) lo (d - 1) v' _ z hB1 (Nat.le_trans hzr hz.size) (by
                  obtain ⟨e0, e1, e2, e3, e4⟩ := hat1
                  exact ⟨(hz.cell (p := ⟨_, _, none⟩) hB1).trans e0, (hz.cell (p := ⟨_, _, none⟩) hB1).trans e1, (hz.cell (p := ⟨_, _, none⟩) hB1).trans e2, (hz.cell (p := ⟨_, _, none⟩) hB1).trans e3, (hz.cell (p := ⟨_, _, none⟩) hB1).trans e4⟩) (plIn_below hg hz) (by omega) hok (HTb.out.on (HB.out.trans hz)) (by have := HL.out; simp; omega) hv)
                clear hok hat1 hg hA hl1 hmem
                go_wp2
                obtain ⟨u, hu⟩ : ∃ u, wr.drew = u := ⟨_, rfl⟩
                have Bu : Hid (Below wr.heap.size wr u) := Lib.hid (hu ▸ (Below.refl _ _).drew)
                have Hu := Lib.hid hu
                clear hu
                refine wp_region_held_drew (S := fun z => z.cell? ⟨b, o + 4, none⟩ = some (.slice (some ⟨b1, o1, none⟩) p.kids.length f.ks.c)) (by kernel_rfl) ?_ (fun hHeld => ?_)
                · exact ck
                rw [Hu.out] at hHeld ⊢
                refine takeL (i := 0) (v := ?v43) rfl (by kernel_rfl) (by kernel_rfl) (by kernel_rfl) (fun _ _ _ h => h) (Or.inl ⟨by rfl, ?hy43⟩) (by assumption) ?_
                case hy43 => ((intro w' hSw; (try dsimp only at hSw); go_simp) <;> with_reducible rfl)
                try simp only [Act.put, List.setIfInBounds_toArray, List.set_cons_zero, List.set_cons_succ]
                refine takeL (i := 1) (v := ?v44) rfl (by kernel_rfl) (by kernel_rfl) (by kernel_rfl) (fun _ _ _ h => h) (Or.inl ⟨by rfl, ?hy44⟩) (by assumption) ?_
                case hy44 => ((intro w' hSw; (try dsimp only at hSw); go_simp) <;> with_reducible rfl)
                try simp only [Act.put, List.setIfInBounds_toArray, List.set_cons_zero, List.set_cons_succ]
                refine takeL (i := 2) (v := ?v45) rfl (by kernel_rfl) (by kernel_rfl) (by kernel_rfl) (fun _ _ _ h => h) (Or.inl ⟨by rfl, ?hy45⟩) (by assumption) ?_
                case hy45 => ((intro w' hSw; (try dsimp only at hSw); go_simp) <;> with_reducible rfl)
                try simp only [Act.put, List.setIfInBounds_toArray, List.set_cons_zero, List.set_cons_succ]
                refine takeL (i := 3) (v := ?v46) rfl (by kernel_rfl) (by kernel_rfl) (by kernel_rfl) (fun _ _ _ h => h) (Or.inl ⟨by rfl, ?hy46⟩) (by assumption) ?_
                case hy46 => ((intro w' hSw; (try dsimp only at hSw); go_simp) <;> with_reducible rfl)
                try simp only [Act.put, List.setIfInBounds_toArray, List.set_cons_zero, List.set_cons_succ]
                refine takeL (i := 4) (v := ?v47) rfl (by kernel_rfl) (by kernel_rfl) (by kernel_rfl) (fun _ _ _ h => h) (Or.inl ⟨by rfl, ?hy47⟩) (by assumption) ?_
                case hy47 => ((intro w' hSw; (try dsimp only at hSw); go_simp) <;> with_reducible rfl)
                try simp only [Act.put, List.setIfInBounds_toArray, List.set_cons_zero, List.set_cons_succ]
                refine takeL (i := 5) (v := ?v48) rfl (by kernel_rfl) (by kernel_rfl) (by kernel_rfl) (fun _ _ _ h => h) (Or.inl ⟨by rfl, ?hy48⟩) (by assumption) ?_
                case hy48 => ((intro w' hSw; (try dsimp only at hSw); go_simp) <;> with_reducible rfl)
                try simp only [Act.put, List.setIfInBounds_toArray, List.set_cons_zero, List.set_cons_succ]
                refine takeL (i := 6) (v := ?v49) rfl (by kernel_rfl) (by kernel_rfl) (by kernel_rfl) (fun _ _ _ h => h) (Or.inl ⟨by rfl, ?hy49⟩) (by assumption) ?_
                case hy49 => ((intro w' hSw; (try dsimp only at hSw); go_simp) <;> with_reducible rfl)
                try simp only [Act.put, List.setIfInBounds_toArray, List.set_cons_zero, List.set_cons_succ]
                refine wpAnyH_ready (rs := [7]) (by kernel_rfl) (by simp) ?_
                refine readyL rfl (fun K hK => ?_) AllReadyH.nil
                obtain ⟨x1, hx1⟩ : ∃ z, u.alloc (.cells #[.int .u8 32] 5) = z := ⟨_, rfl⟩
                have bx1 : Below u.heap.size u x1 := by rw [← hx1]; exact balloc (Below.refl _ _) _
                have S1 := Lib.hid (show Sl 1 ubC x1 x1.heap.size (some ⟨u.heap.size, 0, none⟩) [32] by rw [← hx1]; exact ub_row 32)
                have B1 := Lib.hid ((Bu.out.mono hzr).trans (bx1.mono (Nat.le_trans hzr Bu.out.size)))
                have O1 := Lib.hid ((HOr.out.on Bu.out).on bx1)
                clear bx1
                go_simp
                try rw [hx1]
                clear hx1
                refine hK.out _ _ ?hS50 (fun hHeld => ?_)
                case hS50 => exact (B1.out.cell (p := ⟨_, _, none⟩) hbl).trans ck
                clear hK K
                try simp only [Act.put, List.setIfInBounds_toArray, List.set_cons_zero, List.set_cons_succ]
                refine wpAnyH_ready (rs := [8]) (by kernel_rfl) (by simp) ?_
                refine readyL rfl (fun K hK => ?_) AllReadyH.nil
                refine step_btL rfl (.tmp 80) (.tmp 81) 35 rfl lo 5 Tryz.underlying35 zeroU8T _ _ rfl O1.out (some ⟨u.heap.size, 0, none⟩) 1 1 [32] rfl rfl S1.out (by have := Hll.out; simp; omega) (Nat.le_trans hzr B1.out.size) ?_
                intro v6 x2 ho2 hb2
                have B2 := Lib.hid (B1.out.trans hb2)
                have O2 := Lib.hid ho2
                clear ho2 hb2
                refine hK.out _ _ ?hS51 (fun hHeld => ?_)
                case hS51 => exact (B2.out.cell (p := ⟨_, _, none⟩) hbl).trans ck
                clear hK K
                try simp only [Act.put, List.setIfInBounds_toArray, List.set_cons_zero, List.set_cons_succ]
                refine wpAnyH_ready (rs := [9]) (by kernel_rfl) (by simp) ?_
                refine readyL rfl (fun K hK => ?_) AllReadyH.nil
                go_simp
                go_at_call 53
                refine (HX.out x2 v6 B2.out (by have := O2.out; simpa using this)).mono ?_
                rintro e x3 ⟨v7, rfl, ho3, hb3⟩
                have B3 := Lib.hid (B2.out.trans hb3)
                have O3 := Lib.hid ho3
                clear ho3 hb3
                refine hK.out _ _ ?hS52 (fun hHeld => ?_)
                case hS52 => exact (B3.out.cell (p := ⟨_, _, none⟩) hbl).trans ck
                clear hK K
                try simp only [Act.put, List.setIfInBounds_toArray, List.set_cons_zero, List.set_cons_succ]
                refine takeL (i := 10) (v := ?v53) rfl (by kernel_rfl) (by kernel_rfl) (by kernel_rfl) (fun _ _ _ h => h) (Or.inl ⟨by rfl, ?hy53⟩) (by assumption) ?_
                case hy53 => ((intro w' hSw; (try dsimp only at hSw); go_simp) <;> with_reducible rfl)
                try simp only [Act.put, List.setIfInBounds_toArray, List.set_cons_zero, List.set_cons_succ]
                refine wpAnyH_done (by kernel_rfl) ?_ _
                go_wp2
                go_roundg (p.kids.length - (i + 1))
                case measure => omega
                case rel =>
                  refine ⟨i + 1, by omega, rfl, by go_num, ?_, HB.out.trans B3.out⟩
                  have := O3.out
                  rw [List.take_succ_eq_append_getElem hlt, plsText_snoc]
                  simpa using this
              · have hfin : p.kids.take i = p.kids := List.take_of_length_le (by omega)
                have HO5 := Lib.hid (HOr.out.on (balloc (Below.refl _ _) (.cells #[.int .u8 41] 5)))
                have HS5 := Lib.hid (ub_row (w := wr) (e := 5) 41)
                have HB5 := Lib.hid (show Below lo w (wr.alloc (.cells #[.int .u8 41] 5)) from HB.out.alloc hzr _)
                have hz5 : lo ≤ (wr.alloc (.cells #[.int .u8 41] 5)).heap.size := by simp; omega
                have Hfin := Lib.hid hfin
                clear hfin
                go_wp2_with (at_builtin; refine wpList_btL rfl (.tmp 85) (.tmp 86) 35 rfl lo 5 Tryz.underlying35 zeroU8T _ (l ++ (T3 ++ plsText (p.kids.take i))) rfl HO5.out (some ⟨wr.heap.size, 0, none⟩) 1 1 [41] rfl rfl HS5.out (by have := Hll.out; simp; omega) hz5 ?_; intro v6 w6 ho6 hb6; have H6 := Lib.hid (And.intro ho6 (HB5.out.trans hb6)); clear ho6 hb6)
                go_ret
                refine ⟨_, rfl, ?_, H6.out.2⟩
                have := H6.out.1
                rw [Hfin.out] at this
                rw [Htx.out]
                simpa using this
end Go.Proofs.YtmhlpjfijpomkaaGreatDoor
