/-
  Contract: DrawEstimateRows.
-/
import Derived.Test.YtnecmacjlggkeaaProg
import Derived.Test.YtnecmacjlggkeaaPaW
import Derived.Test.YtnecmacjlggkeaaSta
namespace Go.Proofs.Ytnecmacjlggkeaa
open Go.RowKit Go.Qo
set_option linter.unusedVariables false
set_option linter.unusedSimpArgs false

/-- The plan and the widths that are drawn, in memory of the call's own. -/
def DrPWe (lo : Nat) (w : World) (f : FP) (x : Pl) (v : Value) (ws : List Int) : Prop := PlT (fun k => lo ≤ k) w f x ∧ Ow lo 3 1 intC w v ws ∧ (2 ≤ ws.length ∧ ws.length ≤ 3) ∧ ∀ y ∈ ws, 0 ≤ y ∧ y ≤ 7
theorem DrPWe.only {lo b : Nat} {w w' : World} {f : FP} {x : Pl} {v : Value} {ws : List Int} {S : Nat → Prop} (h : DrPWe lo w f x v ws) (hb : Only S w w') (hS : ∀ k, S k → k < lo) : DrPWe lo w' f x v ws :=
  ⟨h.1.keep hb.size fun k hk hl => hb.block k hl fun e => by have := hS k e; omega, h.2.1.only hb fun k hk => .inl (hS k hk), h.2.2⟩
theorem DrPWe.low {lo lo' : Nat} {w : World} {f : FP} {x : Pl} {v : Value} {ws : List Int} (h : DrPWe lo w f x v ws) (hl : lo' ≤ lo) : DrPWe lo' w f x v ws := ⟨h.1.mono fun k _ hk => by omega, h.2.1.low hl, h.2.2⟩
theorem set5_belowE {lo g : Nat} {w wx : World} (h : Below lo w wx) (hg : lo ≤ g) (v0 v1 v2 v3 v4 : Value) : Below lo w (((((wx.setCell ⟨g, 0, none⟩ v0).setCell ⟨g, 1, none⟩ v1).setCell ⟨g, 2, none⟩ v2).setCell ⟨g, 3, none⟩ v3).setCell ⟨g, 4, none⟩ v4) :=
  ((((h.setCell (p := ⟨g, 0, none⟩) hg _).setCell (p := ⟨g, 1, none⟩) hg _).setCell (p := ⟨g, 2, none⟩) hg _).setCell (p := ⟨g, 3, none⟩) hg _).setCell (p := ⟨g, 4, none⟩) hg _
theorem pwC_leE : pwC ≤ 9000 := by decide

theorem pw9 (q : Nat) (h : q ≤ 9000) : 0 + q + 90000 ≤ 1099511627776 := by omega
theorem ow_slT {α : Type} {lo n c sz : Nat} {e : TypeId} {enc : α → List Value} {w : World} {A : Option Addr} {xs : List α} (he : ∀ x, (enc x).length = sz) (h : Ow lo e sz enc w (.slice A n c) xs) : SlT e sz enc lo w A xs := by
  obtain ⟨A', c', hv, _, _, h3⟩ := h.shape he
  simp only [Value.slice.injEq] at hv
  rw [hv.1]; exact h3
/-- What DrawEstimateRows hands back. -/
def GotER (w : World) (e : Ending) (w' : World) : Prop := ∃ (f : FP) (x : Pl) (A : Option Addr) (m c : Nat) (fs : List FS) (ss : List St), e = .returned (.tuple #[fpV f, .slice A m c]) ∧ PlT (fun k => w.heap.size ≤ k) w' f x ∧ Ow w.heap.size 33 3 fsC w' (.slice A m c) fs ∧ StsT w.heap.size w' fs ss ∧ ss.length = m ∧ m ≤ 3 ∧ (∀ s ∈ ss, StSm s) ∧ Below w.heap.size w w'
set_option maxRecDepth 20000 in
set_option maxHeartbeats 4000000 in
theorem drawEstimateRows_ok (A : Option Addr) (c : Nat) (xs : List Int) (w : World) (hn : xs.length ≤ c) (hc : c ≤ maxLen) (hg : ∀ x ∈ xs, 0 ≤ x ∧ x ≤ 255) (hs : Sl 1 byteC w w.heap.size A xs) :
    Calls Try.prog 9 #[.slice A xs.length c] w (GotER w) := by
  obtain ⟨W0, hW0⟩ : ∃ z, w.alloc (.cells #[.int .i64 0, .int .i64 0, .slice none 0 0, .slice none 0 0, .slice none 0 0] 27) = z := ⟨_, rfl⟩
  have b0 : Below w.heap.size w W0 := by rw [← hW0]; exact balloc (Below.refl _ _) _
  have r0 : Row W0 w.heap.size 27 [.int .i64 0, .int .i64 0, .slice none 0 0, .slice none 0 0, .slice none 0 0] := by rw [← hW0]; exact Row.new _ _ _
  have hs0 : W0.heap.size = w.heap.size + 1 := by rw [← hW0]; simp
  obtain ⟨b, hb⟩ : ∃ b, W0.heap.size = b := ⟨_, rfl⟩
  have HN := Lib.hid (newReader_ok A c xs W0 hn hc hg (hs.on b0))
  rw [hb] at HN
  have hbw : w.heap.size + 1 = b := by omega
  have Hb := Lib.hid hb
  have Hr0 := Lib.hid r0
  have HB0 := Lib.hid b0
  have HW0 := Lib.hid hW0
  have Hpw := Lib.hid pwC_leE
  clear hn hc hg hs hW0 b0 r0 hb hs0
  go_enter Try.func9, Try.ntmps9
  go_upto_region 1 with fail
  rw [HW0.out]
  go_wp2_with fail
  refine HN.out.mono ?_
  rintro e w1 ⟨rfl, hb1, hR1⟩
  rw [← Hb.out] at hb1
  have HPW := Lib.hid (planAndWidths_ok b 0 w1 hR1 (by have := Hpw.out; omega))
  have HB1 := Lib.hid (bch HB0.out hb1)
  have Hr1 := Lib.hid (Hr0.out.on hb1)
  have hbl1 := hR1.lt
  clear hb1 hR1
  go_wp2_with fail
  refine HPW.out.mono ?_
  rintro e w2 ⟨pf, px, v2, ws, rfl, hx2, how2, hwl, hwr, hb2, hR2⟩
  obtain ⟨A2, d2, rfl, hc21, hc22, hs2⟩ := how2.shape intC_length
  unfold fpV
  obtain ⟨W3, hW3⟩ : ∃ z, w2.alloc (.cells #[.int .i64 pf.kind, .int .i64 pf.table, .slice pf.es.A pf.es.n pf.es.c, .slice pf.cs.A pf.cs.n pf.cs.c, .slice pf.ks.A pf.ks.n pf.ks.c] 27) = z := ⟨_, rfl⟩
  obtain ⟨pb, hpb⟩ : ∃ n, w2.heap.size = n := ⟨_, rfl⟩
  have b3 : Below w2.heap.size w2 W3 := by rw [← hW3]; exact balloc (Below.refl _ _) _
  have hz1 := hb2.size
  have hzr := Hr1.out.lt
  have Hp3 := Lib.hid (show Row W3 pb 27 (fpC pf) by rw [← hW3, ← hpb]; exact Row.new _ _ _)
  have Hr3 := Lib.hid ((Hr1.out.only hb2 (by omega)).on b3)
  have HD3 := Lib.hid (show DrPWe (b + 1) W3 pf px (.slice A2 ws.length d2) ws from (DrPWe.only (b := b) (S := fun _ => False) (show DrPWe w1.heap.size w2 pf px (.slice A2 ws.length d2) ws from ⟨hx2, how2, hwl, hwr⟩) (only_below b3) fun k hk => hk.elim).low (by omega))
  have HB3 := Lib.hid (bch (Only.from_ HB1.out rfl hb2 fun i (hi : i = b) => by omega) b3)
  have HR3 := Lib.hid (hR2.on b3)
  have hpb1 : b < pb := by omega
  have Hpb := Lib.hid hpb
  have HW3 := Lib.hid hW3
  have Hwl := Lib.hid (And.intro hwl (And.intro hc21 hc22))
  obtain ⟨hwl2, hwl3⟩ := hwl
  clear hx2 how2 hs2 hwr hb2 hR2 hW3 hpb b3 hz1 hzr HPW hc21 hc22 hbl1
  go_upto_region 3 with fail
  rw [HW3.out, Hpb.out]
  have hn3 := Hwl.out.1
  have hzb : w.heap.size < b := by omega
  have hW3b : b + 1 ≤ W3.heap.size := HR3.out.lt
  have ST := Lib.hid (fun (z : World) (hz : But b W3 z) => show Row z pb 27 (fpC pf) ∧ Row z w.heap.size 27 [.int .i64 0, .int .i64 0, .slice none 0 0, .slice none 0 0, .slice none 0 0] ∧ DrPWe (b + 1) z pf px (.slice A2 ws.length d2) ws from
    ⟨Hp3.out.only hz (by omega), Hr3.out.only hz (by omega), DrPWe.only (b := b) HD3.out hz fun k (hk : k = b) => by omega⟩)
  have SB := Lib.hid (fun (z : World) (hz : But b W3 z) => show z.cell? ⟨pb, 0, none⟩ = some (.int .i64 pf.kind) ∧ z.cell? ⟨pb, 1, none⟩ = some (.int .i64 pf.table) ∧ z.cell? ⟨pb, 2, none⟩ = some (.slice pf.es.A pf.es.n pf.es.c) ∧ z.cell? ⟨pb, 3, none⟩ = some (.slice pf.cs.A pf.cs.n pf.cs.c) ∧ z.cell? ⟨pb, 4, none⟩ = some (.slice pf.ks.A pf.ks.n pf.ks.c) from
    have h := (ST.out z hz).1
    ⟨h.cell 0, h.cell 1, h.cell 2, h.cell 3, h.cell 4⟩)
  obtain ⟨u0, hu0⟩ : ∃ z, W3.drew = z := ⟨_, rfl⟩
  have Bu0 := Lib.hid (show But b W3 u0 from hu0 ▸ (Only.refl _).drew)
  have Ru0 := Lib.hid (show Rd u0 b (0 + pwC) from hu0 ▸ HR3.out.on (Below.refl _ _).drew)
  have Hu0 := Lib.hid hu0
  clear hu0
  refine wp_region_g 5 (fun z => z.cell? ⟨pb, 0, none⟩ = some (.int .i64 pf.kind) ∧ z.cell? ⟨pb, 1, none⟩ = some (.int .i64 pf.table) ∧ z.cell? ⟨pb, 2, none⟩ = some (.slice pf.es.A pf.es.n pf.es.c) ∧ z.cell? ⟨pb, 3, none⟩ = some (.slice pf.cs.A pf.cs.n pf.cs.c) ∧ z.cell? ⟨pb, 4, none⟩ = some (.slice pf.ks.A pf.ks.n pf.ks.c)) (by kernel_rfl) ?_ (fun hHeld => ?_)
  · exact SB.out _ (Only.refl _).drew
  rw [Hu0.out] at hHeld ⊢
  refine takeG (i := 0) (v := ?v1) rfl (by kernel_rfl) (by kernel_rfl) (by kernel_rfl) (by kernel_rfl) (fun _ _ _ h => h) (Or.inl ⟨by rfl, ?hy1⟩) (by assumption) ?_
  case hy1 => ((intro w' hSw; (try dsimp only at hSw); go_simp) <;> with_reducible rfl)
  try simp only [Act.put, List.setIfInBounds_toArray, List.set_cons_zero, List.set_cons_succ]
  refine takeG (i := 1) (v := ?v2) rfl (by kernel_rfl) (by kernel_rfl) (by kernel_rfl) (by kernel_rfl) (fun _ _ _ h => h) (Or.inl ⟨by rfl, ?hy2⟩) (by assumption) ?_
  case hy2 => ((intro w' hSw; (try dsimp only at hSw); go_simp) <;> with_reducible rfl)
  try simp only [Act.put, List.setIfInBounds_toArray, List.set_cons_zero, List.set_cons_succ]
  refine takeG (i := 2) (v := ?v3) rfl (by kernel_rfl) (by kernel_rfl) (by kernel_rfl) (by kernel_rfl) (fun _ _ _ h => h) (Or.inl ⟨by rfl, ?hy3⟩) (by assumption) ?_
  case hy3 => ((intro w' hSw; (try dsimp only at hSw); go_simp) <;> with_reducible rfl)
  try simp only [Act.put, List.setIfInBounds_toArray, List.set_cons_zero, List.set_cons_succ]
  refine wpAnyG_ready (rs := [3]) (by kernel_rfl) (by simp) ?_
  refine readyG rfl (fun K hK => ?_) AllReadyG.nil
  have HF := Lib.hid (statsFor_ok b (0 + pwC) (b + 1) A2 d2 ws u0 Ru0.out (pw9 _ Hpw.out) (by omega) (Nat.le_trans hW3b Bu0.out.size) (ow_slT intC_length (ST.out _ Bu0.out).2.2.2.1) ⟨by omega, by omega⟩ (ST.out _ Bu0.out).2.2.2.2.2)
  go_simp
  go_at_call 26
  refine HF.out.mono ?_
  rintro e x1 ⟨Af, cf, fs, ss, rfl, ho, hst, hsl, hsm, hb, hR⟩
  have Bx1 := Lib.hid (Bu0.out.trans hb)
  have HX := Lib.hid (And.intro ho (And.intro hst (And.intro hsl hsm)))
  clear ho hst hsl hsm hb hR HF
  refine hK.out _ _ ?hS4 (fun hHeld => ?_)
  case hS4 => exact fun _ => SB.out _ Bx1.out
  replace hHeld := hHeld (by decide)
  clear hK K
  try simp only [Act.put, List.setIfInBounds_toArray, List.set_cons_zero, List.set_cons_succ]
  refine wpAnyG_ready (rs := [4]) (by kernel_rfl) (by simp) ?_
  refine readyG rfl (fun K hK => ?_) AllReadyG.nil
  have rr := (ST.out _ Bx1.out).2.1
  have hl := rr.lt
  have c0 := rr.cell 0
  have f0 := rr.frozen 0
  have c1 := rr.cell 1
  have f1 := rr.frozen 1
  have c2 := rr.cell 2
  have f2 := rr.frozen 2
  have c3 := rr.cell 3
  have f3 := rr.frozen 3
  have c4 := rr.cell 4
  have f4 := rr.frozen 4
  clear rr
  go_simp
  refine hK.out _ _ ?hS5 (fun hHeld => ?_)
  case hS5 => exact fun _ => (by have h := (ST.out _ Bx1.out).1.only (set5 x1 w.heap.size (.int .i64 pf.kind) (.int .i64 pf.table) (.slice pf.es.A pf.es.n pf.es.c) (.slice pf.cs.A pf.cs.n pf.cs.c) (.slice pf.ks.A pf.ks.n pf.ks.c)) (show ¬ pb = w.heap.size by omega); exact ⟨h.cell 0, h.cell 1, h.cell 2, h.cell 3, h.cell 4⟩)
  replace hHeld := hHeld (by decide)
  clear hK K
  try simp only [Act.put, List.setIfInBounds_toArray, List.set_cons_zero, List.set_cons_succ]
  refine wpAnyG_ready (rs := [5]) (by kernel_rfl) (by simp) ?_
  refine readyG rfl (fun K hK => ?_) AllReadyG.nil
  go_simp
  refine hK.out _ _ ?hS6 (fun hHeld => ?_)
  case hS6 => exact fun h => absurd rfl h
  clear hK K
  try simp only [Act.put, List.setIfInBounds_toArray, List.set_cons_zero, List.set_cons_succ]
  refine wpAnyG_done (by kernel_rfl) ?_ _
  go_wp2
  refine bodyPost_ret (v := .tuple #[fpV pf, .slice Af ws.length cf]) (by simp [results, Try.results9, go_sem, fpV, c0, c1, c2, c3, c4]) rfl ?_
  have h5 := set5 x1 w.heap.size (.int .i64 pf.kind) (.int .i64 pf.table) (.slice pf.es.A pf.es.n pf.es.c) (.slice pf.cs.A pf.cs.n pf.cs.c) (.slice pf.ks.A pf.ks.n pf.ks.c)
  have hu0 := Bu0.out.size
  have hd := DrPWe.low (lo' := w.heap.size) (DrPWe.only (b := b) (ST.out _ Bx1.out).2.2 h5 fun k (hk : k = w.heap.size) => by omega) (by omega)
  exact ⟨pf, px, Af, ws.length, cf, fs, ss, rfl, hd.1, (HX.out.1.only h5 fun k (hk : k = w.heap.size) => .inl (by omega)).low (by omega), ⟨HX.out.2.1.1, fun i f s hf hs => (((HX.out.2.1.2 i f s hf hs).only h5 fun k (hk : k = w.heap.size) => .inl (by omega)).low (by omega))⟩, HX.out.2.2.1, by omega, HX.out.2.2.2, set5_belowE (Only.from_ HB3.out rfl Bx1.out fun i (hi : i = b) => by have := HB3.out.size; omega) (Nat.le_refl _) _ _ _ _ _⟩
end Go.Proofs.Ytnecmacjlggkeaa
