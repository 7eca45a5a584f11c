/-
  Contract: anyPlan. (Printed by wip/gea.py.)
-/
import Derived.Test.YtcbfbgngkdiijaaProg
import Derived.Test.YtcbfbgngkdiijaaGeS
import Derived.Test.YtcbfbgngkdiijaaMemF
import Derived.Deep.CutBlock
import Derived.Deep.DeepCutAuto
namespace Go.Proofs.Ytcbfbgngkdiijaa
open Go.RowKit Go.Qo
set_option linter.unusedVariables false
set_option linter.unusedSimpArgs false

theorem exs_snocF {S T : Nat → Prop} {w w' : World} {es : List Ex} {fs : List FE} {f : FE} {x : Ex} {A : Option Addr} (hl : fs.length = es.length)
    (h3 : ∀ (i : Nat) (g : FE) (y : Ex), fs[i]? = some g → es[i]? = some y → ExT S w g y) (hx : ExT S w f x) (hb : Below w.heap.size w w') (hST : ∀ k, k < w.heap.size → S k → T k) (hsl : SlS T 5 feC w' A (fs ++ [f])) : ExsT T w' A (es ++ [x]) := by
  have key : ∀ (g : FE) (y : Ex), ExT S w g y → ExT T w' g y := fun g y h => ((h.mono hST).keep hb.size fun k _ hl => hb.block k hl)
  refine ⟨fs ++ [f], by simp [hl], hsl, fun i g y hg hy => ?_⟩
  by_cases hi : i < fs.length
  · rw [List.getElem?_append_left hi] at hg
    rw [List.getElem?_append_left (by omega)] at hy
    exact key g y (h3 i g y hg hy)
  · rw [List.getElem?_append_right (by omega)] at hg
    rw [List.getElem?_append_right (by omega)] at hy
    have h0 : i - fs.length = 0 := by
      have := (List.getElem?_eq_some_iff.1 hg).1
      simp at this
      omega
    rw [h0] at hg
    rw [← hl, h0] at hy
    simp at hg hy
    subst hg hy
    exact key _ _ hx
/-- What can be appended to at the root, all of it apart from the block pb. -/
def KdsA (lo pb : Nat) (w : World) (v : Value) (es : List Ex) : Prop :=
  ∃ fs : List FE, fs.length = es.length ∧ Ow lo 66 5 feC w v fs ∧ ∀ (i : Nat) (g : FE) (x : Ex), fs[i]? = some g → es[i]? = some x → ExT (fun k => lo ≤ k ∧ k ≠ pb ∧ v.ownBlock ≠ some k) w g x
theorem KdsA.of {lo pb : Nat} {w : World} {v : Value} {es : List Ex} (h : Kds lo w v es) (hp : w.heap.size ≤ pb) : KdsA lo pb w v es := by
  obtain ⟨fs, h1, h2, h3⟩ := h
  exact ⟨fs, h1, h2, fun i g x hg hx => (h3 i g x hg hx).mono fun k hk hs => ⟨hs.1, by omega, hs.2⟩⟩
theorem KdsA.only {lo pb : Nat} {w w' : World} {v : Value} {es : List Ex} {S : Nat → Prop} (h : KdsA lo pb w v es) (k : Only S w w') (hS : ∀ i, S i → i < lo) : KdsA lo pb w' v es := by
  obtain ⟨fs, h1, h2, h3⟩ := h
  exact ⟨fs, h1, h2.only k fun i hi => .inl (hS i hi), fun i g x hg hx => (h3 i g x hg hx).keep k.size fun c hc hl => k.block c hl fun hs => by have := hS c hs; omega⟩
theorem exs_snocO {lo pb : Nat} {w w' : World} {v : Value} {A : Option Addr} {n c : Nat} {es : List Ex} {fs : List FE} {f : FE} {x : Ex} (hl : fs.length = es.length)
    (h3 : ∀ (i : Nat) (g : FE) (x : Ex), fs[i]? = some g → es[i]? = some x → ExT (fun k => lo ≤ k ∧ k ≠ pb ∧ v.ownBlock ≠ some k) w g x) (hx : ExT (fun k => lo ≤ k ∧ k ≠ pb ∧ v.ownBlock ≠ some k) w f x)
    (how : Ow lo 66 5 feC w' (.slice A n c) (fs ++ [f])) (hgr : w.grownBy w' v.ownBlock) (hpb : ∀ g, (Value.slice A n c).ownBlock = some g → g ≠ pb) : ExsT (fun k => lo ≤ k ∧ k ≠ pb) w' A (es ++ [x]) := by
  have key : ∀ (g : FE) (y : Ex), ExT (fun k => lo ≤ k ∧ k ≠ pb ∧ v.ownBlock ≠ some k) w g y → ExT (fun k => lo ≤ k ∧ k ≠ pb) w' g y := fun g y h =>
    (h.keep hgr.size fun c hc hl => hgr.block c hl fun e => hc.2.2 e.symm).mono fun c _ hc => ⟨hc.1, hc.2.1⟩
  refine ⟨fs ++ [f], by simp [hl], fun h0 => ?_, fun i g y hg hy => ?_⟩
  · obtain ⟨A', c', hv, _, _, hs⟩ := how.shape feC_length
    injection hv with hv1 hv2 hv3
    subst hv1
    obtain ⟨b, off, hA, h1, h2, h3', h4⟩ := hs h0
    obtain ⟨g, hg1, hg2, _⟩ := Ow.head feC_length how h0
    rw [hg1] at hA
    injection hA with hA
    injection hA with hA1 hA2
    subst hA1 hA2
    exact ⟨g, 0, hg1, ⟨h1, hpb g (by rw [hg1]; rfl)⟩, h2, h4⟩
  · by_cases hi : i < fs.length
    · rw [List.getElem?_append_left hi] at hg
      rw [List.getElem?_append_left (by omega)] at hy
      exact key g y (h3 i g y hg hy)
    · rw [List.getElem?_append_right (by omega)] at hg
      rw [List.getElem?_append_right (by omega)] at hy
      have h0 : i - fs.length = 0 := by
        have := (List.getElem?_eq_some_iff.1 hg).1
        simp at this
        omega
      rw [h0] at hg
      rw [← hl, h0] at hy
      simp at hg hy
      subst hg hy
      exact key _ _ hx
def RootX (lo pb : Nat) (w : World) (f : FP) (x : Pl) : Prop := (x.exprs.length ≤ 1000 ∧ x.cols.length ≤ 1000) ∧ f.cs.n = f.cs.c ∧ (f.es.n = f.es.c ∨ (x.cols = [] ∧ KdsA lo pb w (.slice f.es.A f.es.n f.es.c) x.exprs ∧ PlsT (fun k => lo ≤ k ∧ k ≠ pb ∧ (Value.slice f.es.A f.es.n f.es.c).ownBlock ≠ some k) w f.ks.A x.kids))
theorem RootX.of {lo lo' pb : Nat} {w : World} {f : FP} {x : Pl} (h : RootOk lo' w f x) (hp : w.heap.size ≤ pb) (hl : lo ≤ lo') : RootX lo pb w f x := by
  have h := h.low hl
  exact ⟨h.1, h.2.1, h.2.2.imp id fun ⟨h0, h1, h2⟩ => ⟨h0, .of h1 hp, PlsT.mono h2 fun k hk hs => ⟨hs.1, by omega, hs.2⟩⟩⟩
theorem RootX.only {lo pb : Nat} {w w' : World} {f : FP} {x : Pl} {S : Nat → Prop} (h : RootX lo pb w f x) (k : Only S w w') (hS : ∀ i, S i → i < lo) : RootX lo pb w' f x :=
  ⟨h.1, h.2.1, h.2.2.imp id fun ⟨h0, h1, h2⟩ => ⟨h0, h1.only k hS, PlsT.keep h2 k.size fun j hj hl => k.block j hl fun hs => by have := hS j hs; omega⟩⟩
def apC : Nat := rpC + 100
def apD : Nat := rpD + 60
set_option maxRecDepth 20000 in
set_option maxHeartbeats 8000000 in
theorem anyPlan_ok (b p : Nat) (A : Option Addr) (c : Nat) (ws : List Int) (w : World) (hR : Rd w b p) (hp : p + apC ≤ 1099511627776) (hws : SlS (fun k => k ≠ b) 1 intC w A ws) (hwr : ∀ x ∈ ws, 1 ≤ x ∧ x ≤ 6) (hwl : ws.length ≤ 4) :
    Calls Try.prog 28 #[.pointer (some ⟨b, 0, none⟩), .slice A ws.length c] w (GotPl apD b (p + apC) w) := by
  have hlt := hR.lt
  have hap : apC = rpC + 100 := rfl
  obtain ⟨W0, hW0⟩ : ∃ z, w.alloc (.cells #[.int .i64 0, .int .i64 0, .slice none 0 0, .slice none 0 0, .slice none 0 0] 27) = z := ⟨_, rfl⟩
  have b0 : Below w.heap.size w W0 := by rw [← hW0]; exact balloc (Below.refl _ _) _
  have r0 : Row W0 w.heap.size 27 [.int .i64 0, .int .i64 0, .slice none 0 0, .slice none 0 0, .slice none 0 0] := by rw [← hW0]; exact Row.new _ _ _
  have hl0 := r0.lt
  have HPL := Lib.hid (randomPlan_ok b p A c ws W0 (hR.on b0) (by omega) (hws.keep b0.size fun k _ hl => b0.block k hl) hwr hwl)
  have Hr0 := Lib.hid r0
  have HB0 := Lib.hid (show But b w W0 from only_below b0)
  have HW0 := Lib.hid hW0
  have Hc := Lib.hid hap
  clear hR hws hW0 b0 r0 hap
  go_enter Try.func28, Try.ntmps28
  go_upto_region 1 with fail
  rw [HW0.out]
  go_wp2_with fail
  refine HPL.out.mono ?_
  rintro e w1 ⟨pf, px, rfl, hx1, hrt1, hb1, hR1, hpn⟩
  have HPN := Lib.hid hpn
  clear hpn
  unfold fpV
  obtain ⟨W2, hW2⟩ : ∃ z, w1.alloc (.cells #[.int .i64 pf.kind, .int .i64 pf.table, .slice pf.es.A pf.es.n pf.es.c, .slice pf.cs.A pf.cs.n pf.cs.c, .slice pf.ks.A pf.ks.n pf.ks.c] 27) = z := ⟨_, rfl⟩
  obtain ⟨pb, hpb⟩ : ∃ n, w1.heap.size = n := ⟨_, rfl⟩
  have b2 : Below w1.heap.size w1 W2 := by rw [← hW2]; exact balloc (Below.refl _ _) _
  have hz1 := hb1.size
  have Hp2 := Lib.hid (show Row W2 pb 27 (fpC pf) by rw [← hW2, ← hpb]; exact Row.new _ _ _)
  have Hr2 := Lib.hid ((Hr0.out.only hb1 (by omega)).on b2)
  have HX2 := Lib.hid ((hx1.mono (T := fun k => w.heap.size < k ∧ k < pb) fun k hl hk => ⟨by omega, by omega⟩).keep b2.size fun k _ hl => b2.block k hl)
  have HT2 := Lib.hid ((RootX.of (lo := w.heap.size + 1) (pb := pb) hrt1 (by omega) (by omega)).only (only_below (S := fun _ => False) b2) (fun i hi => hi.elim))
  have HB2 := Lib.hid ((HB0.out.trans hb1).below b2)
  have HR2 := Lib.hid (hR1.on b2)
  have hpb1 : w.heap.size < pb := by omega
  have Hpb := Lib.hid hpb
  have HW2 := Lib.hid hW2
  clear hx1 hrt1 hb1 hR1 hW2 hpb b2 hz1
  go_upto_region 2 with fail
  rw [HW2.out, Hpb.out]
  go_wp2_with fail
  refine (pick_ok b _ 18 W2 HR2.out (by have := Hc.out; omega)).mono ?_
  rintro e w3 ⟨k, rfl, hk, hb3, hsz3, hR3⟩
  have hp3 := Hp2.out.only hb3 (by omega)
  have Hp3 := Lib.hid hp3
  have Hr3 := Lib.hid (Hr2.out.only hb3 (by omega))
  have HX3 := Lib.hid (HX2.out.keep hb3.size fun k hk hl => hb3.block k hl (by omega))
  have HT3 := Lib.hid (HT2.out.only hb3 (fun i (hi : i = b) => by omega))
  have HB3 := Lib.hid (HB2.out.trans hb3)
  have HR3 := Lib.hid hR3
  have hk0 := hk.1
  have hlp := hp3.lt
  have k0 : w3.cell? ⟨pb, 0, none⟩ = some (.int .i64 pf.kind) := hp3.cell 0
  have k1 : w3.cell? ⟨pb, 1, none⟩ = some (.int .i64 pf.table) := hp3.cell 1
  have k2 : w3.cell? ⟨pb, 2, none⟩ = some (.slice pf.es.A pf.es.n pf.es.c) := hp3.cell 2
  have k3 : w3.cell? ⟨pb, 3, none⟩ = some (.slice pf.cs.A pf.cs.n pf.cs.c) := hp3.cell 3
  have k4 : w3.cell? ⟨pb, 4, none⟩ = some (.slice pf.ks.A pf.ks.n pf.ks.c) := hp3.cell 4
  have FL := Lib.hid HX3.out.flat
  have BD := Lib.hid HX3.out.bnd.all.1
  clear hk hb3 hsz3 hR3 hp3
  go_upto_block 0 with fail
  go_cut [] (fun wx => ∃ (f2 : FP) (x2 : Pl), Row wx pb 27 (fpC f2) ∧ PlT (fun k => w.heap.size < k ∧ k ≠ pb) wx f2 x2 ∧ Row wx w.heap.size 27 [.int .i64 0, .int .i64 0, .slice none 0 0, .slice none 0 0, .slice none 0 0] ∧ But b w wx ∧ Rd wx b (p + apC) ∧ plN x2 ≤ apD)
  case first =>
    have h4 : k = 0 ∨ k = 1 ∨ k = 2 ∨ k = 3 ∨ (¬ k = 0 ∧ ¬ k = 1 ∧ ¬ k = 2 ∧ ¬ k = 3) := by omega
    rcases h4 with rfl | rfl | rfl | rfl | ⟨n0, n1, n2, n3⟩
    · obtain ⟨V, hV⟩ : ∃ z, w3.alloc (.cells #[.int .i64 0, .int .i64 9, .int .i64 1, .int .i64 4] 3) = z := ⟨_, rfl⟩
      have hvb : Below w3.heap.size w3 V := by rw [← hV]; exact balloc (Below.refl _ _) _
      have hvs : V.heap.size = w3.heap.size + 1 := by rw [← hV]; simp
      have HO := Lib.hid (one_ok b _ (some ⟨w3.heap.size, 0, none⟩) 4 [0, 9, 1, 4] V (HR3.out.on hvb) (by have := Hc.out; omega) (by simp) (by simp) (by rw [← hV]; exact Row.sl' (t := 3) intC_length ((Row.new w3 _ _).of rfl)) (by rintro a ha; cases ha; exact (show w3.heap.size ≠ b by omega)))
      have Hvb := Lib.hid hvb
      have HV := Lib.hid hV
      clear hV hvb
      go_upto_region 4 with fail
      go_wp2_with fail
      rw [HV.out]
      refine HO.out.mono ?_
      rintro e w4 ⟨kk, rfl, _, hb4, hsz4, hR4⟩
      have hk4 := (Hp3.out.on Hvb.out).only hb4 (by omega)
      have Hr4 := Lib.hid ((Hr3.out.on Hvb.out).only hb4 (by omega))
      have HB4 := Lib.hid ((HB3.out.below Hvb.out).trans hb4)
      have HR4 := Lib.hid hR4
      have HX4 := Lib.hid ((HX3.out.keep Hvb.out.size fun j _ hl => Hvb.out.block j hl).keep hb4.size fun j hj hl => hb4.block j hl (by omega))
      have Hk4 := Lib.hid hk4
      have m0 : w4.cell? ⟨pb, 0, none⟩ = some (.int .i64 pf.kind) := hk4.cell 0
      have g0 := hk4.frozen 0
      have hl4 := hk4.lt
      clear hb4 hsz4 hR4 hk4
      go_wp2
      go_meet
      have hs := Only.set (S := fun i => i = pb) (p := ⟨pb, 0, none⟩) (Only.refl w4) (.inl rfl) (.int .i64 kk)
      obtain ⟨_, _, q1, q2, q3, q4, q5, q6⟩ := HX4.out.flat
      have hm := (PlT.make (S := fun j => w.heap.size < j ∧ j < pb) (k := kk) (t := pf.table) (es := pf.es) (cs := pf.cs) (ks := pf.ks) q1 q2 q3 q4 q5 q6 BD.out.1 BD.out.2.1 BD.out.2.2).keep hs.size (fun j hj hl => hs.block j hl (show ¬ j = pb by omega))
      exact ⟨_, _, (Hk4.out.set 0 _), hm.mono (fun j _ hj => ⟨hj.1, by omega⟩), Hr4.out.only hs (show ¬ w.heap.size = pb by omega), HB4.out.step hs (fun j (hj : j = pb) => .inr (by omega)), (HR4.out.apart hs fun j (hj : j = pb) => by omega).mono (by have := Hc.out; omega), by have h := HPN.out; rw [plN_eq] at h; rw [plN]; unfold apD; omega⟩
    · obtain ⟨V, hV⟩ : ∃ z, w3.alloc (.cells #[.int .i64 (-1), .int .i64 4, .int .i64 1] 3) = z := ⟨_, rfl⟩
      have hvb : Below w3.heap.size w3 V := by rw [← hV]; exact balloc (Below.refl _ _) _
      have hvs : V.heap.size = w3.heap.size + 1 := by rw [← hV]; simp
      have HO := Lib.hid (one_ok b _ (some ⟨w3.heap.size, 0, none⟩) 3 [(-1), 4, 1] V (HR3.out.on hvb) (by have := Hc.out; omega) (by simp) (by simp) (by rw [← hV]; exact Row.sl' (t := 3) intC_length ((Row.new w3 _ _).of rfl)) (by rintro a ha; cases ha; exact (show w3.heap.size ≠ b by omega)))
      have Hvb := Lib.hid hvb
      have HV := Lib.hid hV
      clear hV hvb
      go_upto_region 6 with fail
      go_wp2_with fail
      rw [HV.out]
      refine HO.out.mono ?_
      rintro e w4 ⟨kk, rfl, _, hb4, hsz4, hR4⟩
      have hk4 := (Hp3.out.on Hvb.out).only hb4 (by omega)
      have Hr4 := Lib.hid ((Hr3.out.on Hvb.out).only hb4 (by omega))
      have HB4 := Lib.hid ((HB3.out.below Hvb.out).trans hb4)
      have HR4 := Lib.hid hR4
      have HX4 := Lib.hid ((HX3.out.keep Hvb.out.size fun j _ hl => Hvb.out.block j hl).keep hb4.size fun j hj hl => hb4.block j hl (by omega))
      have Hk4 := Lib.hid hk4
      have m0 : w4.cell? ⟨pb, 1, none⟩ = some (.int .i64 pf.table) := hk4.cell 1
      have g0 := hk4.frozen 1
      have hl4 := hk4.lt
      clear hb4 hsz4 hR4 hk4
      go_wp2
      go_meet
      have hs := Only.set (S := fun i => i = pb) (p := ⟨pb, 1, none⟩) (Only.refl w4) (.inl rfl) (.int .i64 kk)
      obtain ⟨_, _, q1, q2, q3, q4, q5, q6⟩ := HX4.out.flat
      have hm := (PlT.make (S := fun j => w.heap.size < j ∧ j < pb) (k := pf.kind) (t := kk) (es := pf.es) (cs := pf.cs) (ks := pf.ks) q1 q2 q3 q4 q5 q6 BD.out.1 BD.out.2.1 BD.out.2.2).keep hs.size (fun j hj hl => hs.block j hl (show ¬ j = pb by omega))
      exact ⟨_, _, (Hk4.out.set 1 _), hm.mono (fun j _ hj => ⟨hj.1, by omega⟩), Hr4.out.only hs (show ¬ w.heap.size = pb by omega), HB4.out.step hs (fun j (hj : j = pb) => .inr (by omega)), (HR4.out.apart hs fun j (hj : j = pb) => by omega).mono (by have := Hc.out; omega), by have h := HPN.out; rw [plN_eq] at h; rw [plN]; unfold apD; omega⟩
    · have hrt := HT3.out
      have SB := Lib.hid (fun (z : World) (hz : But b w3 z) => show z.cell? ⟨pb, 3, none⟩ = some (.slice pf.cs.A pf.cs.n pf.cs.c) from (Hp3.out.only hz (by omega)).cell 3)
      go_upto_region 8 with fail
      obtain ⟨u0, hu0⟩ : ∃ z, w3.drew = z := ⟨_, rfl⟩
      have Bu0 := Lib.hid (show But b w3 u0 from hu0 ▸ (Only.refl _).drew)
      have Ru0 := Lib.hid (show Rd u0 b (p + rpC + 1) from hu0 ▸ HR3.out.on (Below.refl _ _).drew)
      have Hu0 := Lib.hid hu0
      clear hu0
      refine wp_region_g 8 (fun z => z.cell? ⟨pb, 3, none⟩ = some (.slice pf.cs.A pf.cs.n pf.cs.c)) (by kernel_rfl) ?_ (fun hHeld => ?_)
      · exact SB.out _ (Only.refl _).drew
      rw [Hu0.out] at hHeld ⊢
      refine takeG (i := 0) (v := ?v1) rfl (by kernel_rfl) (by kernel_rfl) (by kernel_rfl) (by kernel_rfl) (fun _ _ _ h => h) (Or.inl ⟨by rfl, ?hy1⟩) (by assumption) ?_
      case hy1 => ((intro w' hSw; (try dsimp only at hSw); go_simp) <;> with_reducible rfl)
      try simp only [Act.put, List.setIfInBounds_toArray, List.set_cons_zero, List.set_cons_succ]
      refine takeG (i := 1) (v := ?v2) rfl (by kernel_rfl) (by kernel_rfl) (by kernel_rfl) (by kernel_rfl) (fun _ _ _ h => h) (Or.inl ⟨by rfl, ?hy2⟩) (by assumption) ?_
      case hy2 => ((intro w' hSw; (try dsimp only at hSw); go_simp) <;> with_reducible rfl)
      try simp only [Act.put, List.setIfInBounds_toArray, List.set_cons_zero, List.set_cons_succ]
      refine takeG (i := 2) (v := ?v3) rfl (by kernel_rfl) (by kernel_rfl) (by kernel_rfl) (by kernel_rfl) (fun _ _ _ h => h) (Or.inl ⟨by rfl, ?hy3⟩) (by assumption) ?_
      case hy3 => ((intro w' hSw; (try dsimp only at hSw); go_simp) <;> with_reducible rfl)
      try simp only [Act.put, List.setIfInBounds_toArray, List.set_cons_zero, List.set_cons_succ]
      refine wpAnyG_ready (rs := [3]) (by kernel_rfl) (by simp) ?_
      refine readyG rfl (fun K hK => ?_) AllReadyG.nil
      obtain ⟨x1, hx1⟩ : ∃ y, u0.alloc (.cells #[.int .i64 0, .int .i64 9] 3) = y := ⟨_, rfl⟩
      have hb : Below u0.heap.size u0 x1 := by rw [← hx1]; exact balloc (Below.refl _ _) _
      have Bx1 := Lib.hid (Bu0.out.below hb)
      have Rx1 := Lib.hid (Ru0.out.on hb)
      have hzb : b < u0.heap.size := by have := Ru0.out.lt; omega
      have J := Lib.hid (show Sl 1 intC x1 x1.heap.size (some ⟨u0.heap.size, 0, none⟩) [0, 9] by rw [← hx1]; exact Row.sl' (t := 3) intC_length ((Row.new _ _ _).of rfl))
      have hub : u0.heap.size ≠ b := by omega
      go_simp
      try rw [hx1]
      have Hx1 := Lib.hid hx1
      clear hx1 hb hzb
      refine hK.out _ _ ?hS4 (fun hHeld => ?_)
      case hS4 => exact fun _ => SB.out _ Bx1.out
      replace hHeld := hHeld (by decide)
      clear hK K
      try simp only [Act.put, List.setIfInBounds_toArray, List.set_cons_zero, List.set_cons_succ]
      refine wpAnyG_ready (rs := [4]) (by kernel_rfl) (by simp) ?_
      refine readyG rfl (fun K hK => ?_) AllReadyG.nil
      go_simp
      go_at_call 29
      refine (one_ok b _ (some ⟨u0.heap.size, 0, none⟩) 2 [0, 9] x1 Rx1.out (by have := Hc.out; omega) (by simp) (by simp) J.out (by rintro a ha; cases ha; exact hub)).mono ?_
      rintro e x2 ⟨kk, rfl, _, hb, _, hR⟩
      have Bx2 := Lib.hid (Bx1.out.trans hb)
      have Rx2 := Lib.hid hR
      clear hb hR
      refine hK.out _ _ ?hS5 (fun hHeld => ?_)
      case hS5 => exact fun _ => SB.out _ Bx2.out
      replace hHeld := hHeld (by decide)
      clear hK K
      try simp only [Act.put, List.setIfInBounds_toArray, List.set_cons_zero, List.set_cons_succ]
      refine wpAnyG_ready (rs := [5]) (by kernel_rfl) (by simp) ?_
      refine readyG rfl (fun K hK => ?_) AllReadyG.nil
      obtain ⟨x3, hx3⟩ : ∃ y, x2.alloc (.cells #[.int .i64 kk] 3) = y := ⟨_, rfl⟩
      have hb : Below x2.heap.size x2 x3 := by rw [← hx3]; exact balloc (Below.refl _ _) _
      have Bx3 := Lib.hid (Bx2.out.below hb)
      have Rx3 := Lib.hid (Rx2.out.on hb)
      have hzb : b < x2.heap.size := by have := Rx2.out.lt; omega
      have I3 := Lib.hid (show Sl 1 intC x3 x3.heap.size (some ⟨x2.heap.size, 0, none⟩) [kk] by rw [← hx3]; exact Row.sl' (t := 3) intC_length ((Row.new _ _ _).of rfl))
      go_simp
      try rw [hx3]
      have Hx3 := Lib.hid hx3
      clear hx3 hb hzb
      refine hK.out _ _ ?hS6 (fun hHeld => ?_)
      case hS6 => exact fun _ => SB.out _ Bx3.out
      replace hHeld := hHeld (by decide)
      clear hK K
      try simp only [Act.put, List.setIfInBounds_toArray, List.set_cons_zero, List.set_cons_succ]
      refine wpAnyG_ready (rs := [6]) (by kernel_rfl) (by simp) ?_
      refine readyG rfl (fun K hK => ?_) AllReadyG.nil
      have fl := FL.out
      have hcn : pf.cs.n = px.cols.length := fl.2.2.2.1.1
      have hcc : pf.cs.c = px.cols.length := by rw [← HT3.out.2.1]; exact hcn
      have hX3' := HX3.out.keep Bx3.out.size fun j hj hl => Bx3.out.block j hl (by omega)
      have hcsl := hX3'.flat.2.2.2.2.2.2.1.sl
      have hcl := HT3.out.1.2
      refine step_appF rfl (.tmp 26) (.tmp 30) 24 rfl 3 _ 1 8 intC Try.underlying24 zeroIntG (by decide) (by decide) intC_length pf.cs.A px.cols (by rw [← hcn]; show Value.slice pf.cs.A pf.cs.n pf.cs.c = Value.slice pf.cs.A pf.cs.n pf.cs.n; rw [HT3.out.2.1]) hcsl (some ⟨x2.heap.size, 0, none⟩) 1 1 [kk] rfl rfl I3.out (by simp) (by simp; omega) ?_
      intro C x4 hC1 hC2 hb hsl
      have Bx4 := Lib.hid (Bx3.out.below hb)
      have Rx4 := Lib.hid (Rx3.out.on hb)
      have hz3 : pb < x3.heap.size := by have := (Hp3.out.only Bx3.out (by omega)).lt; exact this
      have SL4 := Lib.hid (And.intro hC1 (And.intro hC2 (And.intro hsl hz3)))
      have HX4 := Lib.hid (hX3'.keep hb.size fun j _ hl => hb.block j hl)
      clear hb hsl hC1 hC2 hX3' hcsl hcl hcn hcc fl
      refine hK.out _ _ ?hS7 (fun hHeld => ?_)
      case hS7 => exact fun _ => SB.out _ Bx4.out
      replace hHeld := hHeld (by decide)
      clear hK K
      try simp only [Act.put, List.setIfInBounds_toArray, List.set_cons_zero, List.set_cons_succ]
      refine takeG (i := 7) (v := ?v8) rfl (by kernel_rfl) (by kernel_rfl) (by kernel_rfl) (by kernel_rfl) (fun _ _ _ h => h) (Or.inl ⟨by rfl, ?hy8⟩) (by assumption) ?_
      case hy8 => ((intro w' hSw; (try dsimp only at hSw); go_simp) <;> with_reducible rfl)
      try simp only [Act.put, List.setIfInBounds_toArray, List.set_cons_zero, List.set_cons_succ]
      refine wpAnyG_ready (rs := [8]) (by kernel_rfl) (by simp) ?_
      refine readyG rfl (fun K hK => ?_) AllReadyG.nil
      have rp := Hp3.out.only Bx4.out (show pb ≠ b by omega)
      have hlp4 := rp.lt
      have m3 : x4.cell? ⟨pb, 3, none⟩ = some (.slice pf.cs.A pf.cs.n pf.cs.c) := rp.cell 3
      have g3 := rp.frozen 3
      have Hp4 := Lib.hid rp
      clear rp
      go_simp
      refine hK.out _ _ ?hS9 (fun hHeld => ?_)
      case hS9 => exact fun h => absurd rfl h
      clear hK K
      try simp only [Act.put, List.setIfInBounds_toArray, List.set_cons_zero, List.set_cons_succ]
      refine wpAnyG_done (by kernel_rfl) ?_ _
      go_wp2
      go_meet
      obtain ⟨hC1, hC2, hsl, hz3⟩ := SL4.out
      have hs := Only.set (S := fun i => i = pb) (p := ⟨pb, 3, none⟩) (Only.refl x4) (.inl rfl) (.slice (some ⟨x3.heap.size, 0, none⟩) (px.cols.length + 1) C)
      obtain ⟨_, _, q1, q2, q3, q4, q5, q6⟩ := HX4.out.flat
      have hcl := HT3.out.1.2
      have hm := (PlT.make (S := fun j => w.heap.size < j ∧ j ≠ pb) (k := pf.kind) (t := pf.table) (es := pf.es) (cs := ⟨some ⟨x3.heap.size, 0, none⟩, px.cols.length + 1, C⟩) (ks := pf.ks) (cols := px.cols ++ [kk]) q1 ⟨by simp, hC1, hC2⟩ q3 (q4.mono fun j _ hj => ⟨hj.1, by omega⟩) (hsl.mono fun j _ (hj : j = x3.heap.size) => ⟨by omega, by omega⟩) (PlsT.mono q6 fun j _ hj => ⟨hj.1, by omega⟩) BD.out.1 (by simp; omega) BD.out.2.2).keep hs.size (fun j hj hl => hs.block j hl hj.2)
      exact ⟨_, _, (Hp4.out.set 3 _), hm, (Hr3.out.only Bx4.out (by omega)).only hs (show ¬ w.heap.size = pb by omega), (HB3.out.trans Bx4.out).step hs (fun j (hj : j = pb) => .inr (by omega)), (Rx4.out.apart hs fun j (hj : j = pb) => by omega).mono (by have := Hc.out; omega), by have h := HPN.out; rw [plN_eq] at h; rw [plN]; unfold apD; omega⟩
    · have hrt := HT3.out
      have SB := Lib.hid (fun (z : World) (hz : But b w3 z) => show z.cell? ⟨pb, 2, none⟩ = some (.slice pf.es.A pf.es.n pf.es.c) from (Hp3.out.only hz (by omega)).cell 2)
      go_upto_region 10 with fail
      obtain ⟨u0, hu0⟩ : ∃ z, w3.drew = z := ⟨_, rfl⟩
      have Bu0 := Lib.hid (show But b w3 u0 from hu0 ▸ (Only.refl _).drew)
      have Ru0 := Lib.hid (show Rd u0 b (p + rpC + 1) from hu0 ▸ HR3.out.on (Below.refl _ _).drew)
      have Hu0 := Lib.hid hu0
      clear hu0
      rcases hrt.2.2 with hnc | ⟨hcn, hkd, hks⟩
      · have Hnc := Lib.hid hnc
        clear hnc
        refine wp_region_g 7 (fun z => z.cell? ⟨pb, 2, none⟩ = some (.slice pf.es.A pf.es.n pf.es.c)) (by kernel_rfl) ?_ (fun hHeld => ?_)
        · exact SB.out _ (Only.refl _).drew
        rw [Hu0.out] at hHeld ⊢
        refine takeG (i := 0) (v := ?v10) rfl (by kernel_rfl) (by kernel_rfl) (by kernel_rfl) (by kernel_rfl) (fun _ _ _ h => h) (Or.inl ⟨by rfl, ?hy10⟩) (by assumption) ?_
        case hy10 => ((intro w' hSw; (try dsimp only at hSw); go_simp) <;> with_reducible rfl)
        try simp only [Act.put, List.setIfInBounds_toArray, List.set_cons_zero, List.set_cons_succ]
        refine takeG (i := 1) (v := ?v11) rfl (by kernel_rfl) (by kernel_rfl) (by kernel_rfl) (by kernel_rfl) (fun _ _ _ h => h) (Or.inl ⟨by rfl, ?hy11⟩) (by assumption) ?_
        case hy11 => ((intro w' hSw; (try dsimp only at hSw); go_simp) <;> with_reducible rfl)
        try simp only [Act.put, List.setIfInBounds_toArray, List.set_cons_zero, List.set_cons_succ]
        refine takeG (i := 2) (v := ?v12) rfl (by kernel_rfl) (by kernel_rfl) (by kernel_rfl) (by kernel_rfl) (fun _ _ _ h => h) (Or.inl ⟨by rfl, ?hy12⟩) (by assumption) ?_
        case hy12 => ((intro w' hSw; (try dsimp only at hSw); go_simp) <;> with_reducible rfl)
        try simp only [Act.put, List.setIfInBounds_toArray, List.set_cons_zero, List.set_cons_succ]
        refine wpAnyG_ready (rs := [3]) (by kernel_rfl) (by simp) ?_
        refine readyG rfl (fun K hK => ?_) AllReadyG.nil
        go_simp
        go_at_call 48
        refine (anyExpr_ok b _ 2 u0 Ru0.out (by have := Hc.out; omega)).mono ?_
        rintro e x1 ⟨f, x, rfl, hx, hb, hR, hxn⟩
        have HXN := Lib.hid hxn
        clear hxn
        unfold feV
        have Bx1 := Lib.hid (Bu0.out.trans hb)
        have Rx1 := Lib.hid hR
        have hpu : pb < u0.heap.size := (Hp3.out.only Bu0.out (by omega)).lt
        have X1 := Lib.hid hx
        clear hb hR hx
        refine hK.out _ _ ?hS13 (fun hHeld => ?_)
        case hS13 => exact fun _ => SB.out _ Bx1.out
        replace hHeld := hHeld (by decide)
        clear hK K
        try simp only [Act.put, List.setIfInBounds_toArray, List.set_cons_zero, List.set_cons_succ]
        refine wpAnyG_ready (rs := [4]) (by kernel_rfl) (by simp) ?_
        refine readyG rfl (fun K hK => ?_) AllReadyG.nil
        obtain ⟨x2, hx2⟩ : ∃ y, x1.alloc (.cells #[.int .i64 f.kind, .int .i64 f.col, .bool f.val.1, .int .i64 f.val.2, .slice f.sv.A f.sv.n f.sv.c] 66) = y := ⟨_, rfl⟩
        have hb : Below x1.heap.size x1 x2 := by rw [← hx2]; exact balloc (Below.refl _ _) _
        have Bx2 := Lib.hid (Bx1.out.below hb)
        have Rx2 := Lib.hid (Rx1.out.on hb)
        have hzb : b < x1.heap.size := by have := Rx1.out.lt; omega
        have S2 := Lib.hid (show Sl 5 feC x2 x2.heap.size (some ⟨x1.heap.size, 0, none⟩) [f] by rw [← hx2]; exact Row.sl' (t := 66) feC_length ((Row.new x1 _ _).of rfl))
        have X2 := Lib.hid (X1.out.keep hb.size fun k _ hl => hb.block k hl)
        have HZ2 := Lib.hid (show x2.heap.size = x1.heap.size + 1 by rw [← hx2]; simp)
        go_simp
        try rw [hx2]
        have Hx2 := Lib.hid hx2
        clear hx2 hb hzb
        refine hK.out _ _ ?hS14 (fun hHeld => ?_)
        case hS14 => exact fun _ => SB.out _ Bx2.out
        replace hHeld := hHeld (by decide)
        clear hK K
        try simp only [Act.put, List.setIfInBounds_toArray, List.set_cons_zero, List.set_cons_succ]
        refine wpAnyG_ready (rs := [5]) (by kernel_rfl) (by simp) ?_
        refine readyG rfl (fun K hK => ?_) AllReadyG.nil
        have hz2 := HZ2.out
        have hX2' := HX3.out.keep Bx2.out.size fun j hj hl => Bx2.out.block j hl (by omega)
        obtain ⟨_, _, q1, q2, q3, ⟨fs, hfl, hfs, hfx⟩, q5, q6⟩ := hX2'.flat
        have hen : pf.es.n = px.exprs.length := q1.1
        have hel := HT3.out.1.1
        refine step_appF rfl (.tmp 36) (.tmp 39) 23 rfl 66 _ 5 56 feC Try.underlying23 zeroExT (by decide) (by decide) feC_length pf.es.A fs (by rw [hfl, ← hen]; show Value.slice pf.es.A pf.es.n pf.es.c = Value.slice pf.es.A pf.es.n pf.es.n; rw [Hnc.out]) hfs.sl (some ⟨x1.heap.size, 0, none⟩) 1 1 [f] rfl rfl S2.out (by simp) (by simp; omega) ?_
        intro C x3 hC1 hC2 hb hsl
        have Bx3 := Lib.hid (Bx2.out.below hb)
        have Rx3 := Lib.hid (Rx2.out.on hb)
        have hbx1 := Bx1.out.size
        have hub := Bu0.out.size
        have E3 := Lib.hid (exs_snocF (S := fun k => w.heap.size < k ∧ k ≠ pb) (T := fun k => w.heap.size < k ∧ k ≠ pb) hfl (fun i g y hg hy => (hfx i g y hg hy).mono fun k _ hk => ⟨hk.1, by omega⟩) (X2.out.mono fun k _ hk => ⟨by omega, by omega⟩) hb (fun k _ hk => hk) (hsl.mono fun j _ (hj : j = x2.heap.size) => ⟨by omega, by omega⟩))
        have SL3 := Lib.hid (And.intro hC1 (And.intro hC2 hfl))
        have HX4 := Lib.hid (hX2'.keep hb.size fun j _ hl => hb.block j hl)
        clear hb hsl hC1 hC2 hX2' q1 q2 q3 hfs hfx q5 q6 hen hel hbx1 hub hfl hz2
        refine hK.out _ _ ?hS15 (fun hHeld => ?_)
        case hS15 => exact fun _ => SB.out _ Bx3.out
        replace hHeld := hHeld (by decide)
        clear hK K
        try simp only [Act.put, List.setIfInBounds_toArray, List.set_cons_zero, List.set_cons_succ]
        refine takeG (i := 6) (v := ?v16) rfl (by kernel_rfl) (by kernel_rfl) (by kernel_rfl) (by kernel_rfl) (fun _ _ _ h => h) (Or.inl ⟨by rfl, ?hy16⟩) (by assumption) ?_
        case hy16 => ((intro w' hSw; (try dsimp only at hSw); go_simp) <;> with_reducible rfl)
        try simp only [Act.put, List.setIfInBounds_toArray, List.set_cons_zero, List.set_cons_succ]
        refine wpAnyG_ready (rs := [7]) (by kernel_rfl) (by simp) ?_
        refine readyG rfl (fun K hK => ?_) AllReadyG.nil
        have rp := Hp3.out.only Bx3.out (show pb ≠ b by omega)
        have hlp4 := rp.lt
        have m2 : x3.cell? ⟨pb, 2, none⟩ = some (.slice pf.es.A pf.es.n pf.es.c) := rp.cell 2
        have g2 := rp.frozen 2
        have Hp4 := Lib.hid rp
        clear rp
        go_simp
        refine hK.out _ _ ?hS17 (fun hHeld => ?_)
        case hS17 => exact fun h => absurd rfl h
        clear hK K
        try simp only [Act.put, List.setIfInBounds_toArray, List.set_cons_zero, List.set_cons_succ]
        refine wpAnyG_done (by kernel_rfl) ?_ _
        go_wp2
        go_meet
        obtain ⟨hC1, hC2, hfl⟩ := SL3.out
        simp only [List.length_singleton] at hC1
        have hs := Only.set (S := fun i => i = pb) (p := ⟨pb, 2, none⟩) (Only.refl x3) (.inl rfl) (.slice (some ⟨x2.heap.size, 0, none⟩) (fs.length + 1) C)
        obtain ⟨_, _, q1, q2, q3, q4, q5, q6⟩ := HX4.out.flat
        have hel := HT3.out.1.1
        have hm := (PlT.make (S := fun j => w.heap.size < j ∧ j ≠ pb) (k := pf.kind) (t := pf.table) (es := ⟨some ⟨x2.heap.size, 0, none⟩, fs.length + 1, C⟩) (cs := pf.cs) (ks := pf.ks) (xs := px.exprs ++ [x]) ⟨by simp [hfl], hC1, hC2⟩ q2 q3 E3.out (q5.mono fun j _ hj => ⟨hj.1, by omega⟩) (PlsT.mono q6 fun j _ hj => ⟨hj.1, by omega⟩) (by simp; omega) BD.out.2.1 BD.out.2.2).keep hs.size (fun j hj hl => hs.block j hl hj.2)
        exact ⟨_, _, (Hp4.out.set 2 _), hm, (Hr3.out.only Bx3.out (by omega)).only hs (show ¬ w.heap.size = pb by omega), (HB3.out.trans Bx3.out).step hs (fun j (hj : j = pb) => .inr (by omega)), (Rx3.out.apart hs fun j (hj : j = pb) => by omega).mono (by have := Hc.out; omega), by have h := HPN.out; have h2 := HXN.out; rw [plN_eq] at h; rw [plN, exsN_append, exsN_one]; unfold apD; omega⟩
      · have Hcn := Lib.hid hcn
        clear hcn
        refine wp_region_g 7 (fun z => z.cell? ⟨pb, 2, none⟩ = some (.slice pf.es.A pf.es.n pf.es.c)) (by kernel_rfl) ?_ (fun hHeld => ?_)
        · exact SB.out _ (Only.refl _).drew
        rw [Hu0.out] at hHeld ⊢
        refine takeG (i := 0) (v := ?v18) rfl (by kernel_rfl) (by kernel_rfl) (by kernel_rfl) (by kernel_rfl) (fun _ _ _ h => h) (Or.inl ⟨by rfl, ?hy18⟩) (by assumption) ?_
        case hy18 => ((intro w' hSw; (try dsimp only at hSw); go_simp) <;> with_reducible rfl)
        try simp only [Act.put, List.setIfInBounds_toArray, List.set_cons_zero, List.set_cons_succ]
        refine takeG (i := 1) (v := ?v19) rfl (by kernel_rfl) (by kernel_rfl) (by kernel_rfl) (by kernel_rfl) (fun _ _ _ h => h) (Or.inl ⟨by rfl, ?hy19⟩) (by assumption) ?_
        case hy19 => ((intro w' hSw; (try dsimp only at hSw); go_simp) <;> with_reducible rfl)
        try simp only [Act.put, List.setIfInBounds_toArray, List.set_cons_zero, List.set_cons_succ]
        refine takeG (i := 2) (v := ?v20) rfl (by kernel_rfl) (by kernel_rfl) (by kernel_rfl) (by kernel_rfl) (fun _ _ _ h => h) (Or.inl ⟨by rfl, ?hy20⟩) (by assumption) ?_
        case hy20 => ((intro w' hSw; (try dsimp only at hSw); go_simp) <;> with_reducible rfl)
        try simp only [Act.put, List.setIfInBounds_toArray, List.set_cons_zero, List.set_cons_succ]
        refine wpAnyG_ready (rs := [3]) (by kernel_rfl) (by simp) ?_
        refine readyG rfl (fun K hK => ?_) AllReadyG.nil
        go_simp
        go_at_call 48
        refine (anyExpr_ok b _ 2 u0 Ru0.out (by have := Hc.out; omega)).mono ?_
        rintro e x1 ⟨f, x, rfl, hx, hb, hR, hxn⟩
        have HXN := Lib.hid hxn
        clear hxn
        unfold feV
        have Bx1 := Lib.hid (Bu0.out.trans hb)
        have Rx1 := Lib.hid hR
        have hpu : pb < u0.heap.size := (Hp3.out.only Bu0.out (by omega)).lt
        have X1 := Lib.hid hx
        clear hb hR hx
        refine hK.out _ _ ?hS21 (fun hHeld => ?_)
        case hS21 => exact fun _ => SB.out _ Bx1.out
        replace hHeld := hHeld (by decide)
        clear hK K
        try simp only [Act.put, List.setIfInBounds_toArray, List.set_cons_zero, List.set_cons_succ]
        refine wpAnyG_ready (rs := [4]) (by kernel_rfl) (by simp) ?_
        refine readyG rfl (fun K hK => ?_) AllReadyG.nil
        obtain ⟨x2, hx2⟩ : ∃ y, x1.alloc (.cells #[.int .i64 f.kind, .int .i64 f.col, .bool f.val.1, .int .i64 f.val.2, .slice f.sv.A f.sv.n f.sv.c] 66) = y := ⟨_, rfl⟩
        have hb : Below x1.heap.size x1 x2 := by rw [← hx2]; exact balloc (Below.refl _ _) _
        have Bx2 := Lib.hid (Bx1.out.below hb)
        have Rx2 := Lib.hid (Rx1.out.on hb)
        have hzb : b < x1.heap.size := by have := Rx1.out.lt; omega
        have S2 := Lib.hid (show Sl 5 feC x2 x2.heap.size (some ⟨x1.heap.size, 0, none⟩) [f] by rw [← hx2]; exact Row.sl' (t := 66) feC_length ((Row.new x1 _ _).of rfl))
        have X2 := Lib.hid (X1.out.keep hb.size fun k _ hl => hb.block k hl)
        have HZ2 := Lib.hid (show x2.heap.size = x1.heap.size + 1 by rw [← hx2]; simp)
        go_simp
        try rw [hx2]
        have Hx2 := Lib.hid hx2
        clear hx2 hb hzb
        refine hK.out _ _ ?hS22 (fun hHeld => ?_)
        case hS22 => exact fun _ => SB.out _ Bx2.out
        replace hHeld := hHeld (by decide)
        clear hK K
        try simp only [Act.put, List.setIfInBounds_toArray, List.set_cons_zero, List.set_cons_succ]
        refine wpAnyG_ready (rs := [5]) (by kernel_rfl) (by simp) ?_
        refine readyG rfl (fun K hK => ?_) AllReadyG.nil
        have hz2 := HZ2.out
        have hx2l : ∀ i, (fun k => k = b) i → i < w.heap.size + 1 := fun i (hi : i = b) => by omega
        obtain ⟨fs, hfl, how, hfx⟩ := hkd.only Bx2.out hx2l
        have hen : pf.es.n = fs.length := by rw [hfl]; exact FL.out.2.2.1.1
        have hel := HT3.out.1.1
        have hw3 := Bu0.out.size
        have hw4 := Bx1.out.size
        obtain ⟨fs0, _, how0, _⟩ := hkd
        have hgo0 : ∀ k, (Value.slice pf.es.A pf.es.n pf.es.c).ownBlock = some k → w.heap.size + 1 ≤ k ∧ k < w3.heap.size := fun k hk => ⟨(how0.ty k hk).1, (how0.ty k hk).2.1⟩
        have X3 := Lib.hid (X2.out.mono (T := fun k => w.heap.size + 1 ≤ k ∧ k ≠ pb ∧ (Value.slice pf.es.A pf.es.n pf.es.c).ownBlock ≠ some k) fun k hk1 hk => ⟨by omega, by omega, fun e => by have := (hgo0 k e).2; omega⟩)
        refine step_app2 rfl (.tmp 36) (.tmp 39) 23 rfl (w.heap.size + 1) 66 _ 5 56 feC Try.underlying23 zeroExT rfl (by decide) (by decide) feC_length feC_one _ fs rfl how (some ⟨x1.heap.size, 0, none⟩) 1 1 [f] rfl rfl S2.out (by simp; omega) (by omega) ?_
        intro v' x3 hown hgr hob3
        obtain ⟨A3, c3, rfl, hc31, hc32, _⟩ := hown.shape feC_length
        have hpn : ∀ k, (Value.slice pf.es.A pf.es.n pf.es.c).ownBlock = some k → k ≠ pb := fun k hk e => by
          have h1 := (how0.ty k hk).2.2
          rw [e] at h1
          exact (TyAt.ne h1 Hp3.out.ty (by decide)) rfl
        have hp2 := (Hp3.out.only Bx2.out (show pb ≠ b by omega))
        have hp3' := hp2.keep (hgr.block pb hp2.lt fun e => hpn pb e.symm rfl)
        have hr2 := (Hr3.out.only Bx2.out (show w.heap.size ≠ b by omega))
        have hr3' := Lib.hid (hr2.keep (hgr.block w.heap.size hr2.lt fun e => by have := (hgo0 _ e.symm).1; omega))
        have Bx3 := Lib.hid ((HB3.out.trans Bx2.out).grown hgr fun k hk => .inr (by have := (hgo0 k hk).1; omega))
        have Rx3 := Lib.hid (Rx2.out.grown hgr fun k hk => by have := (hgo0 k hk).1; omega)
        have P3 := Lib.hid (PlsT.keep (PlsT.keep hks Bx2.out.size fun k hk hl => Bx2.out.block k hl (by omega)) hgr.size fun k hk hl => hgr.block k hl fun e => hk.2.2 e.symm)
        have hg3 : ∀ g, (Value.slice A3 (fs ++ [f]).length c3).ownBlock = some g → g ≠ pb := fun g hg => by
          rcases hob3 with e | e
          · exact hpn g (e.symm.trans hg)
          · have e1 : some x2.heap.size = some g := e.symm.trans hg
            have := Option.some.inj e1
            have := hp2.lt
            omega
        have K3' := Lib.hid (And.intro (exs_snocO hfl (fun i g y hg hy => hfx i g y hg hy) X3.out hown hgr hg3) (And.intro hc31 (And.intro hc32 hfl)))
        have Hp4 := Lib.hid hp3'
        have C3 : x3.cell? ⟨pb, 2, none⟩ = some (.slice pf.es.A pf.es.n pf.es.c) := hp3'.cell 2
        clear hown hgr hob3 how how0 hfx hp2 hp3' hr2 hg3 hw3 hw4 hen hel hc31 hc32 hfl hz2
        refine hK.out _ _ ?hS23 (fun hHeld => ?_)
        case hS23 => exact fun _ => C3
        replace hHeld := hHeld (by decide)
        clear hK K
        try simp only [Act.put, List.setIfInBounds_toArray, List.set_cons_zero, List.set_cons_succ]
        refine takeG (i := 6) (v := ?v24) rfl (by kernel_rfl) (by kernel_rfl) (by kernel_rfl) (by kernel_rfl) (fun _ _ _ h => h) (Or.inl ⟨by rfl, ?hy24⟩) (by assumption) ?_
        case hy24 => ((intro w' hSw; (try dsimp only at hSw); go_simp) <;> with_reducible rfl)
        try simp only [Act.put, List.setIfInBounds_toArray, List.set_cons_zero, List.set_cons_succ]
        refine wpAnyG_ready (rs := [7]) (by kernel_rfl) (by simp) ?_
        refine readyG rfl (fun K hK => ?_) AllReadyG.nil
        have hlp4 := Hp4.out.lt
        have g2 := Hp4.out.frozen 2
        go_simp
        refine hK.out _ _ ?hS25 (fun hHeld => ?_)
        case hS25 => exact fun h => absurd rfl h
        clear hK K
        try simp only [Act.put, List.setIfInBounds_toArray, List.set_cons_zero, List.set_cons_succ]
        refine wpAnyG_done (by kernel_rfl) ?_ _
        go_wp2
        go_meet
        obtain ⟨hE3, hc31, hc32, hfl'⟩ := K3'.out
        have hl1 : (fs ++ [f]).length = fs.length + 1 := by simp
        rw [hl1] at hc31
        have hs := Only.set (S := fun i => i = pb) (p := ⟨pb, 2, none⟩) (Only.refl x3) (.inl rfl) (.slice A3 (fs.length + 1) c3)
        obtain ⟨_, _, q1, q2, q3, _⟩ := FL.out
        rw [Hcn.out] at q2
        have hel := HT3.out.1.1
        have hm := (PlT.make (S := fun j => w.heap.size < j ∧ j ≠ pb) (k := pf.kind) (t := pf.table) (es := ⟨A3, fs.length + 1, c3⟩) (cs := pf.cs) (ks := pf.ks) (xs := px.exprs ++ [x]) (cols := []) (ps := px.kids) ⟨by simp [hfl'], hc31, hc32⟩ q2 q3 (hE3.mono fun j _ hj => ⟨by omega, hj.2⟩) SlS.nil (PlsT.mono P3.out fun j _ hj => ⟨by omega, hj.2.1⟩) (by simp; omega) (by simp) BD.out.2.2).keep hs.size (fun j hj hl => hs.block j hl hj.2)
        exact ⟨_, _, (Hp4.out.set 2 _), hm, hr3'.out.only hs (show ¬ w.heap.size = pb by omega), Bx3.out.step hs (fun j (hj : j = pb) => .inr (by omega)), (Rx3.out.apart hs fun j (hj : j = pb) => by omega).mono (by have := Hc.out; omega), by have h := HPN.out; have h2 := HXN.out; rw [plN_eq] at h; rw [plN, exsN_append, exsN_one]; unfold apD; omega⟩
    · have n0' : (k == 0) = false := by simpa using n0
      go_wp2
      go_meet
      exact ⟨pf, px, Hp3.out, HX3.out.mono (fun j _ hj => ⟨hj.1, by omega⟩), Hr3.out, HB3.out, HR3.out.mono (by have := Hc.out; omega), by have h := HPN.out; unfold apD; omega⟩
  case rest =>
    obtain ⟨f2, x2, hke, hxe, hre, hbe, hRe, hxn2⟩ := hcut
    have HXM := Lib.hid hxn2
    clear hxn2
    have hle := hke.lt
    have hlr := hre.lt
    have k0 : wc.cell? ⟨pb, 0, none⟩ = some (.int .i64 f2.kind) := hke.cell 0
    have k1 : wc.cell? ⟨pb, 1, none⟩ = some (.int .i64 f2.table) := hke.cell 1
    have k2 : wc.cell? ⟨pb, 2, none⟩ = some (.slice f2.es.A f2.es.n f2.es.c) := hke.cell 2
    have k3 : wc.cell? ⟨pb, 3, none⟩ = some (.slice f2.cs.A f2.cs.n f2.cs.c) := hke.cell 3
    have k4 : wc.cell? ⟨pb, 4, none⟩ = some (.slice f2.ks.A f2.ks.n f2.ks.c) := hke.cell 4
    have c0 := hre.cell 0
    have f0 := hre.frozen 0
    have c1 := hre.cell 1
    have f1 := hre.frozen 1
    have c2 := hre.cell 2
    have f2' := hre.frozen 2
    have c3 := hre.cell 3
    have f3 := hre.frozen 3
    have c4 := hre.cell 4
    have f4 := hre.frozen 4
    have H9 := Lib.hid (And.intro hxe (And.intro hbe hRe))
    clear hke hxe hre hbe hRe
    go_wp2
    refine bodyPost_ret (v := fpV f2) (by simp [results, Try.results28, go_sem, fpV, c0, c1, c2, c3, c4]) rfl ?_
    exact gotPl_of (H9.out.1.mono fun k _ hk => hk.1) H9.out.2.1 H9.out.2.2 hlt _ _ _ _ _ rfl HXM.out
end Go.Proofs.Ytcbfbgngkdiijaa
