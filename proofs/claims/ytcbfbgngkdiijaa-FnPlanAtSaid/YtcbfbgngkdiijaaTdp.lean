/-
  The todo list of a copier of plans. No program in sight.
-/
import Derived.Test.YtcbfbgngkdiijaaTdo
namespace Go.Qo
open Go.RowKit
set_option linter.unusedVariables false
set_option linter.unusedSimpArgs false

theorem exsT_map {S : Nat → Prop} {z z' : World} (hf : ∀ A (fs : List FE), SlS S 5 feC z A fs → SlS S 5 feC z' A fs) {A : Option Addr} {es : List Ex} (h : ExsT S z A es) : ExsT S z' A es := by
  obtain ⟨fs, h1, h2, h3⟩ := h
  exact ⟨fs, h1, hf _ _ h2, fun i g x hg hx => (h3 i g x hg hx).imp fun _ h => ExS.map hf _ _ _ h⟩
/-- A slice of a plan is turned: number d + 2. -/
theorem Tdi.turnP {S0 : Nat → Prop} {te tp : TypeId} {zs : List Value} {x : Pl} {w z : World} {v : Value} {ps : List (Nat × Nat)} {xs : List Pl} {p o d : Nat} {cs : List Value} {f f' : FP} {y : Pl} {u : Value} (hd : d ≤ 2) (hne : te ≠ tp) (h : Tdi S0 nodP te tp zs x w z v ps xs)
    (hp : w.heap.size + 1 ≤ p) (hr : Row z p te cs) (hf : FpAt z p o f) (hy : PlT (Bsd S0 w.heap.size v) z f y) (hs : ∀ j, j ≠ d + 2 → (fpC f')[j]? = (fpC f)[j]?) (hu : (fpC f')[d + 2]? = some u) (K : ∀ q, PlT (Bsd S0 w.heap.size v) z f q → PlT (Bsd S0 w.heap.size v) z f' q) :
    Tdi S0 nodP te tp zs x w (z.setCell ⟨p, o + (d + 2), none⟩ u) v ps xs ∧ FpAt (z.setCell ⟨p, o + (d + 2), none⟩ u) p o f' ∧ PlT (Bsd S0 w.heap.size v) (z.setCell ⟨p, o + (d + 2), none⟩ u) f' y := by
  have hbc := butCell_set (z := z) (p := p) (q := o + (d + 2)) (u := u)
  have hcell : ∀ j u, (fpC f)[j]? = some u → z.cell? ⟨p, o + j, none⟩ = some u := by
    intro j u hu
    obtain ⟨f0, f1, f2, f3, f4⟩ := hf
    have h4 : j = 0 ∨ j = 1 ∨ j = 2 ∨ j = 3 ∨ j = 4 := by have := (List.getElem?_eq_some_iff.1 hu).1; rw [fpC_length] at this; omega
    rcases h4 with rfl | rfl | rfl | rfl | rfl <;> simp [fpC] at hu <;> subst hu
    · exact f0
    · exact f1
    · exact f2
    · exact f3
    · exact f4
  have hd3 : d = 0 ∨ d = 1 ∨ d = 2 := by omega
  obtain ⟨A0, n0, c0, hq⟩ : ∃ A0 n0 c0, z.cell? ⟨p, o + (d + 2), none⟩ = some (.slice A0 n0 c0) := by
    obtain ⟨f0, f1, f2, f3, f4⟩ := hf
    rcases hd3 with rfl | rfl | rfl
    · exact ⟨_, _, _, f2⟩
    · exact ⟨_, _, _, f3⟩
    · exact ⟨_, _, _, f4⟩
  have hb : ∀ t, z.cell? ⟨p, o + (d + 2) - 2, none⟩ ≠ some (.bool t) := by
    intro t
    rw [show o + (d + 2) - 2 = o + d by omega]
    obtain ⟨f0, f1, f2, f3, f4⟩ := hf
    rcases hd3 with rfl | rfl | rfl
    · rw [Nat.add_zero, f0]; intro h; cases h
    · rw [f1]; intro h; cases h
    · rw [f2]; intro h; cases h
  have hn : (z.setCell ⟨p, o + (d + 2), none⟩ u).cell? ⟨p, o + (d + 2), none⟩ = (fpC f')[d + 2]? := by rw [hu]; exact World.cell?_setCell_same _ _ _ hq
  have hT : ∀ S : Nat → Prop, Turns S fpC z (z.setCell ⟨p, o + (d + 2), none⟩ u) f f' := fun S => turnsP hbc hd hf hs hn
  have HE : ∀ A es, ExsT (Bsd S0 w.heap.size v) z A es → ExsT (Bsd S0 w.heap.size v) (z.setCell ⟨p, o + (d + 2), none⟩ u) A es := fun A es h => exsT_map (fun A fs k => slE_but hbc (by omega) hq hb k) h
  have HI : ∀ A cs, SlS (Bsd S0 w.heap.size v) 1 intC z A cs → SlS (Bsd S0 w.heap.size v) 1 intC (z.setCell ⟨p, o + (d + 2), none⟩ u) A cs := fun A cs h => slI_but hbc hq h
  refine ⟨h.turn hne hp hr.ty (Only.set (S := fun k => k = p) (p := ⟨p, o + (d + 2), none⟩) (Only.refl z) (.inl rfl) _) (fun b cs hb => rows_set p _ _ b cs hb) fun b o' u hb hu => hdP_turn (hT _) HE HI (hT _) K hb hu, ?_, (plT_turn HE HI (hT _) K y f hy).2 rfl⟩
  have hk : ∀ j v, (fpC f')[j]? = some v → (z.setCell ⟨p, o + (d + 2), none⟩ u).cell? ⟨p, o + j, none⟩ = some v := by
    intro j v hv
    by_cases hj : j = d + 2
    · subst hj
      rw [hn]
      exact hv
    · rw [hs j hj] at hv
      exact (hbc.2 p _ hr.lt (by omega)).trans (hcell j v hv)
  exact ⟨hk 0 _ rfl, hk 1 _ rfl, hk 2 _ rfl, hk 3 _ rfl, hk 4 _ rfl⟩
/-- An expression among a plan's own expressions is turned to one that reads alike. -/
theorem Tdi.turnX {S0 : Nat → Prop} {te tp tx : TypeId} {zs : List Value} {x : Pl} {w z z' : World} {v : Value} {ps : List (Nat × Nat)} {xs : List Pl} {p o eb eo : Nat} {cs : List Value} {f : FP} {y : Pl} {g g' : FE} (hne : tx ≠ tp) (hnx : tx ≠ te) (h : Tdi S0 nodP te tp zs x w z v ps xs)
    (hp : w.heap.size + 1 ≤ eb) (hty : TyAt z eb tx) (hr : Row z p te cs) (hf : FpAt z p o f) (hy : PlT (Bsd S0 w.heap.size v) z f y) (hg : FeAt z eb eo g) (ho : Only (fun k => k = eb) z z') (hbc : ButCell z z' eb (eo + 4)) (hn : z'.cell? ⟨eb, eo + 4, none⟩ = some (.slice g'.sv.A g'.sv.n g'.sv.c))
    (hg' : g' = ⟨g.kind, g.col, g.val, g'.sv⟩) (K : ∀ q, ExT (Bsd S0 w.heap.size v) z g q → ExT (Bsd S0 w.heap.size v) z g' q) :
    Tdi S0 nodP te tp zs x w z' v ps xs ∧ FpAt z' p o f ∧ PlT (Bsd S0 w.heap.size v) z' f y ∧ Row z' p te cs := by
  have hT : ∀ S : Nat → Prop, Turns S feC z z' g g' := fun S => by rw [hg']; exact turnsE hbc hg hn
  have hq := hg.2.2.2.2
  have hb2 : z.cell? ⟨eb, eo + 4 - 2, none⟩ = some (.bool g.val.1) := hg.2.2.1
  have HE : ∀ A es, ExsT (Bsd S0 w.heap.size v) z A es → ExsT (Bsd S0 w.heap.size v) z' A es := fun A es h => exsT_turn (hT _) K h
  have HI : ∀ A cs, SlS (Bsd S0 w.heap.size v) 1 intC z A cs → SlS (Bsd S0 w.heap.size v) 1 intC z' A cs := fun A cs h => slI_but hbc hq h
  have HP : ∀ S : Nat → Prop, Turns S fpC z z' f f := fun S A fs k => ⟨fs, rfl, slP_but hbc (by omega) hq hb2 k, fun i a b ha hb => by rw [ha] at hb; exact .inl (Option.some.inj hb).symm⟩
  have hpe : p ≠ eb := fun e => (TyAt.ne hty hr.ty hnx) e.symm
  refine ⟨h.turn hne hp hty ho (fun b cs hb => ⟨cs, hb.only ho fun e => (TyAt.ne hty hb.ty hnx) (e.symm)⟩) fun b o' u hb hu => hdP_turn (HP _) HE HI (HP _) (fun _ h => h) hb hu, hf.keepB (ho.block p hr.lt hpe), (plT_turn HE HI (HP _) (fun _ h => h) y f hy).1, hr.only ho hpe⟩
/-- A kid's address has been appended to the list. -/
theorem Tdi.kidP {S0 : Nat → Prop} {te tp : TypeId} {zs : List Value} {x : Pl} {w U w' : World} {v v' : Value} {ps : List (Nat × Nat)} {ys : List Pl} {pb po kb nk c' j : Nat} {y : Pl} {f : FP} {cs cs3 : List Value} (hne : te ≠ tp)
    (h : Tdi S0 nodP te tp zs x w U v ps (ys ++ y.kids.take j)) (hf : FpAt U pb po f) (hfs : f.ks = ⟨some ⟨kb, 0, none⟩, nk, c'⟩) (hy : PlT (Bsd S0 w.heap.size v) U f y) (hr : Row U pb te cs) (hkl : w.heap.size + 1 ≤ kb) (hr3 : Row U kb te cs3) (hj : j < y.kids.length)
    (how : Ow (w.heap.size + 2) tp 1 ptC w' v' (ps ++ [(kb, j * 5)])) (hgr : U.grownBy w' v.ownBlock) (hob : v'.ownBlock = v.ownBlock ∨ v'.ownBlock = some U.heap.size) :
    Tdi S0 nodP te tp zs x w w' v' (ps ++ [(kb, j * 5)]) (ys ++ y.kids.take (j + 1)) ∧ FpAt w' pb po f ∧ PlT (Bsd S0 w.heap.size v') w' f y ∧ (∃ cs, Row w' pb te cs) ∧ ∃ cs, Row w' kb te cs := by
  have htp := fun c hc => (h.own.ty c hc).2.2
  obtain ⟨_, _, _, _, _, _, _, fs, h7, h8, h9⟩ := hy.flat
  rw [hfs] at h8
  have hjf : j < fs.length := by omega
  have hq : nodP.hd (Bsd S0 w.heap.size v) U kb (j * 5) y.kids[j] := by
    obtain ⟨b, o, hA, _, hB, hc⟩ := h8 (by omega)
    cases hA
    have hx := List.getElem?_eq_getElem hjf
    exact ⟨fs[j], ⟨by simpa using hc j _ hx 0 _ rfl, by simpa using hc j _ hx 1 _ rfl, by simpa using hc j _ hx 2 _ rfl, by simpa using hc j _ hx 3 _ rfl, by simpa using hc j _ hx 4 _ rfl⟩, h9 j _ _ hx (List.getElem?_eq_getElem hj)⟩
  obtain ⟨k1, g, k2, k3⟩ := hd_grown (N := nodP) (b := pb) (o := po) (y := y) ⟨f, hf, hy⟩ hr htp hne hgr hob
  have e := fpAt_fun (hf.keepB (hgr.block pb hr.lt fun e => (TyAt.ne hr.ty (htp pb e.symm) hne) rfl)) k2
  subst e
  refine ⟨?_, k2, k3, ⟨_, k1⟩, ⟨_, (hd_grown hq hr3 htp hne hgr hob).1⟩⟩
  rw [List.take_succ_eq_append_getElem hj, ← List.append_assoc]
  exact h.grown hne hq hr3 hkl how hgr hob
theorem plT_es {S : Nat → Prop} {z : World} {f : FP} {q : Pl} {s : SV} (h1 : s.n = f.es.n) (h2 : s.n ≤ s.c) (h3 : s.c ≤ maxLen) (hs : ∀ fs : List FE, fs.length = f.es.n → SlS S 5 feC z f.es.A fs → SlS S 5 feC z s.A fs) (h : PlT S z f q) : PlT S z ⟨f.kind, f.table, s, f.cs, f.ks⟩ q := by
  obtain ⟨k1, k2, ⟨k3, _, _⟩, k4, k5, ⟨fs, e1, e2, e3⟩, k7, k8⟩ := h.flat
  have hb := h.bnd.all.1
  obtain ⟨k', t', xs, cols, ps⟩ := q
  simp only [Pl.kind, Pl.table, Pl.exprs, Pl.cols, Pl.kids] at *
  rw [k1, k2]
  exact PlT.make ⟨h1.trans k3, h2, h3⟩ k4 k5 ⟨fs, e1, hs fs (by omega) e2, e3⟩ k7 k8 hb.1 hb.2.1 hb.2.2
theorem plT_cs {S : Nat → Prop} {z : World} {f : FP} {q : Pl} {s : SV} (h1 : s.n = f.cs.n) (h2 : s.n ≤ s.c) (h3 : s.c ≤ maxLen) (hs : ∀ fs : List Int, fs.length = f.cs.n → SlS S 1 intC z f.cs.A fs → SlS S 1 intC z s.A fs) (h : PlT S z f q) : PlT S z ⟨f.kind, f.table, f.es, s, f.ks⟩ q := by
  obtain ⟨k1, k2, k3, ⟨k4, _, _⟩, k5, k6, k7, k8⟩ := h.flat
  have hb := h.bnd.all.1
  obtain ⟨k', t', xs, cols, ps⟩ := q
  simp only [Pl.kind, Pl.table, Pl.exprs, Pl.cols, Pl.kids] at *
  rw [k1, k2]
  exact PlT.make k3 ⟨h1.trans k4, h2, h3⟩ k5 k6 (hs _ (by omega) k7) k8 hb.1 hb.2.1 hb.2.2
theorem plT_ks {S : Nat → Prop} {z : World} {f : FP} {q : Pl} {s : SV} (h1 : s.n = f.ks.n) (h2 : s.n ≤ s.c) (h3 : s.c ≤ maxLen) (hs : ∀ fs : List FP, fs.length = f.ks.n → SlS S 5 fpC z f.ks.A fs → SlS S 5 fpC z s.A fs) (h : PlT S z f q) : PlT S z ⟨f.kind, f.table, f.es, f.cs, s⟩ q := by
  obtain ⟨k1, k2, k3, k4, ⟨k5, _, _⟩, k6, k7, ⟨fs, e1, e2, e3⟩⟩ := h.flat
  have hb := h.bnd.all.1
  obtain ⟨k', t', xs, cols, ps⟩ := q
  simp only [Pl.kind, Pl.table, Pl.exprs, Pl.cols, Pl.kids] at *
  rw [k1, k2]
  exact PlT.make k3 k4 ⟨h1.trans k5, h2, h3⟩ k6 k7 ⟨fs, e1, hs fs (by omega) e2, e3⟩ hb.1 hb.2.1 hb.2.2
theorem intC_inj (x y : Int) (h : intC x = intC y) : x = y := by simpa [intC] using h
theorem setCell_id {z : World} {a : Addr} {v : Value} (h : z.cell? a = some v) (b : Addr) : (z.setCell a v).cell? b = z.cell? b := by
  by_cases e : a = b
  · subst e
    rw [World.cell?_setCell_same _ _ _ h, h]
  · exact World.cell?_setCell_other _ _ _ _ e
/-- An expression's cells are stored anew, the kids' slice alone another. -/
theorem set5_turn {z : World} {eb eo : Nat} {g : FE} {A : Option Addr} {n c : Nat} {t : TypeId} {cs : List Value} (hg : FeAt z eb eo g) (hr : Row z eb t cs) {Z : World}
    (hZ : (((((z.setCell ⟨eb, eo, none⟩ (.int .i64 g.kind)).setCell ⟨eb, eo + 1, none⟩ (.int .i64 g.col)).setCell ⟨eb, eo + 2, none⟩ (.bool g.val.1)).setCell ⟨eb, eo + 3, none⟩ (.int .i64 g.val.2)).setCell ⟨eb, eo + 4, none⟩ (.slice A n c)) = Z) :
    ButCell z Z eb (eo + 4) ∧ Z.cell? ⟨eb, eo + 4, none⟩ = some (.slice A n c) ∧ Only (fun k => k = eb) z Z ∧ ∃ cs', Row Z eb t cs' := by
  obtain ⟨g0, g1, g2, g3, g4⟩ := hg
  obtain ⟨z1, h1⟩ : ∃ u, z.setCell ⟨eb, eo, none⟩ (.int .i64 g.kind) = u := ⟨_, rfl⟩
  have e1 : ∀ b, z1.cell? b = z.cell? b := fun b => by rw [← h1]; exact setCell_id g0 b
  rw [h1] at hZ
  obtain ⟨z2, h2⟩ : ∃ u, z1.setCell ⟨eb, eo + 1, none⟩ (.int .i64 g.col) = u := ⟨_, rfl⟩
  have e2 : ∀ b, z2.cell? b = z.cell? b := fun b => by rw [← h2, setCell_id ((e1 _).trans g1) b]; exact e1 b
  rw [h2] at hZ
  obtain ⟨z3, h3⟩ : ∃ u, z2.setCell ⟨eb, eo + 2, none⟩ (.bool g.val.1) = u := ⟨_, rfl⟩
  have e3 : ∀ b, z3.cell? b = z.cell? b := fun b => by rw [← h3, setCell_id ((e2 _).trans g2) b]; exact e2 b
  rw [h3] at hZ
  obtain ⟨z4, h4⟩ : ∃ u, z3.setCell ⟨eb, eo + 3, none⟩ (.int .i64 g.val.2) = u := ⟨_, rfl⟩
  have e4 : ∀ b, z4.cell? b = z.cell? b := fun b => by rw [← h4, setCell_id ((e3 _).trans g3) b]; exact e3 b
  rw [h4] at hZ
  have hs : Z.heap.size = z.heap.size := by rw [← hZ, ← h4, ← h3, ← h2, ← h1]; simp [World.setCell]
  refine ⟨⟨by omega, fun b o hb hn => ?_⟩, ?_, ?_, ?_⟩
  · rw [← hZ, World.cell?_setCell_other _ _ _ _ (fun e => hn (by cases e; exact ⟨rfl, rfl⟩))]
    exact e4 _
  · rw [← hZ]
    exact World.cell?_setCell_same _ _ _ ((e4 _).trans g4)
  · rw [← hZ, ← h4, ← h3, ← h2, ← h1]
    exact (((((Only.refl (S := fun k => k = eb) z).set (p := ⟨eb, eo, none⟩) (.inl rfl) _).set (p := ⟨eb, eo + 1, none⟩) (.inl rfl) _).set (p := ⟨eb, eo + 2, none⟩) (.inl rfl) _).set (p := ⟨eb, eo + 3, none⟩) (.inl rfl) _).set (p := ⟨eb, eo + 4, none⟩) (.inl rfl) _
  · rw [← hZ, ← h4, ← h3, ← h2, ← h1]
    exact ⟨_, ((((hr.set eo _).set (eo + 1) _).set (eo + 2) _).set (eo + 3) _).set (eo + 4) _⟩
end Go.Qo
