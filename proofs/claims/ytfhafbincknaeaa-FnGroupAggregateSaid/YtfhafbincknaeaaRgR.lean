/-
  A range over an iterator that keeps memory of its own and hands on what it has just made.
-/
import Derived.Test.YtfhafbincknaeaaProg
import Derived.Test.YtfhafbincknaeaaPln
import Derived.RangeFuncFrom
namespace Go.Proofs.Ytfhafbincknaeaa
open Go.RowKit Go.Qo
set_option linter.unusedVariables false

/-- What a round leaves as it was: what lies below n₀, and the blocks of E. -/
def KeepE (n₀ : Nat) (E : Nat → Prop) (X Y : World) : Prop := Only (fun k => n₀ ≤ k ∧ ¬ E k) X Y
theorem KeepE.trans {n₀ : Nat} {E : Nat → Prop} {X Y Z : World} (h : KeepE n₀ E X Y) (k : KeepE n₀ E Y Z) : KeepE n₀ E X Z := Only.trans h k
/-- From the blocks E to the blocks E', in a step from X to Y: those of E', and new ones. -/
def Fresh (E E' : Nat → Prop) (X Y : World) : Prop := ∀ i, E' i → (E i ∨ X.heap.size ≤ i) ∧ i < Y.heap.size
/-- What is said of the blocks E of another's: it stands where these alone change. -/
def Abd {β : Type} (J : (Nat → Prop) → β → World → Prop) : Prop := ∀ (E E' : Nat → Prop) (b : β) (X Y : World), J E b X → Only E X Y → Fresh E E' X Y → J E' b Y

/-- The contract of an iterator that hands on elements of which R holds when they are handed on. -/
def SeqR {α : Type} (F : Fence) (n : Nat) (P : Program) (g : Nat) (lb : Array Value) (enc : α → Value) (R : α → World → Prop) (n₀ : Nat) (S Sp : List α → Prop) (N : Nat) (w : World) : Prop :=
  ∀ (l : Nat) (J Jx : (Nat → Prop) → List α → World → Prop) (W : World), Below w.heap.size w W → Abd J → Abd Jx →
    (∀ E pre x X, J E pre X → R x X → pre.length < N → YieldAt F (n - 1) P l #[enc x] X fun e Y =>
      (e = .returned (.bool true) ∧ J E (pre ++ [x]) Y ∧ KeepE n₀ E X Y) ∨ (e = .returned (.bool false) ∧ Jx E (pre ++ [x]) Y)) →
    J (fun _ => False) [] W →
    CallsIn F n P g (#[.func (.yield l) #[] #[]] ++ lb) W fun e Y => (∃ v, e = .returned v) ∧ ((∃ xs E, S xs ∧ J E xs Y) ∨ (∃ pre E, Sp pre ∧ Jx E pre Y))

/-- How the body of a round may be left. -/
def postR {α : Type} (n₀ : Nat) (E : Nat → Prop) (I : (Nat → Prop) → List α → World → Prop) (Ix : Code → (Nat → Prop) → List α → World → Prop) (xs : List α) (X : World) : Exit → Act → World → Prop
  | .normal, _, Y => KeepE n₀ E X Y ∧ I E xs Y
  | .ret, _, Y => KeepE n₀ E X Y ∧ Ix .ret E xs Y
  | .exit id, _, Y => KeepE n₀ E X Y ∧ Ix (.exit id) E xs Y
  | .goto t, _, Y => KeepE n₀ E X Y ∧ Ix (.goto t) E xs Y
  | .panic _, _, _ => False
  | .outgrown, _, _ => False

theorem only_put (X : World) (l : Nat) (o : Obj) : Only (fun k => k = l) X (X.putObj l o) :=
  ⟨rfl, rfl, rfl, by simp [World.putObj], fun k _ hk => World.putObj_heap_other hk⟩
theorem size_put (X : World) (l : Nat) (o : Obj) : (X.putObj l o).heap.size = X.heap.size := by simp [World.putObj]

theorem wpIn_rangeR {F : Fence} {n : Nat} {P : Program} {α : Type} {g : Operand} {ps : Array Tmp} {assign body : Code} {Q : Exit → Act → World → Prop} {a : Act} {w : World}
    (hro : F.round = none) (h1 : 1 ≤ n) {gf : Nat} {lb : Array Value} (hg : a.eval g = .func (.func gf) #[] lb) (hFg : F.fn gf) (eg : ∀ args w, (callFunc gf args).run P w = .ok (.enter gf args) w)
    {enc : α → Value} {R : α → World → Prop} {n₀ : Nat} {S Sp : List α → Prop} {N : Nat} {w0 : World} (hseq : SeqR F (n - 1) P gf lb enc R n₀ S Sp N w0)
    (hn₀ : n₀ ≤ w.heap.size) (hb0 : Below w0.heap.size w0 w) (hps : ps.size = 1)
    (hR : ∀ (x : α) (X : World) (l : Nat) (r r' : Loop), R x X → X.heap[l]? = some (.loop r) → R x (X.putObj l (.loop r')))
    (I : (Nat → Prop) → List α → World → Prop) (Ix : Code → (Nat → Prop) → List α → World → Prop) (hI : Abd I) (hIx : ∀ c, Abd (Ix c)) (h0 : I (fun _ => False) [] w) (a₁ : α → Act)
    (hassign : ∀ (l : Nat) (x : α) (X : World) (K : Act → World → Prop), K (a₁ x) X →
      assign.wpIn (F.inRound l) (n - 1 - 1) P (Exit.then K (fun _ _ _ => False)) { tmps := (ps.zip #[enc x]).foldl (fun t (p, v) => t.setIfInBounds p v) a.tmps, defers := [] } X)
    (hbody : ∀ (l : Nat) (E : Nat → Prop) (pre : List α) (x : α) (X : World), I E pre X → R x X → pre.length < N → body.wpIn (F.inRound l) (n - 1 - 1) P (postR n₀ E I Ix (pre ++ [x]) X) (a₁ x) X)
    (hdone : ∀ (D : Nat) (E : Nat → Prop) (xs : List α) (X : World), w.heap.size ≤ D → S xs → I E xs X → E D → X.heap[D]? = some (.deferred (some [])) → Q .normal { a with defers := { target := .collected D, args := #[] } :: a.defers } X)
    (hstop : ∀ (D : Nat) (c : Code) (E : Nat → Prop) (pre : List α) (X : World), w.heap.size ≤ D → Sp pre → Ix c E pre X → E D → X.heap[D]? = some (.deferred (some [])) → c.wpIn F n P Q { a with defers := { target := .collected D, args := #[] } :: a.defers } X) :
    (Code.rangeFunc g ps assign body).wpIn F n P Q a w := by
  refine wpIn_rangeFunc fun fn hfn => ?_
  rw [hro]
  obtain ⟨D, hD⟩ : ∃ D, w.heap.size = D := ⟨_, rfl⟩
  obtain ⟨rc, hrc⟩ : ∃ rc : LoopState → Option Code → Loop, rc = fun s p => { state := s, pending := p, fn := fn, tmps := a.tmps, params := ps, assign := assign, body := body, defers := D } := ⟨_, rfl⟩
  have hent := run_enterLoop_outer (P := P) (w := w) fn a.tmps ps assign body
  obtain ⟨W, hW⟩ : ∃ W, (w.alloc (.deferred (some []))).alloc (.loop (rc .ready none)) = W := ⟨_, rfl⟩
  have hsz : W.heap.size = D + 2 := by rw [← hW, World.size_alloc, World.size_alloc, hD]
  have recL : W.heap[D + 1]? = some (.loop (rc .ready none)) := by
    have h := World.alloc_heap_new (w.alloc (.deferred (some []))) (.loop (rc .ready none))
    rw [World.size_alloc, hD, hW] at h
    exact h
  have recD : W.heap[D]? = some (.deferred (some [])) := by
    have h := World.alloc_heap_new w (.deferred (some []))
    rw [hD] at h
    have h2 := (Below.refl (D + 1) (w.alloc (.deferred (some [])))).alloc (by rw [World.size_alloc, hD]; exact Nat.le_refl _) (.loop (rc .ready none))
    rw [hW] at h2
    exact (h2.block D (Nat.lt_succ_self _)).trans h
  have hbw : Below w.heap.size w W := by rw [← hW]; exact balloc (balloc (Below.refl _ _) _) _
  -- the law's own two blocks, beside those of the iterator's
  let own (E : Nat → Prop) : Nat → Prop := fun i => E i ∨ i = D ∨ i = D + 1
  let Rec (E : Nat → Prop) (s : LoopState) (p : Option Code) (X : World) : Prop := X.heap[D + 1]? = some (.loop (rc s p)) ∧ X.heap[D]? = some (.deferred (some [])) ∧ ¬ E D ∧ ¬ E (D + 1)
  have stepRec : ∀ {E E' : Nat → Prop} {s : LoopState} {p : Option Code} {X Y : World}, Rec E s p X → Only E X Y → Fresh E E' X Y → Rec E' s p Y ∧ Fresh (own E) (own E') X Y := by
    rintro E E' s p X Y ⟨r1, r2, r3, r4⟩ ho hf
    have l1 := (Array.getElem?_eq_some_iff.1 r1).1
    have hs := ho.size
    refine ⟨⟨(ho.block _ l1 r4).trans r1, (ho.block _ (by omega) r3).trans r2, fun h => ?_, fun h => ?_⟩, fun i hi => ?_⟩
    · rcases (hf _ h).1 with h | h
      · exact r3 h
      · omega
    · rcases (hf _ h).1 with h | h
      · exact r4 h
      · omega
    · rcases hi with hi | rfl | rfl
      · exact ⟨(hf i hi).1.imp .inl id, (hf i hi).2⟩
      · exact ⟨.inl (.inr (.inl rfl)), by omega⟩
      · exact ⟨.inl (.inr (.inr rfl)), by omega⟩
  have toOwn : ∀ {E : Nat → Prop} {X Y : World}, Only E X Y → Only (own E) X Y := fun h => h.mono fun _ _ => .inl
  have putOwn : ∀ (E : Nat → Prop) (X : World) (o : Obj), Only (own E) X (X.putObj (D + 1) o) := fun E X o => (only_put X (D + 1) o).mono fun _ _ h => .inr (.inr h)
  have frPut : ∀ {E : Nat → Prop} {s : LoopState} {p : Option Code} {X : World} (o : Obj), Rec E s p X → (∀ i, E i → i < X.heap.size) → Fresh (own E) (own E) X (X.putObj (D + 1) o) := by
    rintro E s p X o ⟨r1, _, _, _⟩ hE i hi
    have l1 := (Array.getElem?_eq_some_iff.1 r1).1
    refine ⟨.inl hi, ?_⟩
    rw [size_put]
    rcases hi with hi | rfl | rfl
    · exact hE i hi
    · omega
    · omega
  refine ⟨D + 1, [{ target := .collected D, args := #[] }], W, { target := .fn (.func gf) lb, args := #[.func (.yield (D + 1)) #[] #[]] }, W, gf, #[.func (.yield (D + 1)) #[] #[]] ++ lb, W, ?_, ?_, ?_, ?_, fun _ => h1, ?_⟩
  · rw [hent, hD, hrc] at *
    rw [← hW]
  · simp only [resolve, hg]
    simp [go_sem]
  · intro f' hf'
    simp [Target.leads] at hf'
    subst hf'
    exact hFg
  · simp [invoke, go_sem, eg]
  refine (hseq (D + 1) (fun E pre X => I (own E) pre X ∧ Rec E .ready none X ∧ ∀ i, E i → i < X.heap.size)
    (fun E pre X => ∃ c, Ix c (own E) pre X ∧ Rec E .done (some c) X ∧ ∀ i, E i → i < X.heap.size) W (hb0.trans (hbw.mono hb0.size)) ?_ ?_ ?_ ?_).mono ?_
  · rintro E E' pre X Y ⟨hi, hr, hE⟩ ho hf
    obtain ⟨k1, k2⟩ := stepRec hr ho hf
    exact ⟨hI _ _ _ _ _ hi (toOwn ho) k2, k1, fun i hi => (hf i hi).2⟩
  · rintro E E' pre X Y ⟨c, hi, hr, hE⟩ ho hf
    obtain ⟨k1, k2⟩ := stepRec hr ho hf
    exact ⟨c, hIx c _ _ _ _ _ hi (toOwn ho) k2, k1, fun i hi => (hf i hi).2⟩
  · rintro E pre x X ⟨hi, hr, hE⟩ hrx hlen
    have hy := run_yield (P := P) (args := #[enc x]) hr.1 (by rw [hrc]; exact hps.symm)
    rw [hrc] at hy
    have l1 := (Array.getElem?_eq_some_iff.1 hr.1).1
    have hbeg := run_beginRound (P := P) hr.1 (by rw [hrc])
    obtain ⟨X1, hX1⟩ : ∃ X1, X.putObj (D + 1) (.loop { rc .ready none with state := .busy }) = X1 := ⟨_, rfl⟩
    have b1 : X1.heap[D + 1]? = some (.loop { rc .ready none with state := .busy }) := by rw [← hX1]; exact World.putObj_heap_same l1
    have b2 : X1.heap[D]? = some (.deferred (some [])) := by rw [← hX1]; exact (World.putObj_heap_other (by omega)).trans hr.2.1
    have bo : Only (fun k => k = D + 1) X X1 := by rw [← hX1]; exact only_put _ _ _
    have bs : X1.heap.size = X.heap.size := by rw [← hX1]; exact size_put _ _ _
    have bi : I (own E) pre X1 := by rw [← hX1]; exact hI _ _ _ _ _ hi (putOwn E X _) (frPut _ hr hE)
    have br : R x X1 := by rw [← hX1]; exact hR x X (D + 1) _ _ hrx hr.1
    rw [hX1] at hbeg
    -- a round's end
    have fin : ∀ (j : Option Code) (Y : World), KeepE n₀ (own E) X1 Y → ∃ Z, (Instr.endRound (D + 1) j).run P Y = .ok (.bool j.isNone) Z ∧ Only (own E) Y Z ∧ Fresh (own E) (own E) Y Z ∧ Rec E (if j.isNone then .ready else .done) j Z ∧ (∀ i, E i → i < Z.heap.size) ∧ KeepE n₀ E X Z := by
      intro j Y hk
      have y1 : Y.heap[D + 1]? = some (.loop { rc .ready none with state := .busy }) := (hk.block _ (by omega) (fun h => h.2 (.inr (.inr rfl)))).trans b1
      have y2 : Y.heap[D]? = some (.deferred (some [])) := (hk.block _ (by omega) (fun h => h.2 (.inr (.inl rfl)))).trans b2
      have y3 := hk.size
      have hend := run_endRound (P := P) j y1
      refine ⟨_, hend, putOwn E Y _, fun i hi => ⟨.inl hi, ?_⟩, ⟨?_, (World.putObj_heap_other (by omega)).trans y2, hr.2.2.1, hr.2.2.2⟩, fun i hi => ?_, ?_⟩
      · rw [size_put]
        rcases hi with hi | rfl | rfl
        · have := hE i hi; omega
        · omega
        · omega
      · rw [World.putObj_heap_same (by omega), hrc]
      · rw [size_put]
        have := hE i hi
        omega
      · refine Only.trans (Only.trans (bo.mono fun k _ h => ?_) (Only.mono hk fun k _ h => ⟨h.1, fun h2 => h.2 (.inl h2)⟩)) ((only_put Y (D + 1) _).mono fun k _ h => ?_)
        · subst h; exact ⟨by omega, hr.2.2.2⟩
        · subst h; exact ⟨by omega, hr.2.2.2⟩
    refine ⟨fn, _, assign, body, hy, roundIn_of_wpIn hfn (hassign _ x X _ ⟨_, hbeg, ?_⟩)⟩
    refine wpIn_mono (hbody _ (own E) pre x X1 bi br hlen) ?_
    rintro e a3 Y hp
    cases e with
    | normal =>
      obtain ⟨Z, e1, e2, e3, e4, e5, e6⟩ := fin none Y hp.1
      exact ⟨_, _, e1, .inl ⟨rfl, ⟨hI _ _ _ _ _ hp.2 e2 e3, e4, e5⟩, e6⟩⟩
    | ret =>
      obtain ⟨Z, e1, e2, e3, e4, e5, e6⟩ := fin (some .ret) Y hp.1
      exact ⟨_, _, e1, .inr ⟨rfl, .ret, hIx _ _ _ _ _ _ hp.2 e2 e3, e4, e5⟩⟩
    | exit id =>
      obtain ⟨Z, e1, e2, e3, e4, e5, e6⟩ := fin (some (.exit id)) Y hp.1
      exact ⟨_, _, e1, .inr ⟨rfl, .exit id, hIx _ _ _ _ _ _ hp.2 e2 e3, e4, e5⟩⟩
    | goto t =>
      obtain ⟨Z, e1, e2, e3, e4, e5, e6⟩ := fin (some (.goto t)) Y hp.1
      exact ⟨_, _, e1, .inr ⟨rfl, .goto t, hIx _ _ _ _ _ _ hp.2 e2 e3, e4, e5⟩⟩
    | panic ch => exact hp.elim
    | outgrown => exact hp.elim
  · refine ⟨hI _ _ _ _ _ h0 (only_below hbw) fun i hi => ?_, ⟨recL, recD, fun h => h, fun h => h⟩, fun _ h => h.elim⟩
    rcases hi with hi | rfl | rfl
    · exact hi.elim
    · exact ⟨.inr (by omega), by omega⟩
    · exact ⟨.inr (by omega), by omega⟩
  · rintro e Y ⟨⟨v, rfl⟩, (⟨xs, E, hS, hi, hr, hE⟩ | ⟨pre, E, hSp, c, hi, hr, hE⟩)⟩
    · have hend := run_endLoop (P := P) hr.1 (by rw [hrc]; simp)
      have ep : (rc .ready none).pending = none := by rw [hrc]
      rw [ep] at hend
      refine ⟨none, _, hend, ?_⟩
      refine hdone D (own E) xs _ (by omega) hS (hI _ _ _ _ _ hi (putOwn E Y _) (frPut _ hr hE)) (.inr (.inl rfl)) ((World.putObj_heap_other (by omega)).trans hr.2.1)
    · have hend := run_endLoop (P := P) hr.1 (by rw [hrc]; simp)
      have ep : (rc .done (some c)).pending = some c := by rw [hrc]
      rw [ep] at hend
      refine ⟨some c, _, hend, ?_⟩
      refine hstop D c (own E) pre _ (by omega) hSp (hIx c _ _ _ _ _ hi (putOwn E Y _) (frPut _ hr hE)) (.inr (.inl rfl)) ((World.putObj_heap_other (by omega)).trans hr.2.1)
end Go.Proofs.Ytfhafbincknaeaa
