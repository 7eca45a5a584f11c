import Derived.Test.YtcbfbgngkdiijaaGreatProg
import Derived.Test.YtcbfbgngkdiijaaGreatZcVal
import Derived.Shelf.SlSortCmp.Whole1
namespace Go.Proofs.YtcbfbgngkdiijaaGreat
open Go.RowKit Go.Qo
set_option linter.unusedVariables false
set_option linter.unusedSimpArgs false

abbrev Row1 := Go.Qo.Row1
def BelD (w w' : World) : Prop := Below w.heap.size w w' ∧ w.drawn ≤ w'.drawn
theorem BelD.refl (w : World) : BelD w w := ⟨Below.refl _ _, Nat.le_refl _⟩
theorem bdch {w a b : World} (h : BelD w a) (k : BelD a b) : BelD w b := ⟨bch h.1 k.1, Nat.le_trans h.2 k.2⟩
theorem bdalloc {a w : World} (h : BelD a w) (o : Obj) : BelD a (w.alloc o) := ⟨balloc h.1 o, h.2⟩
theorem BelD.grow {w w' : World} (h : BelD w w') : ∃ q os, w' = Go.Sort.grow (w.drewN q) os := by
  obtain ⟨⟨h1, h2, h3, h4, h5⟩, h6⟩ := h
  refine ⟨w'.drawn - w.drawn, w'.heap.extract w.heap.size w'.heap.size, ?_⟩
  obtain ⟨heap', tape', drawn', os', output'⟩ := w'
  obtain ⟨heap, tape, drawn, os, output⟩ := w
  simp only at h1 h2 h3 h4 h5 h6
  subst h1; subst h2; subst h3
  simp only [Go.Sort.grow, World.drewN, World.mk.injEq, true_and, and_true]
  refine ⟨?_, by omega⟩
  apply Array.ext_getElem?
  intro i
  rw [Array.getElem?_append]
  split
  · rename_i hi; exact h5 i hi
  · rename_i hi
    rw [Array.getElem?_extract]
    split
    · rw [show heap.size + (i - heap.size) = i by omega]
    · rw [Array.getElem?_eq_none (by omega)]

set_option maxHeartbeats 400000 in
theorem implCompareD_ok (a b : Val) (w : World) :
    Calls Tryz.prog 125 #[.agg #[.bool a.1, .int .i64 a.2], .agg #[.bool b.1, .int .i64 b.2]] w fun e w' => e = .returned (.int .i64 (pCmp a b)) ∧ BelD w w' := by
  obtain ⟨na, a⟩ := a
  obtain ⟨nb, b⟩ := b
  have c1 := Lib.hid (fun w => cmpCompare_ok a b w)
  unfold pCmp
  cases na <;> cases nb
  · go_enter Tryz.func125, Tryz.ntmps125
    go_wp2_with fail
    refine (c1.out _).mono ?_; rintro e w' ⟨rfl, rfl⟩
    go_wp2
    go_ret
    exact ⟨ret_int (by simp), bdalloc (bdalloc (BelD.refl _) _) _⟩
  all_goals
    go_enter Tryz.func125, Tryz.ntmps125
    go_wp2
    go_ret
    exact ⟨ret_int (by simp), bdalloc (bdalloc (BelD.refl _) _) _⟩

set_option maxHeartbeats 400000 in
theorem compareFuncD_ok (A A' : Option Addr) (c c' : Nat) (xs ys : List Val) (w : World) (hn : xs.length ≤ maxLen) (hn' : ys.length ≤ maxLen) (h : Sl 2 valC w w.heap.size A xs) (h' : Sl 2 valC w w.heap.size A' ys) :
    Calls Tryz.prog 124 #[.slice A xs.length c, .slice A' ys.length c', .func (.func 125) #[] #[]] w fun e w' => e = .returned (.int .i64 (rpCmp xs ys)) ∧ BelD w w' := by
  unfold maxLen at hn hn'
  go_enter Tryz.func124, Tryz.ntmps124
  go_wp2
  go_loopg [13] (xs.length) (fun g i wr => ∃ k : Nat, k ≤ xs.length ∧ k ≤ ys.length ∧ g = xs.length - k ∧ i = .int .i64 k ∧ BelD w wr ∧ ∀ i x y, i < k → xs[i]? = some x → ys[i]? = some y → pCmp x y = 0)
  case atStart => exact ⟨0, by omega, by omega, by omega, rfl, BelD.refl _, agree_zero⟩
  case round =>
    obtain ⟨k, hk, hk', rfl, rfl, hb, hp⟩ := hrel
    have Hp := Lib.hid hp
    clear hp
    by_cases hlt : k < xs.length
    · obtain ⟨b, off, rfl, hB, c1, c2⟩ := Val.at_ (h.below hb.1) hlt
      have hx := Lib.hid (List.getElem?_eq_getElem hlt)
      generalize xs[k] = x at *
      have hsz := hb.1.size
      by_cases hlt' : k < ys.length
      · obtain ⟨b', off', rfl, hB', c1', c2'⟩ := Val.at_ (h'.below hb.1) hlt'
        have hy := Lib.hid (List.getElem?_eq_getElem hlt')
        generalize ys[k] = y at *
        have c3 : ∀ o, (wr.alloc o).cell? ⟨b', off' + k * 2, none⟩ = some (.bool y.1) := fun o => (World.cell?_alloc_lt _ _ _ (by simp; omega)).trans c1'
        have c4 : ∀ o, (wr.alloc o).cell? ⟨b', off' + k * 2 + 1, none⟩ = some (.int .i64 y.2) := fun o => (World.cell?_alloc_lt _ _ _ (by simp; omega)).trans c2'
        obtain ⟨r, hr⟩ : ∃ r, pCmp x y = r := ⟨_, rfl⟩
        have key := fun w => implCompareD_ok x y w
        rw [hr] at key
        have Hk := Lib.hid key
        have Hr := Lib.hid hr
        clear key hr
        by_cases h0 : r = 0
        · subst h0
          go_wp2_with (go_at_call 125; refine (Hk.out _).mono ?_; rintro e w1 ⟨rfl, hb1⟩)
          go_roundg (xs.length - (k + 1))
          case measure => omega
          case rel => exact ⟨k + 1, by omega, by omega, rfl, by go_num, bdch (bdalloc (bdalloc hb _) _) hb1, agree_succ Hp.out hx.out hy.out Hr.out⟩
        · have hne : (r != 0) = true := by simp [h0]
          have H0 := Lib.hid h0
          clear h0
          go_wp2_with (go_at_call 125; refine (Hk.out _).mono ?_; rintro e w1 ⟨rfl, hb1⟩)
          go_ret
          exact ⟨ret_int (by rw [rpCmp_at Hp.out hx.out hy.out (by rw [Hr.out]; exact H0.out), Hr.out]), bdch (bdalloc (bdalloc hb _) _) (by assumption)⟩
      · have hy : k = ys.length := by omega
        subst hy
        have e : rpCmp xs ys = 1 := by
          rw [rpCmp_drop xs ys ys.length (by omega) (by omega) Hp.out, List.drop_length, List.drop_eq_getElem_cons hlt]; rfl
        have He := Lib.hid e
        clear e
        go_wp2
        go_ret
        exact ⟨ret_int He.out.symm, bdalloc hb _⟩
    · have hx : k = xs.length := by omega
      subst hx
      have e : rpCmp xs ys = if xs.length < ys.length then -1 else 0 := by
        rw [rpCmp_drop xs ys xs.length (by omega) (by omega) Hp.out, List.drop_length]
        split
        · rw [List.drop_eq_getElem_cons (by assumption)]; rfl
        · rw [List.drop_eq_nil_of_le (by omega)]; rfl
      have He := Lib.hid e
      clear e
      by_cases hl : xs.length < ys.length
      all_goals
        go_wp2
        go_ret
        exact ⟨ret_int (by rw [He.out]; first | rw [if_pos (by omega)] | rw [if_neg (by omega)]), hb⟩

set_option maxHeartbeats 400000 in
theorem implCompareRowsD_ok (A A' : Option Addr) (c c' : Nat) (xs ys : List Val) (w : World) (hn : xs.length ≤ maxLen) (hn' : ys.length ≤ maxLen) (h : Sl 2 valC w w.heap.size A xs) (h' : Sl 2 valC w w.heap.size A' ys) :
    Calls Tryz.prog 102 #[.slice A xs.length c, .slice A' ys.length c'] w fun e w' => e = .returned (.int .i64 (rpCmp xs ys)) ∧ BelD w w' := by
  have key := Lib.hid (compareFuncD_ok A A' c c' xs ys w hn hn' h h')
  unfold maxLen at hn hn'
  go_enter Tryz.func102, Tryz.ntmps102
  go_wp2_with fail
  refine key.out.mono ?_; rintro e w1 ⟨rfl, hb1⟩
  go_wp2
  go_ret
  exact ⟨rfl, hb1⟩

end Go.Proofs.YtcbfbgngkdiijaaGreat
