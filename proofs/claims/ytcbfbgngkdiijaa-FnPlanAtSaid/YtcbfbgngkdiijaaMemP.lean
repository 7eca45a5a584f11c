/-
  append of long elements (up to 128 bytes): where its result lies. (XMemS's text with another bound.)
-/
import Derived.Test.YtcbfbgngkdiijaaPln
namespace Go.Qo
open Go.RowKit
set_option linter.unusedVariables false
set_option linter.unusedSimpArgs false

theorem run_app3 {P : Program} {w : World} (t ty : TypeId)
    {α : Type} (lo : Nat) (e : TypeId) (z : Value) (sz bytes : Nat) (enc : α → List Value) (ht : P.underlying t = some (.slice e)) (hi : (P.info? e).map (fun i => (i.zero, i.size, i.bytes)) = some (some z, sz, bytes))
    (hzs : z.cells.size = sz) (hsz : 0 < sz) (hby : bytes ≤ 128) (he : ∀ x, (enc x).length = sz) (h1 : ∀ x, ∀ u ∈ enc x, u.oneCell' = true)
    (v : Value) (xs : List α) (hown : Ow lo e sz enc w v xs)
    (A : Option Addr) (m c : Nat) (ys : List α) (hm : m = ys.length) (hy : Sl sz enc w w.heap.size A ys)
    (hlen : xs.length + ys.length ≤ 1099511627776) (hlo : lo ≤ w.heap.size) :
    ∃ v' w', (Builtin.append_ #[t, t] ty #[v, .slice A m c]).run P w = .ok v' w' ∧ Ow lo e sz enc w' v' (xs ++ ys) ∧ w.grownBy w' v.ownBlock ∧ (v'.ownBlock = v.ownBlock ∨ v'.ownBlock = some w.heap.size) := by
  subst hm
  obtain ⟨i, hi, hz, hsi, hb⟩ := info_parts hi
  cases A with
  | none =>
    have h0 : ys = [] := by
      cases ys with
      | nil => rfl
      | cons y ys => obtain ⟨_, _, hA, _⟩ := hy (by simp); cases hA
    subst h0
    exact ⟨v, w, run_append_nothing (P := P) (w := w) lo t ty e i sz ht hi v _ c _ hown, by simpa using hown, World.grownBy.refl w _, .inl rfl⟩
  | some ad =>
    obtain ⟨v', w', hrun, h2, h3, _, h4⟩ := run_append_own_at w lo t ty e i z sz bytes ht hi hz hsi hb hzs hsz v _ _ hown ad ys.length c (ys.flatMap enc) (flat_length sz enc he ys) (by
      intro j u hu
      have hj : j < ys.length * sz := by rw [← flat_length sz enc he ys]; exact (List.getElem?_eq_some_iff.1 hu).1
      have h0 : 0 < ys.length := Nat.pos_of_ne_zero fun h => by rw [h] at hj; omega
      obtain ⟨b, off, hA, _, hc⟩ := hy h0
      cases hA
      have hdm : j / sz * sz + j % sz = j := by rw [Nat.mul_comm]; exact Nat.div_add_mod j sz
      have hi2 : j / sz < ys.length := (Nat.div_lt_iff_lt_mul hsz).2 hj
      have hxi := List.getElem?_eq_getElem hi2
      have hjm : j % sz < (enc ys[j / sz]).length := by rw [he]; exact Nat.mod_lt _ hsz
      have hu' := flat_get sz enc he ys (j / sz) _ (j % sz) _ hxi (List.getElem?_eq_getElem hjm)
      rw [hdm, hu] at hu'
      cases hu'
      have := hc (j / sz) _ hxi (j % sz) _ (List.getElem?_eq_getElem hjm)
      rw [Nat.add_assoc, hdm] at this
      rwa [Addr.add_lit]) (by
      intro u hu
      obtain ⟨y, _, hu⟩ := List.mem_flatMap.1 hu
      exact h1 y u hu) (by unfold maxLen; omega) (Nat.le_trans (Nat.mul_le_mul hlen hby) (by omega)) hlo
    exact ⟨v', w', hrun, by unfold Ow; rw [List.length_append, List.flatMap_append]; exact h2, h3, h4⟩

/-- As a step of a region that draws. -/
theorem step_app3 {P : Program} {w : World} {ops : Array Oper} {o : Oper} {a : Act} {K : Act → World → Prop} {Q : Exit → Act → World → Prop} {E : Prop} (hgd : o.guard = none) (s x : Operand) (t : TypeId)
    (ho : o.op = .call { callee := .builtin .append, args := #[s, x], argTypes := #[t, t] })
    {α : Type} (lo : Nat) (e : TypeId) (z : Value) (sz bytes : Nat) (enc : α → List Value) (ht : P.underlying t = some (.slice e)) (hi : (P.info? e).map (fun i => (i.zero, i.size, i.bytes)) = some (some z, sz, bytes))
    (hzs : z.cells.size = sz) (hsz : 0 < sz) (hby : bytes ≤ 128) (he : ∀ x, (enc x).length = sz) (h1 : ∀ x, ∀ u ∈ enc x, u.oneCell' = true)
    (v : Value) (xs : List α) (hs : a.eval s = v) (hown : Ow lo e sz enc w v xs)
    (A : Option Addr) (m c : Nat) (ys : List α) (hx : a.eval x = .slice A m c) (hm : m = ys.length) (hy : Sl sz enc w w.heap.size A ys)
    (hlen : xs.length + ys.length ≤ 1099511627776) (hlo : lo ≤ w.heap.size)
    (h : ∀ v' w', Ow lo e sz enc w' v' (xs ++ ys) → w.grownBy w' v.ownBlock → (v'.ownBlock = v.ownBlock ∨ v'.ownBlock = some w.heap.size) → K (a.put o.dst v') w') : if Region.wanted o (yielded ops a.tmps) = true then Oper.wp P o a w K Q else E := by
  have hw : Region.wanted o (yielded ops a.tmps) = true := by simp [Region.wanted, hgd]
  rw [if_pos hw]
  obtain ⟨v', w', hrun, h2, h3, h4⟩ := run_app3 (P := P) t o.type lo e z sz bytes enc ht hi hzs hsz hby he h1 v xs hown A m c ys hm hy hlen hlo
  unfold Oper.wp
  simp [execOp, ho, resolve, invoke, builtin, hs, hx, hrun, Result.andThen]
  exact h v' w' h2 h3 h4
/-- As a step of a list of operations. -/
theorem wpList_app3 {P : Program} {w : World} {ops : Array Oper} {rest : List Oper} {o : Oper} {a : Act} {Q : Exit → Act → World → Prop} (hgd : o.guard = none) (s x : Operand) (t : TypeId)
    (ho : o.op = .call { callee := .builtin .append, args := #[s, x], argTypes := #[t, t] })
    {α : Type} (lo : Nat) (e : TypeId) (z : Value) (sz bytes : Nat) (enc : α → List Value) (ht : P.underlying t = some (.slice e)) (hi : (P.info? e).map (fun i => (i.zero, i.size, i.bytes)) = some (some z, sz, bytes))
    (hzs : z.cells.size = sz) (hsz : 0 < sz) (hby : bytes ≤ 128) (he : ∀ x, (enc x).length = sz) (h1 : ∀ x, ∀ u ∈ enc x, u.oneCell' = true)
    (v : Value) (xs : List α) (hs : a.eval s = v) (hown : Ow lo e sz enc w v xs)
    (A : Option Addr) (m c : Nat) (ys : List α) (hx : a.eval x = .slice A m c) (hm : m = ys.length) (hy : Sl sz enc w w.heap.size A ys)
    (hlen : xs.length + ys.length ≤ 1099511627776) (hlo : lo ≤ w.heap.size)
    (h : ∀ v' w', Ow lo e sz enc w' v' (xs ++ ys) → w.grownBy w' v.ownBlock → (v'.ownBlock = v.ownBlock ∨ v'.ownBlock = some w.heap.size) → wpList P ops Q rest (a.put o.dst v') w') : wpList P ops Q (o :: rest) a w := by
  obtain ⟨v', w', hrun, h2, h3, h4⟩ := run_app3 (P := P) t o.type lo e z sz bytes enc ht hi hzs hsz hby he h1 v xs hown A m c ys hm hy hlen hlo
  refine wpList_plain hgd fun K hK => ?_
  unfold Oper.wp
  simp [execOp, ho, resolve, invoke, builtin, hs, hx, hrun, Result.andThen]
  exact hK _ _ (h v' w' h2 h3 h4)

end Go.Qo
