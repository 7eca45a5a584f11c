/-
  append onto a slice that has no room left (its capacity is its length): the new slice lies in a new block. No program in sight.
-/
import Derived.Test.YtcbfbgngkdiijaaExT
import Derived.Test.YtcbfbgngkdiijaaMemP
namespace Go.Qo
open Go.RowKit
set_option linter.unusedVariables false
set_option linter.unusedSimpArgs false

theorem Sl.cells {α : Type} {sz : Nat} {enc : α → List Value} {w : World} {B : Nat} {ad : Addr} {xs : List α} (he : ∀ x, (enc x).length = sz) (hsz : 0 < sz) (hy : Sl sz enc w B (some ad) xs) :
    ∀ (j : Nat) (u : Value), (xs.flatMap enc)[j]? = some u → w.cell? (ad.add j) = some u := by
  intro j u hu
  have hj : j < xs.length * sz := by rw [← flat_length sz enc he xs]; exact (List.getElem?_eq_some_iff.1 hu).1
  have h0 : 0 < xs.length := Nat.pos_of_ne_zero fun h => by rw [h] at hj; omega
  obtain ⟨b, off, hA, _, hc⟩ := hy h0
  cases hA
  have hdm : j / sz * sz + j % sz = j := by rw [Nat.mul_comm]; exact Nat.div_add_mod j sz
  have hi2 : j / sz < xs.length := (Nat.div_lt_iff_lt_mul hsz).2 hj
  have hxi := List.getElem?_eq_getElem hi2
  have hjm : j % sz < (enc xs[j / sz]).length := by rw [he]; exact Nat.mod_lt _ hsz
  have hu' := flat_get sz enc he xs (j / sz) _ (j % sz) _ hxi (List.getElem?_eq_getElem hjm)
  rw [hdm, hu] at hu'
  cases hu'
  have := hc (j / sz) _ hxi (j % sz) _ (List.getElem?_eq_getElem hjm)
  rw [Nat.add_assoc, hdm] at this
  rwa [Addr.add_lit]

theorem run_appF {P : Program} {w : World} (t ty : TypeId)
    {α : Type} (e : TypeId) (z : Value) (sz bytes : Nat) (enc : α → List Value) (ht : P.underlying t = some (.slice e)) (hi : (P.info? e).map (fun i => (i.zero, i.size, i.bytes)) = some (some z, sz, bytes))
    (hsz : 0 < sz) (hby : bytes ≤ 128) (he : ∀ x, (enc x).length = sz)
    (A : Option Addr) (xs : List α) (hx : Sl sz enc w w.heap.size A xs)
    (A' : Option Addr) (m c : Nat) (ys : List α) (hm : m = ys.length) (hy : Sl sz enc w w.heap.size A' ys) (h0 : 0 < ys.length)
    (hlen : xs.length + ys.length ≤ 1099511627776) :
    ∃ C w', (Builtin.append_ #[t, t] ty #[.slice A xs.length xs.length, .slice A' m c]).run P w = .ok (.slice (some ⟨w.heap.size, 0, none⟩) (xs.length + ys.length) C) w' ∧ xs.length + ys.length ≤ C ∧ C ≤ maxLen ∧ Below w.heap.size w w' ∧ SlS (fun k => k = w.heap.size) sz enc w' (some ⟨w.heap.size, 0, none⟩) (xs ++ ys) := by
  subst hm
  obtain ⟨i, hi2, hz, hsi, hb⟩ := info_parts hi
  clear hi
  subst hsi
  obtain ⟨b', o', hA', _, _⟩ := hy h0
  subst hA'
  have hmx : (xs.length + ys.length) ≤ maxLen := by unfold maxLen; omega
  have hfin : ∀ (old : Nat) (cs : Array Value) (more : List Value), cs.toList = (xs ++ ys).flatMap enc ++ more → Below w.heap.size w (w.drew.alloc (.cells cs e)) ∧ SlS (fun k => k = w.heap.size) i.size enc (w.drew.alloc (.cells cs e)) (some ⟨w.heap.size, 0, none⟩) (xs ++ ys) := fun old cs more hcs => by
    refine ⟨(bdrewN (Below.refl _ _) 1).alloc (Nat.le_refl _) _, fun h1 => ?_⟩
    have hr : Row (w.drew.alloc (.cells cs e)) w.heap.size e ((xs ++ ys).flatMap enc ++ more) := (Row.new w.drew e cs).of hcs
    obtain ⟨b, off, hA, hB, hc⟩ := (Row.sl he hr) h1
    cases hA
    exact ⟨_, _, rfl, rfl, hB, hc⟩
  have hcm : ∀ old, grownCap w (xs.length + ys.length) old e ≤ maxLen := fun old => grownCap_le_maxLen w _ old e hmx
  have hnl : (ys.flatMap enc).length = ys.length * i.size := flat_length i.size enc he ys
  have hol : (xs.flatMap enc).length = xs.length * i.size := flat_length i.size enc he xs
  have hbb : (xs.length + ys.length) * i.bytes ≤ 140737488355328 := by
    have := Nat.mul_le_mul hlen (show i.bytes ≤ 128 by omega)
    omega
  cases A with
  | none =>
    have hxe : xs = [] := by
      cases xs with
      | nil => rfl
      | cons x xs => obtain ⟨_, _, hA, _⟩ := hx (by simp); cases hA
    subst hxe
    have hr := run_append_nil (P := P) w t ty e i z ht hi2 hz ⟨b', o', none⟩ ys.length c (ys.flatMap enc) hnl (Sl.cells he hsz hy) h0 (by simp at hlen; omega) (by simp at hbb; omega)
    have hf := hfin 0 ((ys.flatMap enc).toArray ++ Builtin.zeroCells z.cells (grownCap w ys.length 0 e - ys.length)) (Builtin.zeroCells z.cells (grownCap w ys.length 0 e - ys.length)).toList (by simp)
    refine ⟨_, _, by simpa using hr, ?_, ?_, hf.1, hf.2⟩
    · simpa using grownCap_ge w ys.length 0 e
    · simpa using hcm 0
  | some ad =>
    have hr := run_append_grow (P := P) w t ty e i z ht hi2 hz ad xs.length xs.length (xs.flatMap enc) hol (Sl.cells he hsz hx) ⟨b', o', none⟩ ys.length c (ys.flatMap enc) hnl (Sl.cells he hsz hy) (by omega) (by omega) (growslice_fits (by omega) hbb)
    have hf := hfin xs.length ((xs.flatMap enc).toArray ++ (ys.flatMap enc).toArray ++ Builtin.zeroCells z.cells (grownCap w (xs.length + ys.length) xs.length e - (xs.length + ys.length))) (Builtin.zeroCells z.cells (grownCap w (xs.length + ys.length) xs.length e - (xs.length + ys.length))).toList (by simp)
    exact ⟨_, _, hr, grownCap_ge w _ _ e, hcm _, hf.1, hf.2⟩
/-- As a step of a region that draws. -/
theorem step_appF {P : Program} {w : World} {ops : Array Oper} {o : Oper} {a : Act} {K : Act → World → Prop} {Q : Exit → Act → World → Prop} {E : Prop} (hgd : o.guard = none) (s x : Operand) (t : TypeId)
    (ho : o.op = .call { callee := .builtin .append, args := #[s, x], argTypes := #[t, t] })
    {α : Type} (e : TypeId) (z : Value) (sz bytes : Nat) (enc : α → List Value) (ht : P.underlying t = some (.slice e)) (hi : (P.info? e).map (fun i => (i.zero, i.size, i.bytes)) = some (some z, sz, bytes))
    (hsz : 0 < sz) (hby : bytes ≤ 128) (he : ∀ x, (enc x).length = sz)
    (A : Option Addr) (xs : List α) (hs : a.eval s = .slice A xs.length xs.length) (hsx : Sl sz enc w w.heap.size A xs)
    (A' : Option Addr) (m c : Nat) (ys : List α) (hx : a.eval x = .slice A' m c) (hm : m = ys.length) (hy : Sl sz enc w w.heap.size A' ys) (h0 : 0 < ys.length)
    (hlen : xs.length + ys.length ≤ 1099511627776)
    (h : ∀ C w', xs.length + ys.length ≤ C → C ≤ maxLen → Below w.heap.size w w' → SlS (fun k => k = w.heap.size) sz enc w' (some ⟨w.heap.size, 0, none⟩) (xs ++ ys) → K (a.put o.dst (.slice (some ⟨w.heap.size, 0, none⟩) (xs.length + ys.length) C)) w') : if Region.wanted o (yielded ops a.tmps) = true then Oper.wp P o a w K Q else E := by
  have hw : Region.wanted o (yielded ops a.tmps) = true := by simp [Region.wanted, hgd]
  rw [if_pos hw]
  obtain ⟨C, w', hrun, h2, h3, h4, h5⟩ := run_appF (P := P) t o.type e z sz bytes enc ht hi hsz hby he A xs hsx A' m c ys hm hy h0 hlen
  unfold Oper.wp
  simp [execOp, ho, resolve, invoke, builtin, hs, hx, hrun, Result.andThen]
  exact h C w' h2 h3 h4 h5
end Go.Qo
