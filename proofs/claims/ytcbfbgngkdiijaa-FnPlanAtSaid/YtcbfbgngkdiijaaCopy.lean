/-
  copy of a whole slice into a new one, its elements of any number of cells; contracts of copied.
-/
import Derived.Test.YtcbfbgngkdiijaaProg
import Derived.Test.YtcbfbgngkdiijaaVal
import Derived.Test.YtcbfbgngkdiijaaRwt
import Derived.Test.YtcbfbgngkdiijaaPln
import Derived.Laws.CopyOwn
namespace Go.Proofs.Ytcbfbgngkdiijaa
open Go.RowKit Go.Qo
set_option linter.unusedVariables false
set_option linter.unusedSimpArgs false

theorem run_copy_new {P : Program} (w : World) (dT sT ty elem : TypeId) (g n dCap sz : Nat) (a : Addr) (sCap : Nat) (cur : Array Value) (t : TypeId) (cs : List Value)
    (hu : P.underlying dT = some (.slice elem)) (hs : (P.info? elem).map (·.size) = some sz)
    (hg : w.heap[g]? = some (.cells cur t (0, 0))) (hn : cs.length = n * sz)
    (hsrc : ∀ j v, cs[j]? = some v → w.cell? (a.add j) = some v) (hfit : cs.length = cur.size) (h1 : ∀ v ∈ cs, v.oneCell' = true) :
    (Builtin.copy_ #[dT, sT] ty #[.slice (some ⟨g, 0, none⟩) n dCap, .slice (some a) n sCap]).run P w = .ok (goInt n) (w.setRow g cs.toArray) := by
  have hl := run_loadCells_list (P := P) w a cs hsrc
  have hst := run_storeCells_at P g 0 t cs 0 cur w hg (by omega) h1
  have he : (cur.toList.take (0 + 0) ++ cs ++ cur.toList.drop (0 + 0 + cs.length)).toArray = cs.toArray := by
    have : cur.toList.drop (0 + 0 + cs.length) = [] := List.drop_eq_nil_of_le (by rw [Array.length_toList]; omega)
    rw [this]; simp
  rw [he] at hst
  cases hq : P.info? elem with
  | none => simp [hq] at hs
  | some i =>
    have hi : i.size = sz := by simpa [hq] using hs
    simp [Builtin.copy_, run_underlying hu, Builtin.lenOf, Builtin.firstCells, sizeOf, typeInfo, hq, hi, ← hn, hl, hst]
theorem wpList_copy_new {P : Program} {w : World} {ops : Array Oper} {rest : List Oper} {o : Oper} {a : Act} {Q : Exit → Act → World → Prop} (hgd : o.guard = none) (d s : Operand) (dT sT : TypeId)
    (ho : o.op = .call { callee := .builtin .copy, args := #[d, s], argTypes := #[dT, sT] }) (elem : TypeId) (sz : Nat) (hu : P.underlying dT = some (.slice elem)) (hsz : (P.info? elem).map (·.size) = some sz)
    (g n dCap : Nat) (ad : Addr) (sCap : Nat) (hd : a.eval d = .slice (some ⟨g, 0, none⟩) n dCap) (hs : a.eval s = .slice (some ad) n sCap)
    (cur : Array Value) (t : TypeId) (hg : w.heap[g]? = some (.cells cur t (0, 0))) (cs : List Value) (hn : cs.length = n * sz)
    (hsrc : ∀ j v, cs[j]? = some v → w.cell? (ad.add j) = some v) (hfit : cs.length = cur.size) (h1 : ∀ v ∈ cs, v.oneCell' = true)
    (h : wpList P ops Q rest (a.put o.dst (goInt n)) (w.setRow g cs.toArray)) : wpList P ops Q (o :: rest) a w := by
  refine wpList_plain hgd fun K hK => ?_
  have hrun := run_copy_new (P := P) w dT sT o.type elem g n dCap sz ad sCap cur t cs hu hsz hg hn hsrc hfit h1
  unfold Oper.wp
  simp [execOp, ho, resolve, invoke, builtin, hd, hs, hrun, Result.andThen]
  exact hK _ _ h
/-- What a slice reads as, cell by cell. -/
theorem slCells {α : Type} {sz : Nat} (hsz : 0 < sz) {enc : α → List Value} (he : ∀ x, (enc x).length = sz) {w : World} {B b off : Nat} {xs : List α} (h : Sl sz enc w B (some ⟨b, off, none⟩) xs) : ∀ j v, (xs.flatMap enc)[j]? = some v → w.cell? ((⟨b, off, none⟩ : Addr).add j) = some v := by
  intro j u hu
  have hj : j < xs.length * sz := by rw [← flat_length sz enc he xs]; exact (List.getElem?_eq_some_iff.1 hu).1
  have h0 : 0 < xs.length := Nat.pos_of_ne_zero fun h => by rw [h] at hj; omega
  obtain ⟨b', off', hA, _, hc⟩ := h h0
  cases hA
  have hdm : j / sz * sz + j % sz = j := by rw [Nat.mul_comm]; exact Nat.div_add_mod j sz
  have hi2 : j / sz < xs.length := (Nat.div_lt_iff_lt_mul hsz).2 hj
  have hxi := List.getElem?_eq_getElem hi2
  have hjm : j % sz < (enc xs[j / sz]).length := by rw [he]; exact Nat.mod_lt _ hsz
  have hu' := flat_get sz enc he xs (j / sz) _ (j % sz) _ hxi (List.getElem?_eq_getElem hjm)
  rw [hdm, hu] at hu'
  cases hu'
  have := hc (j / sz) _ hxi (j % sz) _ (List.getElem?_eq_getElem hjm)
  rw [Nat.add_assoc, hdm] at this
  rwa [Addr.add_lit]

end Go.Proofs.Ytcbfbgngkdiijaa
