/-
  Contracts: sizes, copies and comparisons of expressions, as the laws make them (szExpr, toExpr, eqExpr).
-/
import Derived.Test.YtmhlpjfijpomkaaGreatDoorProg
import Derived.Test.YtmhlpjfijpomkaaGreatDoorExT
import Derived.Test.YtmhlpjfijpomkaaGreatDoorGeD
import Derived.Test.YtmhlpjfijpomkaaGreatDoorEqE
import Derived.Test.YtmhlpjfijpomkaaGreatDoorVal
import Derived.Test.YtmhlpjfijpomkaaGreatDoorPlD
namespace Go.Proofs.YtmhlpjfijpomkaaGreatDoor
open Go.RowKit Go.Qo
set_option linter.unusedVariables false
set_option linter.unusedSimpArgs false

mutual
def exCnt : Ex → Nat
  | .mk _ _ _ ks => ks.length + exKids ks
def exKids : List Ex → Nat
  | [] => 0
  | x :: xs => exCnt x + exKids xs
end
theorem exCnt_eq (x : Ex) : exCnt x = x.kids.length + exKids x.kids := by
  obtain ⟨k, c, v, ks⟩ := x
  rw [exCnt]
  rfl
theorem exKids_append : ∀ (a b : List Ex), exKids (a ++ b) = exKids a + exKids b
  | [], b => by simp [exKids]
  | x :: a, b => by rw [List.cons_append, exKids, exKids, exKids_append a b]; omega
theorem exKids_take {ks : List Ex} {i : Nat} (h : i < ks.length) : exKids (ks.take (i + 1)) = exKids (ks.take i) + exCnt ks[i] := by
  rw [List.take_succ_eq_append_getElem h, exKids_append]
  simp [exKids]
theorem exKids_le {ks : List Ex} (i : Nat) : exKids (ks.take i) ≤ exKids ks := by
  have : exKids ks = exKids (ks.take i) + exKids (ks.drop i) := by rw [← exKids_append, List.take_append_drop]
  omega
theorem exCnt_mem {ks : List Ex} {x : Ex} (h : x ∈ ks) : exCnt x ≤ exKids ks := by
  obtain ⟨i, hi, rfl⟩ := List.getElem_of_mem h
  have h1 := exKids_take hi
  have h2 := exKids_le (ks := ks) (i + 1)
  omega
theorem exB_of_cnt : ∀ x : Ex, exCnt x ≤ 1048576 → ExB x := Ex.ind fun x ih h => by
  rw [exCnt_eq] at h
  exact .mk (by omega) fun y hy => ih y hy (by have := exCnt_mem hy; omega)
/-- What is left of a size. -/
def szR (left : Int) (n : Nat) : Int := if (n : Int) ≤ left then left - n else -1
theorem szR_yes {left : Int} {n : Nat} (h : (n : Int) ≤ left) : szR left n = left - n := by unfold szR; rw [if_pos h]
theorem szR_no {left : Int} {n : Nat} (h : ¬ (n : Int) ≤ left) : szR left n = -1 := by unfold szR; rw [if_neg h]

end Go.Proofs.YtmhlpjfijpomkaaGreatDoor
