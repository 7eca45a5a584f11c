/-
  How many nodes a tree has. No program in sight.
-/
import Derived.Test.YtcbfbgngkdiijaaPlD
namespace Go.Qo
set_option linter.unusedVariables false
set_option linter.unusedSimpArgs false

mutual
def exN : Ex → Nat
  | .mk _ _ _ ks => 1 + exsN ks
def exsN : List Ex → Nat
  | [] => 0
  | x :: xs => exN x + exsN xs
end
theorem exN_eq (x : Ex) : exN x = 1 + exsN x.kids := by
  obtain ⟨k, c, v, ks⟩ := x
  rw [exN]
  rfl
theorem exN_pos (x : Ex) : 1 ≤ exN x := by rw [exN_eq]; omega
theorem exsN_append : ∀ (a b : List Ex), exsN (a ++ b) = exsN a + exsN b
  | [], b => by simp [exsN]
  | x :: a, b => by rw [List.cons_append, exsN, exsN, exsN_append a b]; omega
theorem exsN_one (x : Ex) : exsN [x] = exN x := by simp [exsN]
theorem exsN_len : ∀ es : List Ex, es.length ≤ exsN es
  | [] => Nat.le_refl _
  | x :: es => by
    have h1 := exN_pos x
    have h2 := exsN_len es
    rw [exsN, List.length_cons]
    omega
theorem exsN_mem {x : Ex} : ∀ {es : List Ex}, x ∈ es → exN x ≤ exsN es
  | [], h => by cases h
  | y :: es, h => by
    rw [exsN]
    rcases List.mem_cons.1 h with rfl | h
    · omega
    · have := exsN_mem h; omega
mutual
def plN : Pl → Nat
  | .mk _ _ es _ ks => 1 + exsN es + plsN ks
def plsN : List Pl → Nat
  | [] => 0
  | x :: xs => plN x + plsN xs
end
theorem plN_eq (x : Pl) : plN x = 1 + exsN x.exprs + plsN x.kids := by
  obtain ⟨k, t, es, cs, ks⟩ := x
  rw [plN]
  rfl
theorem plN_pos (x : Pl) : 1 ≤ plN x := by rw [plN_eq]; omega
theorem plsN_append : ∀ (a b : List Pl), plsN (a ++ b) = plsN a + plsN b
  | [], b => by simp [plsN]
  | x :: a, b => by rw [List.cons_append, plsN, plsN, plsN_append a b]; omega
theorem plsN_len : ∀ es : List Pl, es.length ≤ plsN es
  | [] => Nat.le_refl _
  | x :: es => by
    have h1 := plN_pos x
    have h2 := plsN_len es
    rw [plsN, List.length_cons]
    omega
theorem plsN_mem {x : Pl} : ∀ {es : List Pl}, x ∈ es → plN x ≤ plsN es
  | [], h => by cases h
  | y :: es, h => by
    rw [plsN]
    rcases List.mem_cons.1 h with rfl | h
    · omega
    · have := plsN_mem h; omega
end Go.Qo
