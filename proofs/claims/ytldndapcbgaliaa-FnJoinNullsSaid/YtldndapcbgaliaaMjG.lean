/-
  The joined rows: both of their values are one number.
-/
import Derived.Test.YtldndapcbgaliaaMjE
namespace Go.Qo
set_option linter.unusedVariables false
set_option linter.unusedSimpArgs false
theorem mjRows_and {a b : List Row1} {ca cb : Nat} {P : Row1 → Prop} : ∀ {x y : List Int}, (∀ i ∈ x, ∀ j ∈ y, nAt b cb j = nAt a ca i → P (catAt a b i j)) → ∀ r ∈ mjRows a b ca cb x y, P r
  | [], y, _, r, hr => by simp [mjRows] at hr
  | i :: x, y, h, r, hr => by
    have hs : ∀ j ∈ y.dropWhile (ltB a b ca cb i), j ∈ y := fun j hj => (List.dropWhile_suffix _).subset hj
    rcases List.mem_append.1 hr with h1 | h1
    · unfold mjOne at h1
      obtain ⟨j, hj, rfl⟩ := List.mem_map.1 h1
      have he : eqB a b ca cb i j = true := (List.all_eq_true.1 List.all_takeWhile) j hj
      exact h i (by simp) j (hs j ((List.takeWhile_prefix _).subset hj)) (by unfold eqB at he; exact of_decide_eq_true he)
    · exact mjRows_and (fun i' hi' j hj => h i' (by simp [hi']) j (hs j hj)) r h1
theorem rwAt_val {rows : List Row1} {cn : Nat} {i : Int} (hc : cn < (rwAt rows i).length) (hn : nul rows cn i.toNat = false) : (rwAt rows i)[cn]? = some (false, nAt rows cn i) := by
  rw [List.getElem?_eq_getElem hc]
  unfold nul at hn
  unfold nAt
  unfold rwAt at *
  rw [List.getD_eq_getElem?_getD (i := cn), List.getElem?_eq_getElem hc] at hn ⊢
  simp only [Option.getD_some] at hn ⊢
  rw [← hn]
theorem mjAll_both {W W' : Int} {a b : List Row1} {ca cb : Nat} (ha : ∀ r ∈ a, RowOk W r) (hb : ∀ r ∈ b, RowOk W' r) (hca : (ca : Int) < W) (hcb : (cb : Int) < W') : ∀ r ∈ mjAll a b ca cb, ∃ v : Int, r[ca]? = some (false, v) ∧ r[W.toNat + cb]? = some (false, v) := by
  refine mjRows_and fun i hi j hj he => ?_
  have h1 := rwAt_ok ha (idxOf_in i hi)
  have h2 := rwAt_ok hb (idxOf_in j hj)
  have l1 : ca < (rwAt a i).length := by have := h1.2; omega
  have l2 : cb < (rwAt b j).length := by have := h2.2; omega
  have e1 := rwAt_val l1 (idxOf_nul i hi)
  have e2 := rwAt_val l2 (idxOf_nul j hj)
  have eW : W.toNat = (rwAt a i).length := by have := h1.2; omega
  refine ⟨nAt a ca i, ?_, ?_⟩
  · unfold catAt
    rw [List.getElem?_append_left l1, e1]
  · unfold catAt
    rw [eW, List.getElem?_append_right (by omega), Nat.add_sub_cancel_left, e2, he]
end Go.Qo
