/-
  Both DecodeExpr of one text: one answer for the reference and the program.
-/
import Derived.Test.YtmhlpjfijpomkaaGreatDoorProg
import Derived.Test.YtmhlpjfijpomkaaGreatDoorZqDcU
import Derived.Test.YtmhlpjfijpomkaaGreatDoorZqDcL
import Derived.Test.YtmhlpjfijpomkaaGreatDoorZqMkE
namespace Go.Proofs.YtmhlpjfijpomkaaGreatDoor
open Go.RowKit Go.Qo
set_option linter.unusedVariables false
set_option linter.unusedSimpArgs false

theorem exsText_cnt : ∀ es : List Ex, (∀ x ∈ es, exCnt x + 1 ≤ (exText x).length) → es.length + exKids es ≤ (exsText es).length
  | [], _ => by simp [exKids]
  | x :: xs, h => by
    have h1 := exsText_cnt xs fun y hy => h y (List.mem_cons_of_mem _ hy)
    have h2 := h x (List.mem_cons_self ..)
    simp [exsText, exKids]
    omega
theorem exText_cnt : ∀ x : Ex, ∀ d : Int, ExOk 6 d x → exCnt x + 1 ≤ (exText x).length := Ex.ind fun x ih d h => by
  obtain ⟨h1, h2, h3, h4⟩ := exOk_iff.1 h
  have hk := exsText_cnt x.kids fun y hy => ih y hy _ (h3 y hy)
  have hp := exText_pos x
  rw [exCnt_eq]
  by_cases hl : x.kind = 1 ∨ x.kind = 2
  · have : x.kids = [] := List.length_eq_zero_iff.1 (by unfold kidsK at h1; rw [if_pos hl] at h1; omega)
    rw [this]
    simp [exKids]
    omega
  · rw [exText_eq, if_neg (fun e => hl (.inl e)), if_neg (fun e => hl (.inr e))]
    simp
    omega
end Go.Proofs.YtmhlpjfijpomkaaGreatDoor
