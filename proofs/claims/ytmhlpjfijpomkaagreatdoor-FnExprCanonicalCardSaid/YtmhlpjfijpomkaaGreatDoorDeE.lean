/-
  Contracts for the laws on read-back texts: DrawEncodeExpr; and in plain Lean: texts are ASCII, one text is one tree's.
-/
import Derived.Test.YtmhlpjfijpomkaaGreatDoorProg
import Derived.Test.YtmhlpjfijpomkaaGreatDoorDcL
import Derived.Test.YtmhlpjfijpomkaaGreatDoorGeQ
namespace Go.Proofs.YtmhlpjfijpomkaaGreatDoor
open Go.RowKit Go.Qo
set_option linter.unusedVariables false
set_option linter.unusedSimpArgs false

theorem opTexts_ascii : ∀ k : Fin 12, ∀ c ∈ opTexts.getD k.val [], c.toNat < 128 := by decide +kernel
theorem opText_ascii (k : Int) : ∀ c ∈ opText k, c.toNat < 128 := by
  unfold opText
  by_cases h : k.toNat < 12
  · exact opTexts_ascii ⟨k.toNat, h⟩
  · rw [List.getD_eq_getElem?_getD, List.getElem?_eq_none (by show 12 ≤ k.toNat; omega)]
    exact fun c hc => by cases hc
theorem itoa_ascii (n : Int) : ∀ c ∈ Lib.itoa n, c.toNat < 128 := fun c hc => by have := itoa_bytes n c hc; omega
theorem valText_ascii (v : Val) : ∀ c ∈ valText v, c.toNat < 128 := by
  unfold valText
  split
  · exact fun c hc => by revert c; decide +kernel
  · exact itoa_ascii _
theorem exText_ascii : ∀ x : Ex, ∀ c ∈ exText x, c.toNat < 128 := Ex.ind fun x ih => by
  have hk : ∀ es : List Ex, (∀ y ∈ es, ∀ c ∈ exText y, c.toNat < 128) → ∀ c ∈ exsText es, c.toNat < 128 := by
    intro es
    induction es with
    | nil => exact fun _ c hc => by simp [exsText] at hc
    | cons y ys ih =>
      intro h c hc
      rw [exsText] at hc
      rcases List.mem_cons.1 hc with rfl | hc
      · decide
      · rcases List.mem_append.1 hc with hc | hc
        · exact h y (List.mem_cons_self ..) c hc
        · exact ih (fun z hz => h z (List.mem_cons_of_mem _ hz)) c hc
  intro c hc
  rw [exText_eq] at hc
  split at hc
  · rcases List.mem_cons.1 hc with rfl | hc
    · decide
    · exact itoa_ascii _ c hc
  · split at hc
    · exact valText_ascii _ c hc
    · rcases List.mem_cons.1 hc with rfl | hc
      · decide
      · rcases List.mem_append.1 hc with hc | hc
        · exact opText_ascii _ c hc
        · rcases List.mem_append.1 hc with hc | hc
          · exact hk _ ih c hc
          · have : c = 41 := by simpa using hc
            subst this
            decide
theorem exText_inj {x y : Ex} (hx : ExOk 6 8 x) (hy : ExOk 6 8 y) (h : exText x = exText y) : x = y := by
  have h1 := read_back hx rfl
  have h2 := read_back hy h.symm
  rw [h1] at h2
  cases h2
  rfl

/-- A drawn expression. -/
def DrawnE (w : World) (e : Ending) (w' : World) : Prop := ∃ (f : FE) (x : Ex), e = .returned (feV f) ∧ ExT (fun k => w.heap.size ≤ k) w' f x ∧ Below w.heap.size w w'

end Go.Proofs.YtmhlpjfijpomkaaGreatDoor
