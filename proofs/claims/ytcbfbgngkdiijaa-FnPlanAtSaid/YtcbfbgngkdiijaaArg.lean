/-
  Arguments opened: a slice whose elements are of whatever type reads as a list.
-/
import Derived.ProofKit
import Derived.Deep.Slices
import Derived.ChangeSame
import Derived.Test.YtcbfbgngkdiijaaPln
namespace Go.Qo
open Go.RowKit Go.ChangeShapes Go.WideShapes Go.Deep
set_option linter.unusedVariables false
set_option linter.unusedSimpArgs false

section
variable {H : Type} {enc : TypeId × Value → H} {P : Program} {w : World} {base : Nat} {spare : Nat → Bool} {held : Bool}

/-- What an element's cells are, given by its own reading, makes the slice a list of such elements. -/
theorem open_sl {α : Type} {ec : α → List Value} {Good : α → Prop} {t e : TypeId} {sz : Nat} {fuel : Nat} {A : Option Addr} {n c : Nat} {x : DataW H × List MemPlace}
    (ht : P.underlying t = some (.slice e)) (hC : P.cellsOf e = sz) (hsz : 0 < sz) (hec : ∀ a, (ec a).length = sz)
    (hel : ∀ (fuel : Nat) (cs : List Value) (x : DataW H × List MemPlace), cs.length = sz → DataW.trod enc P w base spare held fuel e cs = some x → ∃ el : α, cs = ec el ∧ Good el)
    (h : DataW.trod enc P w base spare held fuel t [.slice A n c] = some x) :
    ∃ xs : List α, xs.length = n ∧ n ≤ c ∧ c ≤ maxLen ∧ (∀ el ∈ xs, Good el) ∧ Sl sz ec w w.heap.size A xs := by
  rcases open_slice ht h with ⟨hcs, _⟩ | ⟨a, len, cap, m, k, D, Pl, hcs, hb, hl, hm, hmm, _, hi⟩
  · simp only [List.cons.injEq, Value.slice.injEq, and_true] at hcs
    obtain ⟨rfl, rfl, rfl⟩ := hcs
    exact ⟨[], rfl, Nat.le_refl _, by unfold maxLen; omega, by simp, Sl.nil⟩
  · simp only [List.cons.injEq, Value.slice.injEq, and_true] at hcs
    obtain ⟨rfl, rfl, rfl⟩ := hcs
    have hle : n ≤ m := by rw [hmm]; split <;> omega
    have h1 : ∀ i, i < n → ∃ el : α, Good el ∧ ∀ j u, (ec el)[j]? = some u → w.cell? (a.add (i * sz + j)) = some u := by
      intro i hin
      obtain ⟨cs', hc, ht'⟩ := hi i (by omega)
      obtain ⟨_, hcl, hat⟩ := World.cells?_some hc
      rw [hC] at hcl hat
      obtain ⟨el, rfl, hg⟩ := hel _ _ _ hcl ht'
      refine ⟨el, hg, fun j u hu => ?_⟩
      have hj : j < sz := by have := (List.getElem?_eq_some_iff.1 hu).1; rw [hec] at this; exact this
      have := hat j hj
      rw [Go.Deep.add_add] at this
      rw [this, hu]
    rcases Nat.eq_zero_or_pos n with rfl | hn
    · exact ⟨[], rfl, hl, hm, by simp, Sl.nil⟩
    · obtain ⟨el0, _, _⟩ := h1 0 hn
      haveI : Inhabited α := ⟨el0⟩
      obtain ⟨f, hf⟩ := choose_lt h1
      obtain ⟨b, off, spot⟩ := a
      have hc0 : ∃ u, w.cell? (Addr.add ⟨b, off, spot⟩ (0 * sz + 0)) = some u := by
        have hl0 : 0 < (ec (f 0)).length := by rw [hec]; exact hsz
        exact ⟨_, (hf 0 hn).2 0 _ (List.getElem?_eq_getElem hl0)⟩
      obtain ⟨u, hu⟩ := hc0
      have hu' : w.cell? ⟨b, off, spot⟩ = some u := by simpa [Addr.add] using hu
      have hspot : spot = none := by simpa using World.cell?_spot hu'
      subst hspot
      have hb := World.block_lt_of_cell? w _ hu'
      refine ⟨(List.range n).map f, by simp, hl, hm, ?_, fun _ => ⟨b, off, rfl, hb, fun i x hx j u hu => ?_⟩⟩
      · intro el hel
        obtain ⟨i, hi, rfl⟩ := List.mem_map.1 hel
        exact (hf i (List.mem_range.1 hi)).1
      · have hi : i < n := by have := (List.getElem?_eq_some_iff.1 hx).1; simpa using this
        have hx' : x = f i := by simpa [hi] using hx.symm
        subst hx'
        have := (hf i hi).2 j u hu
        rw [Addr.add_lit, ← Nat.add_assoc] at this
        exact this

/-- A struct's cells, field by field, where each field has one cell: two fields. -/
theorem open_two {t : TypeId} {f0 f1 : Field} {fuel : Nat} {cs : List Value} {x : DataW H × List MemPlace} (ht : P.underlying t = some (.struct #[f0, f1])) (hl : cs.length = 2)
    (o0 : f0.offset = 0) (o1 : f1.offset = 1) (k0 : P.cellsOf f0.type = 1) (k1 : P.cellsOf f1.type = 1)
    (h : DataW.trod enc P w base spare held fuel t cs = some x) :
    ∃ v0 v1 y0 y1 n, cs = [v0, v1] ∧ x = (.agg [y0.1, y1.1], y0.2 ++ y1.2) ∧ DataW.trod enc P w base spare held n f0.type [v0] = some y0 ∧ DataW.trod enc P w base spare held n f1.type [v1] = some y1 := by
  obtain ⟨y0, y1, n, hx, _, h0, h1⟩ := trod_struct2 ht h
  match cs, hl with
  | [v0, v1], _ => exact ⟨v0, v1, y0, y1, n, rfl, hx, by simpa [o0, k0] using h0, by simpa [o1, k1] using h1⟩
end

/-- The element of a slice of structs {int, bool}. -/
theorem el_int_bool {H : Type} {enc : TypeId × Value → H} {P : Program} {w : World} {base : Nat} {spare : Nat → Bool} {held : Bool} {t : TypeId} {f0 f1 : Field} (ht : P.underlying t = some (.struct #[f0, f1]))
    (o0 : f0.offset = 0) (o1 : f1.offset = 1) (k0 : P.cellsOf f0.type = 1) (k1 : P.cellsOf f1.type = 1) (u0 : P.underlying f0.type = some (.int .i64)) (u1 : P.underlying f1.type = some .bool) :
    ∀ (fuel : Nat) (cs : List Value) (x : DataW H × List MemPlace), cs.length = 2 → DataW.trod enc P w base spare held fuel t cs = some x →
      ∃ el : Int × Bool, cs = [.int .i64 el.1, .bool el.2] ∧ (Lit.int .i64 el.1).wf = true := by
  intro fuel cs x hl h
  obtain ⟨v0, v1, y0, y1, n, rfl, _, h0, h1⟩ := open_two ht hl o0 o1 k0 k1 h
  obtain ⟨a, ha, _, wa⟩ := DataW.trod_int u0 h0
  obtain ⟨b, hb, _⟩ := DataW.trod_bool u1 h1
  simp only [List.cons.injEq, and_true] at ha hb
  subst ha; subst hb
  exact ⟨(a, b), rfl, wa⟩

/-- The element of a slice of structs {bool, int}. -/
theorem el_bool_int {H : Type} {enc : TypeId × Value → H} {P : Program} {w : World} {base : Nat} {spare : Nat → Bool} {held : Bool} {t : TypeId} {f0 f1 : Field} (ht : P.underlying t = some (.struct #[f0, f1]))
    (o0 : f0.offset = 0) (o1 : f1.offset = 1) (k0 : P.cellsOf f0.type = 1) (k1 : P.cellsOf f1.type = 1) (u0 : P.underlying f0.type = some .bool) (u1 : P.underlying f1.type = some (.int .i64)) :
    ∀ (fuel : Nat) (cs : List Value) (x : DataW H × List MemPlace), cs.length = 2 → DataW.trod enc P w base spare held fuel t cs = some x →
      ∃ el : Bool × Int, cs = [.bool el.1, .int .i64 el.2] ∧ (Lit.int .i64 el.2).wf = true := by
  intro fuel cs x hl h
  obtain ⟨v0, v1, y0, y1, n, rfl, _, h0, h1⟩ := open_two ht hl o0 o1 k0 k1 h
  obtain ⟨a, ha, _⟩ := DataW.trod_bool u0 h0
  obtain ⟨b, hb, _, wb⟩ := DataW.trod_int u1 h1
  simp only [List.cons.injEq, and_true] at ha hb
  subst ha; subst hb
  exact ⟨(a, b), rfl, wb⟩

end Go.Qo
