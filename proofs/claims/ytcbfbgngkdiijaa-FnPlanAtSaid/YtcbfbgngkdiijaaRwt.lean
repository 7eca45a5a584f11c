/-
  Several texts in one (Row Tab).
-/
import Derived.Test.YtcbfbgngkdiijaaProg
import Derived.Test.YtcbfbgngkdiijaaVal
/-
  Contracts of the functions of rows and lists of rows.
-/
namespace Go.Proofs.Ytcbfbgngkdiijaa
open Go.RowKit Go.Qo
set_option linter.unusedVariables false
set_option linter.unusedSimpArgs false

abbrev Rws (w : World) (B : Nat) (A : Option Addr) (rows : List Row1) : Prop := Sls 2 valC w B A rows

theorem zeroRow : (Try.prog.info? 99).map (fun i => (i.zero, i.size, i.bytes)) = some (some (.slice none 0 0), 1, 24) := by kernel_rfl

/-- Behind k rounds of a copy of a list of rows. -/
structure CopyK (w : World) (B0 : Nat) (bs : List Nat) (rows : List Row1) (k : Nat) : Prop where
  len : bs.length = k
  outer : Row w B0 99 (rowsC bs (rows.take k) ++ zeros [.slice none 0 0] (rows.length - k))
  inner : ∀ (i c : Nat) (r : Row1), bs[i]? = some c → rows[i]? = some r → Row w c 64 (r.flatMap valC)
  nodup : bs.Nodup
  low : ∀ c ∈ bs, B0 < c ∧ c < w.heap.size

theorem CopyK.next {w w1 : World} {B0 : Nat} {bs : List Nat} {rows : List Row1} {k : Nat} {r : Row1} (h : CopyK w B0 bs rows k) (hB : B0 < w.heap.size) (hr : rows[k]? = some r) (hb : Below w.heap.size w w1) (hrow : Row w1 w.heap.size 64 (r.flatMap valC)) :
    CopyK (w1.setCell ⟨B0, k, none⟩ (.slice (some ⟨w.heap.size, 0, none⟩) r.length r.length)) B0 (bs ++ [w.heap.size]) rows (k + 1) := by
  obtain ⟨hk, _⟩ := List.getElem?_eq_some_iff.1 hr
  have hl : (rows.take k).length = k := by rw [List.length_take]; omega
  have hlt := hrow.lt
  refine ⟨by simp [h.len], ?_, fun i c x h1 h2 => ?_, ?_, fun c hc => ?_⟩
  · refine ((h.outer.on hb).set k _).of ?_
    have hL : (rowsC bs (rows.take k)).length = k := by rw [rowsC_length _ _ (by rw [h.len, hl]), hl]
    rw [List.take_add_one, hr, Option.toList, rowsC_snoc _ _ (by rw [h.len, hl]), List.set_append_right _ _ (by omega), hL, Nat.sub_self,
      show rows.length - k = (rows.length - (k + 1)) + 1 by omega, zeros_succ]
    simp
  · rcases Nat.lt_or_ge i bs.length with hi | hi
    · rw [List.getElem?_append_left hi] at h1
      have hc := h.low c (List.mem_of_getElem? h1)
      exact ((h.inner i c x h1 h2).on hb).far (p := ⟨_, _, none⟩) (by dsimp only; omega) _
    · rw [List.getElem?_append_right hi] at h1
      have : i - bs.length = 0 := by
        rcases Nat.eq_zero_or_pos (i - bs.length) with h3 | h3
        · exact h3
        · rw [List.getElem?_eq_none (by simp; omega)] at h1; cases h1
      rw [this] at h1
      simp only [List.getElem?_cons_zero, Option.some.injEq] at h1
      subst h1
      obtain rfl : i = k := by rw [← h.len]; omega
      rw [hr] at h2; cases h2
      exact hrow.far (p := ⟨_, _, none⟩) (by dsimp only; omega) _
  · rw [List.nodup_append]
    exact ⟨h.nodup, by simp, fun a ha b hb' => by
      simp only [List.mem_singleton] at hb'
      have := (h.low a ha).2; omega⟩
  · rw [World.size_setCell]
    rcases List.mem_append.1 hc with hc | hc
    · have := h.low c hc; have := hb.size; omega
    · simp only [List.mem_singleton] at hc; omega

theorem CopyK.below {w w1 : World} {B0 : Nat} {bs : List Nat} {rows : List Row1} {k : Nat} (h : CopyK w B0 bs rows k) (hb : Below w.heap.size w w1) : CopyK w1 B0 bs rows k :=
  ⟨h.len, h.outer.on hb, fun i c r h1 h2 => (h.inner i c r h1 h2).on hb, h.nodup, fun c hc => by have := h.low c hc; have := hb.size; omega⟩

theorem CopyK.done {w : World} {B0 : Nat} {bs : List Nat} {rows : List Row1} {k : Nat} (h : CopyK w B0 bs rows k) (hk : k = rows.length) : OwnRs valC 99 64 w B0 B0 bs rows [] := by
  subst hk
  refine ⟨h.len, h.outer.of (by rw [List.take_length, Nat.sub_self]; rfl), h.inner, h.nodup, fun c hc => ?_, Nat.le_refl _⟩
  have := h.low c hc; omega

end Go.Proofs.Ytcbfbgngkdiijaa

/-
  Contracts of the functions of tables.
-/
namespace Go.Proofs.Ytcbfbgngkdiijaa
open Go.RowKit Go.Qo
set_option linter.unusedVariables false
set_option linter.unusedSimpArgs false

theorem bfalse {r : Bool} {p : Prop} (hr : r = true ↔ p) (h : ¬ p) : r = false := by
  cases r
  · rfl
  · exact absurd (hr.1 rfl) h
theorem btrue {r : Bool} {p : Prop} (hr : r = true ↔ p) (h : p) : r = true := hr.2 h

/-- A table of the call's own. -/
def OwnTab (w : World) (B0 : Nat) (v : Value) (W : Int) (rows : List Row1) : Prop :=
  ∃ b bs, v = .agg #[.int .i64 W, .slice (some ⟨b, 0, none⟩) rows.length rows.length] ∧ OwnRs valC 99 64 w B0 b bs rows []

end Go.Proofs.Ytcbfbgngkdiijaa
