/-
  Lists of tables as literals, and the program's tables as sorted rows.
-/
import Derived.Test.YtlhonhacehgooaaGreatProg
import Derived.Test.YtlhonhacehgooaaGreatZrEvr
import Derived.Test.YtlhonhacehgooaaGreatZrGeg
import Derived.Test.YtlhonhacehgooaaGreatZrMkg
namespace Go.Proofs.YtlhonhacehgooaaGreat
open Go.RowKit Go.Qo
set_option linter.unusedVariables false
set_option linter.unusedSimpArgs false

theorem db_lit1 {w : World} {W : Int} {A : Option Addr} {c : Nat} {rows : List Row1} (h : Rws w w.heap.size A rows) (h1 : rows.length ≤ c) (h2 : c ≤ maxLen) (t : TypeId) {w' : World} (hw : w.alloc (.cells #[.int .i64 W, .slice A rows.length c] t) = w') :
    DbIn w' w'.heap.size (some ⟨w.heap.size, 0, none⟩) [(W, rows)] := by
  have hb : Below w.heap.size w w' := by rw [← hw]; exact balloc (Below.refl _ _) _
  have hr : Row w' w.heap.size t (ftC ⟨W, A, rows.length, c⟩) := by rw [← hw]; exact Row.new _ _ _
  refine ⟨[⟨W, A, rows.length, c⟩], rfl, (Row.slS (S := fun _ => True) (t := t) (enc := ftC) ftC_length (hr.of (by simp)) trivial).sl, fun i f t hf ht => ?_⟩
  cases i with
  | zero => simp at hf ht; subst hf ht; exact ⟨rfl, ⟨rfl, h1, h2⟩, h.on hb⟩
  | succ i => simp at hf
theorem scan_t {S : Nat → Prop} {w : World} (t : Int) : PlT S w ⟨1, t, ⟨none, 0, 0⟩, ⟨none, 0, 0⟩, ⟨none, 0, 0⟩⟩ (.mk 1 t [] [] []) :=
  PlT.make (ps := []) SVok.nil SVok.nil SVok.nil ExsT.nil SlS.nil ⟨[], rfl, SlS.nil, fun i g x h _ => by simp at h⟩
end Go.Proofs.YtlhonhacehgooaaGreat
