/-
  Contracts of the comparison closures: a key's, 'then', the one by all keys.
-/
import Derived.Test.YtlhonhacehgooaaGreatProg
import Derived.Test.YtlhonhacehgooaaGreatZgOrdW
import Derived.Test.YtlhonhacehgooaaGreatZgPln
namespace Go.Proofs.YtlhonhacehgooaaGreat
open Go.RowKit Go.Qo
set_option linter.unusedVariables false
set_option linter.unusedSimpArgs false

/-- A call of function f is entered. -/
def Callable (f : FuncId) : Prop := ∀ (args : Array Value) (w : World), (callFunc f args).run Tryz.prog w = .ok (.enter f args) w
theorem callable_of {f : FuncId} {fn : Func} (h : Tryz.prog.funcs[f]? = some fn) (hn : (fn.name == "runtime.NumGoroutine") = false) (hb : fn.body.isNone = false) : Callable f := by
  intro args w
  simp [callFunc, go_sem, h, hn, hb]
  rw [if_neg (by simpa using hn), if_neg (by intro h0; rw [h0] at hb; simp at hb)]
/-- A function value that compares valid rows of width W by cmp, in w and later. -/
def IsCmp (w : World) (v : Value) (W : Int) (cmp : Row1 → Row1 → Int) : Prop :=
  ∃ (f : FuncId) (cap : Array Value), v = .func (.func f) #[] cap ∧ Callable f ∧ ∀ z : World, Below w.heap.size w z → ∀ (A A' : Option Addr) (c c' : Nat) (a b : Row1), RowOk W a → RowOk W b → Sl 2 valC z z.heap.size A a → Sl 2 valC z z.heap.size A' b →
    Calls Tryz.prog f (#[.slice A a.length c, .slice A' b.length c'] ++ cap) z fun e w' => e = .returned (.int .i64 (cmp a b)) ∧ Below z.heap.size z w'
theorem IsCmp.on {w w1 : World} {v : Value} {W : Int} {cmp : Row1 → Row1 → Int} (h : IsCmp w v W cmp) (hb : Below w.heap.size w w1) : IsCmp w1 v W cmp := by
  obtain ⟨f, cap, hv, hf, hc⟩ := h
  exact ⟨f, cap, hv, hf, fun z hz => hc z (bch hb hz)⟩

end Go.Proofs.YtlhonhacehgooaaGreat
