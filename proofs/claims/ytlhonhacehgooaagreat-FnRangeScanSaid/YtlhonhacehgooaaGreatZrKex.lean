import Derived.Test.YtlhonhacehgooaaGreatProg
import Derived.Test.YtlhonhacehgooaaGreatZrPln
import Derived.Test.YtlhonhacehgooaaGreatZrRwt
/-
  Contracts of the functions of sort keys: laws' own copies, sizes and comparisons.
-/
namespace Go.Proofs.YtlhonhacehgooaaGreat
open Go.RowKit Go.Qo
set_option linter.unusedVariables false
set_option linter.unusedSimpArgs false

abbrev Key := Int × Bool
def keyC (k : Key) : List Value := [.int .i64 k.1, .bool k.2]

theorem Key.at_ {w : World} {B : Nat} {A : Option Addr} {xs : List Key} (h : Sl 2 keyC w B A xs) {i : Nat} (hi : i < xs.length) :
    ∃ b off, A = some ⟨b, off, none⟩ ∧ b < B ∧ w.cell? ⟨b, off + i * 2, none⟩ = some (.int .i64 xs[i].1) ∧ w.cell? ⟨b, off + i * 2 + 1, none⟩ = some (.bool xs[i].2) :=
  Sl.at2 (f := fun k : Key => .int .i64 k.1) (g := fun k : Key => .bool k.2) h hi

end Go.Proofs.YtlhonhacehgooaaGreat

/-
  Contracts of the functions of sort orders: which keys are valid; the comparison by keys.
-/
namespace Go.Proofs.YtlhonhacehgooaaGreat
open Go.RowKit Go.Qo
set_option linter.unusedVariables false
set_option linter.unusedSimpArgs false

end Go.Proofs.YtlhonhacehgooaaGreat

/-
  Contracts of the comparison closures: a key's, 'then', the one by all keys.
-/
namespace Go.Proofs.YtlhonhacehgooaaGreat
open Go.RowKit Go.Qo
set_option linter.unusedVariables false
set_option linter.unusedSimpArgs false

/-- A call of function f is entered. -/
def Callable (f : FuncId) : Prop := ∀ (args : Array Value) (w : World), (callFunc f args).run Tryz.prog w = .ok (.enter f args) w
theorem callable_of {f : FuncId} {fn : Func} (h : Tryz.prog.funcs[f]? = some fn) (hn : (fn.name == "runtime.NumGoroutine") = false) (hb : fn.body.isNone = false) : Callable f := by
  intro args w
  simp [callFunc, go_sem, h, hn, hb]
  rw [if_neg (by simpa using hn), if_neg (by intro h0; rw [h0] at hb; simp at hb)]
/-- A function value that compares valid rows of width W by cmp, in w and later. -/
def IsCmp (w : World) (v : Value) (W : Int) (cmp : Row1 → Row1 → Int) : Prop :=
  ∃ (f : FuncId) (cap : Array Value), v = .func (.func f) #[] cap ∧ Callable f ∧ ∀ z : World, Below w.heap.size w z → ∀ (A A' : Option Addr) (c c' : Nat) (a b : Row1), RowOk W a → RowOk W b → Sl 2 valC z z.heap.size A a → Sl 2 valC z z.heap.size A' b →
    Calls Tryz.prog f (#[.slice A a.length c, .slice A' b.length c'] ++ cap) z fun e w' => e = .returned (.int .i64 (cmp a b)) ∧ Below z.heap.size z w'
theorem IsCmp.on {w w1 : World} {v : Value} {W : Int} {cmp : Row1 → Row1 → Int} (h : IsCmp w v W cmp) (hb : Below w.heap.size w w1) : IsCmp w1 v W cmp := by
  obtain ⟨f, cap, hv, hf, hc⟩ := h
  exact ⟨f, cap, hv, hf, fun z hz => hc z (bch hb hz)⟩

end Go.Proofs.YtlhonhacehgooaaGreat

/-
  Contracts of IsSorted: the library's IsSortedFunc, the reference's and the program's.
-/
namespace Go.Proofs.YtlhonhacehgooaaGreat
open Go.RowKit Go.Qo
set_option linter.unusedVariables false
set_option linter.unusedSimpArgs false

end Go.Proofs.YtlhonhacehgooaaGreat

/-
  Contracts of IsSorted: the reference's and the program's. Both say IsSortedP.
-/
namespace Go.Proofs.YtlhonhacehgooaaGreat
open Go.RowKit Go.Qo
set_option linter.unusedVariables false
set_option linter.unusedSimpArgs false

/-- What the first loop of the reference has seen of k rows. -/
def SrtUpto (keys : List Key) (rows : List Row1) (k : Nat) : Prop :=
  ∀ (i : Nat) (r r0 : Row1), i < k → rows[i]? = some r → rows[0]? = some r0 → rowValid r = true ∧ (r.length : Int) = r0.length ∧ KeysOk r0.length keys
theorem SrtUpto.next {keys : List Key} {rows : List Row1} {k : Nat} {x r0 : Row1} (h : SrtUpto keys rows k) (hx : rows[k]? = some x) (h0 : rows[0]? = some r0) (hv : rowValid x = true) (hl : (x.length : Int) = r0.length) (hk : KeysOk r0.length keys) : SrtUpto keys rows (k + 1) := by
  intro i r r' hi hr hr0
  rw [h0] at hr0; cases hr0
  rcases Nat.lt_succ_iff_lt_or_eq.1 hi with h3 | rfl
  · exact h i r _ h3 hr h0
  · rw [hx] at hr; cases hr; exact ⟨hv, hl, hk⟩
theorem SrtUpto.all {keys : List Key} {rows : List Row1} {k : Nat} (h : SrtUpto keys rows k) (hk : rows.length ≤ k) {r0 : Row1} (h0 : rows[0]? = some r0) : AllRows r0.length rows ∧ KeysOk r0.length keys := by
  refine ⟨fun r hr => ?_, ?_⟩
  · obtain ⟨i, hi, rfl⟩ := List.getElem_of_mem hr
    have := h i _ r0 (by omega) (List.getElem?_eq_getElem hi) h0
    exact ⟨this.1, this.2.1⟩
  · have hl := (List.getElem?_eq_some_iff.1 h0).1
    exact (h 0 r0 r0 (by omega) h0 h0).2.2
end Go.Proofs.YtlhonhacehgooaaGreat
