import Derived.Test.YtcbfbgngkdiijaaGreatProg
import Derived.Test.YtcbfbgngkdiijaaGreatZcPln
import Derived.Test.YtcbfbgngkdiijaaGreatZcRwt
import Derived.Test.YtcbfbgngkdiijaaGreatZcCol
namespace Go.Proofs.YtcbfbgngkdiijaaGreat
open Go.RowKit Go.Qo
set_option linter.unusedVariables false
set_option linter.unusedSimpArgs false

abbrev Key := Int × Bool
def keyC (k : Key) : List Value := [.int .i64 k.1, .bool k.2]

theorem Key.at_ {w : World} {B : Nat} {A : Option Addr} {xs : List Key} (h : Sl 2 keyC w B A xs) {i : Nat} (hi : i < xs.length) :
    ∃ b off, A = some ⟨b, off, none⟩ ∧ b < B ∧ w.cell? ⟨b, off + i * 2, none⟩ = some (.int .i64 xs[i].1) ∧ w.cell? ⟨b, off + i * 2 + 1, none⟩ = some (.bool xs[i].2) :=
  Sl.at2 (f := fun k : Key => .int .i64 k.1) (g := fun k : Key => .bool k.2) h hi

end Go.Proofs.YtcbfbgngkdiijaaGreat

namespace Go.Proofs.YtcbfbgngkdiijaaGreat
open Go.RowKit Go.Qo
set_option linter.unusedVariables false
set_option linter.unusedSimpArgs false

end Go.Proofs.YtcbfbgngkdiijaaGreat

namespace Go.Proofs.YtcbfbgngkdiijaaGreat
open Go.RowKit Go.Qo
set_option linter.unusedVariables false
set_option linter.unusedSimpArgs false

def Callable (f : FuncId) : Prop := ∀ (args : Array Value) (w : World), (callFunc f args).run Tryz.prog w = .ok (.enter f args) w
theorem callable_of {f : FuncId} {fn : Func} (h : Tryz.prog.funcs[f]? = some fn) (hn : (fn.name == "runtime.NumGoroutine") = false) (hb : fn.body.isNone = false) : Callable f := by
  intro args w
  simp [callFunc, go_sem, h, hn, hb]
  rw [if_neg (by simpa using hn), if_neg (by intro h0; rw [h0] at hb; simp at hb)]
def IsCmp (w : World) (v : Value) (W : Int) (cmp : Row1 → Row1 → Int) : Prop :=
  ∃ (f : FuncId) (cap : Array Value), v = .func (.func f) #[] cap ∧ Callable f ∧ ∀ z : World, Below w.heap.size w z → ∀ (A A' : Option Addr) (c c' : Nat) (a b : Row1), RowOk W a → RowOk W b → Sl 2 valC z z.heap.size A a → Sl 2 valC z z.heap.size A' b →
    Calls Tryz.prog f (#[.slice A a.length c, .slice A' b.length c'] ++ cap) z fun e w' => e = .returned (.int .i64 (cmp a b)) ∧ Below z.heap.size z w'
theorem IsCmp.on {w w1 : World} {v : Value} {W : Int} {cmp : Row1 → Row1 → Int} (h : IsCmp w v W cmp) (hb : Below w.heap.size w w1) : IsCmp w1 v W cmp := by
  obtain ⟨f, cap, hv, hf, hc⟩ := h
  exact ⟨f, cap, hv, hf, fun z hz => hc z (bch hb hz)⟩

end Go.Proofs.YtcbfbgngkdiijaaGreat

namespace Go.Proofs.YtcbfbgngkdiijaaGreat
open Go.RowKit Go.Qo
set_option linter.unusedVariables false
set_option linter.unusedSimpArgs false

end Go.Proofs.YtcbfbgngkdiijaaGreat

namespace Go.Qo
open Go.RowKit
set_option linter.unusedVariables false
set_option linter.unusedSimpArgs false

def numV (n : Int) : Val := if -9999 ≤ n ∧ n ≤ 9999 then (false, n) else (true, 0)
def lowS (a v : Val) : Val := if v.1 then a else if a.1 || decide (v.2 < a.2) then v else a
def highS (a v : Val) : Val := if v.1 then a else if a.1 || decide (a.2 < v.2) then v else a
def nnN (xs : List Val) : Nat := xs.countP (fun v => !v.1)
def sumN (xs : List Val) : Int := (xs.map fun v => v.2).sum
def lowN (xs : List Val) : Val := xs.foldl lowS (true, 0)
def highN (xs : List Val) : Val := xs.foldl highS (true, 0)
def aggF (k : Int) (xs : List Val) : Val :=
  if k = 1 then numV xs.length else if k = 2 then numV (nnN xs) else if k = 3 then (if nnN xs = 0 then (true, 0) else numV (sumN xs)) else if k = 4 then lowN xs else highN xs
theorem vValid_range {v : Val} (h : vValid v = true) : -9999 ≤ v.2 ∧ v.2 ≤ 9999 := by
  obtain ⟨a, b⟩ := v
  unfold vValid at h
  cases a <;> simp_all
theorem numV_valid (n : Int) : vValid (numV n) = true := by
  unfold numV
  split
  · rename_i h; simp [vValid, h.1, h.2]
  · rfl
theorem numV_in {n : Int} (h1 : -9999 ≤ n) (h2 : n ≤ 9999) : numV n = (false, n) := by unfold numV; rw [if_pos ⟨h1, h2⟩]
@[simp] theorem nnN_nil : nnN [] = 0 := rfl
@[simp] theorem sumN_nil : sumN [] = 0 := rfl
@[simp] theorem lowN_nil : lowN [] = (true, 0) := rfl
@[simp] theorem highN_nil : highN [] = (true, 0) := rfl
theorem lowS_valid {a v : Val} (ha : vValid a = true) (hv : vValid v = true) : vValid (lowS a v) = true := by
  unfold lowS
  split
  · exact ha
  · split
    · exact hv
    · exact ha
theorem highS_valid {a v : Val} (ha : vValid a = true) (hv : vValid v = true) : vValid (highS a v) = true := by
  unfold highS
  split
  · exact ha
  · split
    · exact hv
    · exact ha
theorem foldLow_valid : ∀ (xs : List Val) (a : Val), vValid a = true → (∀ v ∈ xs, vValid v = true) → vValid (xs.foldl lowS a) = true
  | [], a, ha, _ => ha
  | x :: xs, a, ha, h => foldLow_valid xs _ (lowS_valid ha (h x (by simp))) fun v hv => h v (by simp [hv])
theorem foldHigh_valid : ∀ (xs : List Val) (a : Val), vValid a = true → (∀ v ∈ xs, vValid v = true) → vValid (xs.foldl highS a) = true
  | [], a, ha, _ => ha
  | x :: xs, a, ha, h => foldHigh_valid xs _ (highS_valid ha (h x (by simp))) fun v hv => h v (by simp [hv])
theorem lowN_valid {xs : List Val} (h : ∀ v ∈ xs, vValid v = true) : vValid (lowN xs) = true := foldLow_valid xs _ rfl h
theorem highN_valid {xs : List Val} (h : ∀ v ∈ xs, vValid v = true) : vValid (highN xs) = true := foldHigh_valid xs _ rfl h
theorem aggF_valid {k : Int} {xs : List Val} (h : ∀ v ∈ xs, vValid v = true) : vValid (aggF k xs) = true := by
  unfold aggF
  split; · exact numV_valid _
  split; · exact numV_valid _
  split
  · split; · rfl
    exact numV_valid _
  split; · exact lowN_valid h
  exact highN_valid h
end Go.Qo
