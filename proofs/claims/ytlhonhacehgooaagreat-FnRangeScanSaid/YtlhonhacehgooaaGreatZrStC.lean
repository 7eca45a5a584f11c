/-
  Contract of slices.SortStableFunc at rows, however many.
-/
import Derived.Test.YtlhonhacehgooaaGreatProg
import Derived.Test.YtlhonhacehgooaaGreatZrStx
import Derived.Test.YtlhonhacehgooaaGreatZrRsx
namespace Go.Proofs.YtlhonhacehgooaaGreat
open Go.RowKit Go.Qo
set_option linter.unusedVariables false

theorem sortStableR_ok {α : Type} (sv : α → SV) (cmp : α → α → Int) (S : α → Prop) (C : Cm cmp S) (lo g n c : Nat) (xs : List α) (v : Value) (w : World) (hx : xs.length = n) (hn : n ≤ 1048576) (hS : ∀ x ∈ xs, S x)
    (hv : IsCmpG (svCell sv) cmp S w (.slice (some ⟨g, 0, none⟩) n c) v) (h : OwL (svCell sv) lo g n c w xs) :
    Calls Tryz.prog 128 #[.slice (some ⟨g, 0, none⟩) n c, v] w fun e w' => e = .returned (.tuple #[]) ∧ OwL (svCell sv) lo g n c w' (gSort cmp xs) ∧ Only (fun i => i = g) w w' :=
  Rs.sortStable_ok sv cmp S C lo g n c xs v w hx hn hS hv h
end Go.Proofs.YtlhonhacehgooaaGreat
