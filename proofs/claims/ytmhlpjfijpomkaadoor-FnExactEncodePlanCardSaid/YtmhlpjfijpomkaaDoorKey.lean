/-
  Contracts of the functions of sort keys: laws' own copies, sizes and comparisons.
-/
import Derived.Test.YtmhlpjfijpomkaaDoorProg
import Derived.Test.YtmhlpjfijpomkaaDoorPln
namespace Go.Proofs.YtmhlpjfijpomkaaDoor
open Go.RowKit Go.Qo
set_option linter.unusedVariables false
set_option linter.unusedSimpArgs false

abbrev Key := Int × Bool
def keyC (k : Key) : List Value := [.int .i64 k.1, .bool k.2]

theorem Key.at_ {w : World} {B : Nat} {A : Option Addr} {xs : List Key} (h : Sl 2 keyC w B A xs) {i : Nat} (hi : i < xs.length) :
    ∃ b off, A = some ⟨b, off, none⟩ ∧ b < B ∧ w.cell? ⟨b, off + i * 2, none⟩ = some (.int .i64 xs[i].1) ∧ w.cell? ⟨b, off + i * 2 + 1, none⟩ = some (.bool xs[i].2) :=
  Sl.at2 (f := fun k : Key => .int .i64 k.1) (g := fun k : Key => .bool k.2) h hi

theorem keyC_length (k : Key) : (keyC k).length = 2 := rfl
end Go.Proofs.YtmhlpjfijpomkaaDoor
