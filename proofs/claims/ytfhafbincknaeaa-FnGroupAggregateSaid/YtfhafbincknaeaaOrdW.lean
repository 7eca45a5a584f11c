/-
  Contracts of the functions of sort orders: which keys are valid; the comparison by keys.
-/
import Derived.Test.YtfhafbincknaeaaProg
import Derived.Test.YtfhafbincknaeaaRwt
import Derived.Test.YtfhafbincknaeaaKey
import Derived.Test.YtfhafbincknaeaaPln
namespace Go.Proofs.Ytfhafbincknaeaa
open Go.RowKit Go.Qo
set_option linter.unusedVariables false
set_option linter.unusedSimpArgs false

theorem shl_small (c : Int) (hc : 0 ≤ c) (h : c ≤ 60) : wrap64 (2 ^ min c.toNat 64) = ((2 ^ c.toNat : Nat) : Int) := by
  obtain ⟨n, rfl⟩ := Int.eq_ofNat_of_zero_le hc
  have hn : n ≤ 60 := by omega
  rw [Int.toNat_natCast, Nat.min_eq_left (by omega)]
  have h1 : (2 : Nat) ^ n ≤ 2 ^ 60 := Nat.pow_le_pow_right (by omega) hn
  have h2 : ((2 : Int) ^ n) = ((2 ^ n : Nat) : Int) := by simp
  rw [h2]
  have h3 : (2 : Nat) ^ 60 = 1152921504606846976 := by decide
  generalize (2 : Nat) ^ n = m at *
  exact IntWalk.wrap64_in _ ⟨by omega, by omega⟩

/-- What a call of validKeys says: exactly whether the keys are valid, where the width is at most 6. -/
def SaysKeys (W : Int) (keys : List Key) (w : World) (e : Ending) (w' : World) : Prop := ∃ r : Bool, e = .returned (.bool r) ∧ Below w.heap.size w w' ∧ (W ≤ 6 → (r = true ↔ KeysOk W keys))

end Go.Proofs.Ytfhafbincknaeaa
