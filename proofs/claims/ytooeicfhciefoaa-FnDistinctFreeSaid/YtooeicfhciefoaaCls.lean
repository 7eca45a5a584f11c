/-
  Contract: the column of a column expression as a bit.
-/
import Derived.Test.YtooeicfhciefoaaProg
import Derived.Test.YtooeicfhciefoaaPlI
namespace Go.Proofs.Ytooeicfhciefoaa
open Go.RowKit Go.Qo
set_option linter.unusedVariables false
set_option linter.unusedSimpArgs false

set_option maxRecDepth 20000 in
set_option maxHeartbeats 2000000 in
theorem columns_ok (f : FE) (b o c : Nat) (w : World) (hb : b < w.heap.size) (hat : FeAt w b o f) (hk : f.kind = 1) (hc : f.col = c) (hc6 : c < 6) :
    Calls Try.prog 59 #[.pointer (some ⟨b, o, none⟩)] w fun e w' => e = .returned (.int .i64 ((2 ^ c : Nat) : Int)) ∧ w = w' := by
  obtain ⟨b0, b1, b2, b3, b4⟩ := hat
  rw [hk] at b0
  rw [hc] at b1
  have h6 : c = 0 ∨ c = 1 ∨ c = 2 ∨ c = 3 ∨ c = 4 ∨ c = 5 := by omega
  rcases h6 with rfl | rfl | rfl | rfl | rfl | rfl
  all_goals
    go_enter Try.func59, Try.ntmps59
    go_wp2
    go_ret
    exact ⟨rfl, rfl⟩
end Go.Proofs.Ytooeicfhciefoaa
