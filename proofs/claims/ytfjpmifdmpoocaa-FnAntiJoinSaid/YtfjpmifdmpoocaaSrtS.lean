/-
  Contracts of copyRow, sortRows, SortRows: the reference's.
-/
import Derived.Test.YtfjpmifdmpoocaaProg
import Derived.Test.YtfjpmifdmpoocaaGen
import Derived.Test.YtfjpmifdmpoocaaRow
import Derived.Test.YtfjpmifdmpoocaaTab
namespace Go.Proofs.Ytfjpmifdmpoocaa
open Go.RowKit Go.Qo
set_option linter.unusedVariables false
set_option linter.unusedSimpArgs false

/-- A row of the call's own. -/
def OneRow (xs : List Val) (w : World) (e : Ending) (w' : World) : Prop := ∃ v, e = .returned v ∧ Ow w.heap.size 46 2 valC w' v xs ∧ Below w.heap.size w w'

set_option maxHeartbeats 400000 in
theorem copyRow_ok (A : Option Addr) (c : Nat) (xs : List Val) (w : World) (hn : xs.length ≤ 1048576) (h : Sl 2 valC w w.heap.size A xs) :
    Calls Try.prog 100 #[.slice A xs.length c] w (OneRow xs w) := by
  have HO := Lib.hid (Ow.lit (w := w) (lo := w.heap.size) (e := 46) (enc := valC) (xs := ([] : List Val)) (cs := #[]) (sz := 2) rfl rfl (Nat.le_refl _) (by decide))
  have HS := Lib.hid (h.on (balloc (Below.refl _ _) (.cells #[] 46)))
  have hsz : w.heap.size ≤ (w.alloc (.cells #[] 46)).heap.size := by simp
  clear h
  go_enter Try.func100, Try.ntmps100
  go_wp2_with (at_builtin; refine wpList_app rfl (.tmp 3) (.tmp 4) 40 rfl w.heap.size 46 _ 2 16 valC Try.underlying40 zeroVal rfl (by decide) (by decide) valC_length valC_one _ [] rfl HO.out A _ c xs rfl rfl HS.out (by simp; omega) hsz ?_; intro v' w' hown hgr)
  go_ret
  exact ⟨_, rfl, hown, (balloc (Below.refl _ _) _).grown hgr hsz fun k hk => (HO.out.ty k hk).1⟩

/-- Rows of the call's own, in a slice of the call's own. -/
def SomeRows (rows : List Row1) (w : World) (e : Ending) (w' : World) : Prop :=
  ∃ (v : Value) (svs : List SV), e = .returned v ∧ Ow w.heap.size 40 1 svC w' v svs ∧ RowsT 46 2 valC w.heap.size w' svs rows ∧ Below w.heap.size w w'

end Go.Proofs.Ytfjpmifdmpoocaa
