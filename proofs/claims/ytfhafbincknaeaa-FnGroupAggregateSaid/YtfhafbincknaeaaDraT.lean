/-
  Contracts of the drawing of two tables.
-/
import Derived.Test.YtfhafbincknaeaaProg
import Derived.Test.YtfhafbincknaeaaAnyT
namespace Go.Proofs.Ytfhafbincknaeaa
open Go.RowKit Go.Qo
set_option linter.unusedVariables false
set_option linter.unusedSimpArgs false

/-- A drawn table's value v in w, its memory from lo on. -/
def DrTab (lo : Nat) (w : World) (W : Int) (v : Value) (svs : List SV) (rows : List Row1) : Prop :=
  W ≤ 16 ∧ rows.length ≤ 16 ∧ (∀ r ∈ rows, r.length ≤ 16) ∧ Ow lo 42 1 svC w v svs ∧ RowsT 44 2 valC lo w svs rows
theorem DrTab.low {lo lo' : Nat} {w : World} {W : Int} {v : Value} {svs : List SV} {rows : List Row1} (h : DrTab lo w W v svs rows) (hl : lo' ≤ lo) : DrTab lo' w W v svs rows := ⟨h.1, h.2.1, h.2.2.1, h.2.2.2.1.low hl, h.2.2.2.2.low hl⟩
theorem DrTab.on {lo : Nat} {w w' : World} {W : Int} {v : Value} {svs : List SV} {rows : List Row1} (h : DrTab lo w W v svs rows) (hb : Below w.heap.size w w') : DrTab lo w' W v svs rows := ⟨h.1, h.2.1, h.2.2.1, h.2.2.2.1.on hb, h.2.2.2.2.on hb⟩
theorem DrTab.only {lo : Nat} {w w' : World} {S : Nat → Prop} {W : Int} {v : Value} {svs : List SV} {rows : List Row1} (h : DrTab lo w W v svs rows) (hb : Only S w w') (hS : ∀ k, S k → k < lo ∨ TyAt w k 29) : DrTab lo w' W v svs rows :=
  ⟨h.1, h.2.1, h.2.2.1, h.2.2.2.1.only hb fun k hk => (hS k hk).imp id fun ht => ⟨_, by decide, ht⟩, h.2.2.2.2.only hb fun k hk => (hS k hk).imp id fun ht => ⟨_, by decide, ht⟩⟩
theorem DrTab.sl {lo : Nat} {w : World} {W : Int} {A : Option Addr} {n c : Nat} {svs : List SV} {rows : List Row1} (h : DrTab lo w W (.slice A n c) svs rows) : Sl 1 svC w w.heap.size A svs := by
  obtain ⟨A2, c2, e, _, _, h2⟩ := h.2.2.2.1.shape svC_length
  injection e with e1 e2 e3
  subst e1
  exact h2.sl
/-- Two drawn tables. -/
def TwoTab (b p : Nat) (w : World) (e : Ending) (w' : World) : Prop :=
  ∃ (W1 : Int) (v1 : Value) (svs1 : List SV) (rows1 : List Row1) (W2 : Int) (v2 : Value) (svs2 : List SV) (rows2 : List Row1), e = .returned (.tuple #[.agg #[.int .i64 W1, v1], .agg #[.int .i64 W2, v2]]) ∧
    DrTab w.heap.size w' W1 v1 svs1 rows1 ∧ DrTab w.heap.size w' W2 v2 svs2 rows2 ∧ But b w w' ∧ Rd w' b p
/-- Two drawn tables, all memory the call's own. -/
def DrawnTT (w : World) (W1 : Int) (v1 : Value) (W2 : Int) (v2 : Value) (w' : World) : Prop :=
  ∃ (svs1 : List SV) (rows1 : List Row1) (svs2 : List SV) (rows2 : List Row1), DrTab 0 w' W1 v1 svs1 rows1 ∧ DrTab 0 w' W2 v2 svs2 rows2 ∧ Below w.heap.size w w'



end Go.Proofs.Ytfhafbincknaeaa
