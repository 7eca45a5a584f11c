/-
  Contract of hasColumn: the program's.
-/
import Derived.Test.YtlhonhacehgooaaGreatProg
import Derived.Test.YtlhonhacehgooaaGreatZrRwt
namespace Go.Proofs.YtlhonhacehgooaaGreat
open Go.RowKit Go.Qo
set_option linter.unusedVariables false
set_option linter.unusedSimpArgs false

set_option maxHeartbeats 1000000 in
theorem hasColumn_ok (W col : Int) (A : Option Addr) (c : Nat) (rows : List Row1) (w : World) (hn : rows.length ≤ 1048576) (h : Rws w w.heap.size A rows) (r : Bool) (hr : r = true ↔ (TabOk W rows ∧ 0 ≤ col ∧ col < W)) :
    Calls Tryz.prog 72 #[.agg #[.int .i64 W, .slice A rows.length c], .int .i64 col] w fun e w' => e = .returned (.bool r) ∧ Below w.heap.size w w' := by
  have Hr := Lib.hid hr
  have B0 := Lib.hid (balloc (Below.refl w.heap.size w) (.cells #[.int .i64 W, .slice A rows.length c] 32))
  have R0 := Lib.hid ((Row.new w 32 #[.int .i64 W, .slice A rows.length c]))
  obtain ⟨t, ht⟩ : ∃ t : Bool, t = true ↔ TabOk W rows := ⟨_, @decide_eq_true_iff _ (Classical.propDecidable _)⟩
  have HT := Lib.hid (implValidTable_ok W A c rows _ (by unfold maxLen; omega) (h.on B0.out) t ht)
  have Ht := Lib.hid ht
  clear ht hr h
  cases t
  · have hf : r = false := bfalse Hr.out fun h => absurd (Ht.out.2 h.1) (by simp)
    subst hf
    go_enter Tryz.func72, Tryz.ntmps72
    go_wp2_with fail
    refine HT.out.mono ?_
    rintro e w1 ⟨rfl, hb1⟩
    go_wp2
    go_ret
    exact ⟨rfl, bch B0.out hb1⟩
  · have hto := Lib.hid (Ht.out.1 rfl)
    by_cases h1 : 0 ≤ col
    · obtain ⟨q, hq⟩ : ∃ q, decide (col < W) = q := ⟨_, rfl⟩
      have hrq : r = q := by
        cases q
        · exact bfalse Hr.out fun h => by have := of_decide_eq_false hq; exact this h.2.2
        · exact Hr.out.2 ⟨hto.out, h1, of_decide_eq_true hq⟩
      subst hrq
      go_enter Tryz.func72, Tryz.ntmps72
      go_wp2_with fail
      refine HT.out.mono ?_
      rintro e w1 ⟨rfl, hb1⟩
      have r1 := R0.out.on hb1
      have e0 : w1.cell? ⟨w.heap.size, 0, none⟩ = some (.int .i64 W) := r1.cell 0
      have H1 := Lib.hid hb1
      clear hb1 r1
      go_wp2
      go_ret
      exact ⟨rfl, bch B0.out H1.out⟩
    · have hf : r = false := bfalse Hr.out fun h => h1 h.2.1
      subst hf
      go_enter Tryz.func72, Tryz.ntmps72
      go_wp2_with fail
      refine HT.out.mono ?_
      rintro e w1 ⟨rfl, hb1⟩
      go_wp2
      go_ret
      exact ⟨rfl, bch B0.out hb1⟩
end Go.Proofs.YtlhonhacehgooaaGreat
