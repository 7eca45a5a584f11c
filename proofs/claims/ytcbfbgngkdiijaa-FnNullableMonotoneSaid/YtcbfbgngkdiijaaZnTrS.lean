/-
  Contracts: the reference's truths (truth, notTruth, andTruth, ofTruth, toInt).
-/
import Derived.Test.YtcbfbgngkdiijaaProg
import Derived.Test.YtcbfbgngkdiijaaZnPln
import Derived.Deep.CutBlock
namespace Go.Proofs.Ytcbfbgngkdiijaa
open Go.RowKit Go.Qo
set_option linter.unusedVariables false
set_option linter.unusedSimpArgs false

/-- The reference's truths: 0 false, 1 true, 2 unknown. -/
def trS (v : Val) : Int := if v.1 = true then 2 else if v.2 = 0 then 0 else 1
theorem trS_range (v : Val) : trS v = 0 ∨ trS v = 1 ∨ trS v = 2 := by
  unfold trS
  split
  · exact .inr (.inr rfl)
  · split
    · exact .inl rfl
    · exact .inr (.inl rfl)
def andT (a b : Int) : Int := if a = 0 ∨ b = 0 then 0 else if a = 1 ∧ b = 1 then 1 else 2
def notT (a : Int) : Int := if a = 2 then 2 else 1 - a
def ofT (a : Int) : Val := if a = 2 then (true, 0) else (false, a)

set_option maxHeartbeats 1000000 in
theorem specTruth_ok (v : Val) (w : World) : Calls Try.prog 86 #[.agg #[.bool v.1, .int .i64 v.2]] w fun e w' => e = .returned (.int .i64 (trS v)) ∧ Below w.heap.size w w' := by
  obtain ⟨nl, n⟩ := v
  obtain ⟨W1, hW1⟩ : ∃ z, w.alloc (.cells #[.bool nl, .int .i64 n] 64) = z := ⟨_, rfl⟩
  have B1 : Below w.heap.size w W1 := by rw [← hW1]; exact balloc (Below.refl _ _) _
  have r1 : Row W1 w.heap.size 64 [.bool nl, .int .i64 n] := by rw [← hW1]; exact Row.new _ _ _
  have c0 := r1.cell 0
  have c1 := r1.cell 1
  have HB1 := Lib.hid B1
  have HW1 := Lib.hid hW1
  clear B1 r1 hW1
  obtain ⟨R, hR⟩ : ∃ R, trS (nl, n) = R := ⟨_, rfl⟩
  rw [hR]
  cases nl with
  | true =>
    rw [show trS (true, n) = 2 from rfl] at hR
    subst hR
    go_enter Try.func86, Try.ntmps86
    go_upto_region 1 with fail
    rw [HW1.out]
    go_wp2
    go_ret
    exact ⟨rfl, HB1.out⟩
  | false =>
    by_cases h0 : n = 0
    · subst h0
      rw [show trS (false, 0) = 0 from rfl] at hR
      subst hR
      go_enter Try.func86, Try.ntmps86
      go_upto_region 1 with fail
      rw [HW1.out]
      go_wp2
      go_ret
      exact ⟨rfl, HB1.out⟩
    · rw [show trS (false, n) = 1 by unfold trS; rw [if_neg (show ¬ (false = true) by decide), if_neg h0]] at hR
      subst hR
      have hb : (n == 0) = false := by rw [beq_eq_false_iff_ne]; exact h0
      clear h0
      go_enter Try.func86, Try.ntmps86
      go_upto_region 1 with fail
      rw [HW1.out]
      go_wp2
      go_ret
      exact ⟨rfl, HB1.out⟩
set_option maxHeartbeats 1000000 in
theorem andTruth_ok (a b : Int) (w : World) (ha : a = 0 ∨ a = 1 ∨ a = 2) (hb : b = 0 ∨ b = 1 ∨ b = 2) : Calls Try.prog 85 #[.int .i64 a, .int .i64 b] w fun e w' => e = .returned (.int .i64 (andT a b)) ∧ w = w' := by
  rcases ha with rfl | rfl | rfl <;> rcases hb with rfl | rfl | rfl <;>
    (go_enter Try.func85, Try.ntmps85
     go_wp2
     go_ret
     exact ⟨rfl, rfl⟩)
theorem notTruth_ok (a : Int) (w : World) (ha : a = 0 ∨ a = 1 ∨ a = 2) : Calls Try.prog 87 #[.int .i64 a] w fun e w' => e = .returned (.int .i64 (notT a)) ∧ w = w' := by
  rcases ha with rfl | rfl | rfl <;>
    (go_enter Try.func87, Try.ntmps87
     go_wp2
     go_ret
     exact ⟨rfl, rfl⟩)
theorem toInt_ok (b : Bool) (w : World) : Calls Try.prog 89 #[.bool b] w fun e w' => e = .returned (.int .i64 (if b = true then 1 else 0)) ∧ w = w' := by
  cases b <;>
    (go_enter Try.func89, Try.ntmps89
     go_wp2
     go_ret
     exact ⟨rfl, rfl⟩)
set_option maxHeartbeats 1000000 in
theorem ofTruth_ok (a : Int) (w : World) (ha : a = 0 ∨ a = 1 ∨ a = 2) : Calls Try.prog 84 #[.int .i64 a] w fun e w' => e = .returned (.agg #[.bool (ofT a).1, .int .i64 (ofT a).2]) ∧ Below w.heap.size w w' := by
  rcases ha with rfl | rfl | rfl
  · go_enter Try.func84, Try.ntmps84
    go_wp2
    exact bodyPost_ret (v := .agg #[.bool false, .int .i64 0]) (by simp [results, Try.results84, go_sem]) rfl ⟨rfl, balloc (Below.refl _ _) _⟩
  · go_enter Try.func84, Try.ntmps84
    go_wp2
    exact bodyPost_ret (v := .agg #[.bool false, .int .i64 1]) (by simp [results, Try.results84, go_sem]) rfl ⟨rfl, balloc (Below.refl _ _) _⟩
  · go_enter Try.func84, Try.ntmps84
    go_wp2
    exact bodyPost_ret (v := .agg #[.bool true, .int .i64 0]) (by simp [results, Try.results84, go_sem]) rfl ⟨rfl, balloc (Below.refl _ _) _⟩
end Go.Proofs.Ytcbfbgngkdiijaa
