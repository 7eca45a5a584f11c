/-
  Contracts: a copy of a list of numbers, of expressions' cells, of plans' cells (the program's copied). (Printed by wip/cpd.py.)
-/
import Derived.Test.YtcbfbgngkdiijaaProg
import Derived.Test.YtcbfbgngkdiijaaCopy
import Derived.Test.YtcbfbgngkdiijaaExT
namespace Go.Proofs.Ytcbfbgngkdiijaa
open Go.RowKit Go.Qo
set_option linter.unusedVariables false
set_option linter.unusedSimpArgs false

theorem zeroIntC : (Try.prog.info? 3).map (fun i => (i.zero, i.size, i.bytes)) = some (some (.int .i64 0), 1, 8) := by kernel_rfl
set_option maxRecDepth 20000 in
set_option maxHeartbeats 1000000 in
theorem copiedI_ok (A : Option Addr) (c : Nat) (xs : List Int) (w : World) (hn : xs.length ≤ 1048576) (h : Sl 1 intC w w.heap.size A xs) :
    Calls Try.prog 42 #[.slice A xs.length c] w fun e w' => ∃ A' c', e = .returned (.slice A' xs.length c') ∧ Ow w.heap.size 3 1 intC w' (.slice A' xs.length c') xs ∧ (xs.length ≤ c' ∧ c' ≤ maxLen) ∧ Below w.heap.size w w' := by
  rcases Nat.eq_zero_or_pos xs.length with h0 | h0
  · have hx : xs = [] := List.eq_nil_of_length_eq_zero h0
    subst hx
    clear h
    go_enter Try.func42, Try.ntmps42
    go_wp2
    go_ret
    exact ⟨_, _, rfl, Ow.nil, ⟨Nat.le_refl _, by decide⟩, Below.refl _ _⟩
  · obtain ⟨b, off, rfl, hB, hc⟩ := h h0
    have hne : ((xs.length : Int) == 0) = false := by rw [beq_eq_false_iff_ne]; omega
    have hne2 : ¬ ((xs.length : Int) = 0) := by omega
    have hmk := run_make_rowN (P := Try.prog) 24 3 _ _ _ Try.underlying24 zeroIntC .i64 .i64 xs.length (by omega) (by omega)
    have hcp := run_copy_new (P := Try.prog) (w.alloc (.cells (madeCells #[.int .i64 0] (xs.length)) 3)) 24 24 3 3 w.heap.size xs.length xs.length 1 ⟨b, off, none⟩ c _ _ (xs.flatMap intC) Try.underlying24 (by kernel_rfl) (heap_alloc_new w _) (flat_length 1 intC intC_length xs) (slCells (by omega) intC_length (h.on (balloc (Below.refl _ _) _))) (by rw [flat_length 1 intC intC_length xs]; simp [madeCells]) (fun v hv => by obtain ⟨y, _, hy⟩ := List.mem_flatMap.1 hv; exact intC_one y v hy)
    have hrow : Row ((w.alloc (.cells (madeCells #[.int .i64 0] (xs.length)) 3)).setRow w.heap.size (xs.flatMap intC).toArray) w.heap.size 3 (xs.flatMap intC) := setRow_heap _ _ _ _ _ _ (heap_alloc_new w _)
    have hbel : Below w.heap.size w ((w.alloc (.cells (madeCells #[.int .i64 0] (xs.length)) 3)).setRow w.heap.size (xs.flatMap intC).toArray) := below_setRow (balloc (Below.refl _ _) _) (Nat.le_refl _) _
    have HR := Lib.hid (And.intro hrow hbel)
    clear h hc hrow hbel
    go_enter Try.func42, Try.ntmps42
    go_wp2
    go_ret
    exact ⟨_, _, rfl, ⟨flat_length 1 intC intC_length xs, .inr ⟨w.heap.size, xs.length, _, rfl, Nat.le_refl _, HR.out.1, Nat.le_refl _, by unfold maxLen; omega, by simp [flat_length 1 intC intC_length xs], by simp; rw [List.take_of_length_le (by rw [flat_length 1 intC intC_length xs]; omega)]⟩⟩, ⟨Nat.le_refl _, by unfold maxLen; omega⟩, HR.out.2⟩

theorem zeroExC : (Try.prog.info? 66).map (fun i => (i.zero, i.size, i.bytes)) = some (some (.agg #[.int .i64 0, .int .i64 0, .bool false, .int .i64 0, .slice none 0 0]), 5, 56) := by kernel_rfl
set_option maxRecDepth 20000 in
set_option maxHeartbeats 1000000 in
theorem copiedE_ok (A : Option Addr) (c : Nat) (xs : List FE) (w : World) (hn : xs.length ≤ 1048576) (h : Sl 5 feC w w.heap.size A xs) :
    Calls Try.prog 40 #[.slice A xs.length c] w fun e w' => ∃ A' c', e = .returned (.slice A' xs.length c') ∧ Ow w.heap.size 66 5 feC w' (.slice A' xs.length c') xs ∧ (xs.length ≤ c' ∧ c' ≤ maxLen) ∧ Below w.heap.size w w' := by
  rcases Nat.eq_zero_or_pos xs.length with h0 | h0
  · have hx : xs = [] := List.eq_nil_of_length_eq_zero h0
    subst hx
    clear h
    go_enter Try.func40, Try.ntmps40
    go_wp2
    go_ret
    exact ⟨_, _, rfl, Ow.nil, ⟨Nat.le_refl _, by decide⟩, Below.refl _ _⟩
  · obtain ⟨b, off, rfl, hB, hc⟩ := h h0
    have hne : ((xs.length : Int) == 0) = false := by rw [beq_eq_false_iff_ne]; omega
    have hne2 : ¬ ((xs.length : Int) = 0) := by omega
    have hmk := run_make_rowN (P := Try.prog) 23 66 _ _ _ Try.underlying23 zeroExC .i64 .i64 xs.length (by omega) (by omega)
    have hcp := run_copy_new (P := Try.prog) (w.alloc (.cells (madeCells #[.int .i64 0, .int .i64 0, .bool false, .int .i64 0, .slice none 0 0] (xs.length * 5)) 66)) 23 23 3 66 w.heap.size xs.length xs.length 5 ⟨b, off, none⟩ c _ _ (xs.flatMap feC) Try.underlying23 (by kernel_rfl) (heap_alloc_new w _) (flat_length 5 feC feC_length xs) (slCells (by omega) feC_length (h.on (balloc (Below.refl _ _) _))) (by rw [flat_length 5 feC feC_length xs]; simp [madeCells]) (fun v hv => by obtain ⟨y, _, hy⟩ := List.mem_flatMap.1 hv; exact feC_one y v hy)
    have hrow : Row ((w.alloc (.cells (madeCells #[.int .i64 0, .int .i64 0, .bool false, .int .i64 0, .slice none 0 0] (xs.length * 5)) 66)).setRow w.heap.size (xs.flatMap feC).toArray) w.heap.size 66 (xs.flatMap feC) := setRow_heap _ _ _ _ _ _ (heap_alloc_new w _)
    have hbel : Below w.heap.size w ((w.alloc (.cells (madeCells #[.int .i64 0, .int .i64 0, .bool false, .int .i64 0, .slice none 0 0] (xs.length * 5)) 66)).setRow w.heap.size (xs.flatMap feC).toArray) := below_setRow (balloc (Below.refl _ _) _) (Nat.le_refl _) _
    have HR := Lib.hid (And.intro hrow hbel)
    clear h hc hrow hbel
    go_enter Try.func40, Try.ntmps40
    go_wp2
    go_ret
    exact ⟨_, _, rfl, ⟨flat_length 5 feC feC_length xs, .inr ⟨w.heap.size, xs.length, _, rfl, Nat.le_refl _, HR.out.1, Nat.le_refl _, by unfold maxLen; omega, by simp [flat_length 5 feC feC_length xs], by simp; rw [List.take_of_length_le (by rw [flat_length 5 feC feC_length xs]; omega)]⟩⟩, ⟨Nat.le_refl _, by unfold maxLen; omega⟩, HR.out.2⟩

theorem zeroPlC : (Try.prog.info? 27).map (fun i => (i.zero, i.size, i.bytes)) = some (some (.agg #[.int .i64 0, .int .i64 0, .slice none 0 0, .slice none 0 0, .slice none 0 0]), 5, 88) := by kernel_rfl
set_option maxRecDepth 20000 in
set_option maxHeartbeats 1000000 in
theorem copiedP_ok (A : Option Addr) (c : Nat) (xs : List FP) (w : World) (hn : xs.length ≤ 1048576) (h : Sl 5 fpC w w.heap.size A xs) :
    Calls Try.prog 43 #[.slice A xs.length c] w fun e w' => ∃ A' c', e = .returned (.slice A' xs.length c') ∧ Ow w.heap.size 27 5 fpC w' (.slice A' xs.length c') xs ∧ (xs.length ≤ c' ∧ c' ≤ maxLen) ∧ Below w.heap.size w w' := by
  rcases Nat.eq_zero_or_pos xs.length with h0 | h0
  · have hx : xs = [] := List.eq_nil_of_length_eq_zero h0
    subst hx
    clear h
    go_enter Try.func43, Try.ntmps43
    go_wp2
    go_ret
    exact ⟨_, _, rfl, Ow.nil, ⟨Nat.le_refl _, by decide⟩, Below.refl _ _⟩
  · obtain ⟨b, off, rfl, hB, hc⟩ := h h0
    have hne : ((xs.length : Int) == 0) = false := by rw [beq_eq_false_iff_ne]; omega
    have hne2 : ¬ ((xs.length : Int) = 0) := by omega
    have hmk := run_make_rowN (P := Try.prog) 25 27 _ _ _ Try.underlying25 zeroPlC .i64 .i64 xs.length (by omega) (by omega)
    have hcp := run_copy_new (P := Try.prog) (w.alloc (.cells (madeCells #[.int .i64 0, .int .i64 0, .slice none 0 0, .slice none 0 0, .slice none 0 0] (xs.length * 5)) 27)) 25 25 3 27 w.heap.size xs.length xs.length 5 ⟨b, off, none⟩ c _ _ (xs.flatMap fpC) Try.underlying25 (by kernel_rfl) (heap_alloc_new w _) (flat_length 5 fpC fpC_length xs) (slCells (by omega) fpC_length (h.on (balloc (Below.refl _ _) _))) (by rw [flat_length 5 fpC fpC_length xs]; simp [madeCells]) (fun v hv => by obtain ⟨y, _, hy⟩ := List.mem_flatMap.1 hv; exact fpC_one y v hy)
    have hrow : Row ((w.alloc (.cells (madeCells #[.int .i64 0, .int .i64 0, .slice none 0 0, .slice none 0 0, .slice none 0 0] (xs.length * 5)) 27)).setRow w.heap.size (xs.flatMap fpC).toArray) w.heap.size 27 (xs.flatMap fpC) := setRow_heap _ _ _ _ _ _ (heap_alloc_new w _)
    have hbel : Below w.heap.size w ((w.alloc (.cells (madeCells #[.int .i64 0, .int .i64 0, .slice none 0 0, .slice none 0 0, .slice none 0 0] (xs.length * 5)) 27)).setRow w.heap.size (xs.flatMap fpC).toArray) := below_setRow (balloc (Below.refl _ _) _) (Nat.le_refl _) _
    have HR := Lib.hid (And.intro hrow hbel)
    clear h hc hrow hbel
    go_enter Try.func43, Try.ntmps43
    go_wp2
    go_ret
    exact ⟨_, _, rfl, ⟨flat_length 5 fpC fpC_length xs, .inr ⟨w.heap.size, xs.length, _, rfl, Nat.le_refl _, HR.out.1, Nat.le_refl _, by unfold maxLen; omega, by simp [flat_length 5 fpC fpC_length xs], by simp; rw [List.take_of_length_le (by rw [flat_length 5 fpC fpC_length xs]; omega)]⟩⟩, ⟨Nat.le_refl _, by unfold maxLen; omega⟩, HR.out.2⟩

end Go.Proofs.Ytcbfbgngkdiijaa
