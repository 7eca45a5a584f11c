/-
  Contracts: a copy of a list of numbers, marks in it.
-/
import Derived.Test.YtmhlpjfijpomkaaDoorProg
import Derived.Test.YtmhlpjfijpomkaaDoorKey
import Derived.Test.YtmhlpjfijpomkaaDoorPln
import Derived.Test.YtmhlpjfijpomkaaDoorInts
namespace Go.Proofs.YtmhlpjfijpomkaaDoor
open Go.RowKit Go.Qo
set_option linter.unusedVariables false
set_option linter.unusedSimpArgs false

theorem zeroIntT : (Tryd.prog.info? 3).map (fun i => (i.zero, i.size, i.bytes)) = some (some (.int .i64 0), 1, 8) := by kernel_rfl

set_option maxHeartbeats 400000 in
theorem toIntS_ok (A : Option Addr) (c : Nat) (xs : List Int) (w : World) (hn : xs.length ≤ 1048576) (h : Sl 1 intC w w.heap.size A xs) :
    Calls Tryd.prog 15 #[.slice A xs.length c] w fun e w' => e = .returned (.slice (some ⟨w.heap.size, 0, none⟩) xs.length xs.length) ∧ Below w.heap.size w w' ∧ Row w' w.heap.size 3 (xs.flatMap intC) := by
  have hmk := run_make_rowN (P := Tryd.prog) 36 3 _ _ _ Tryd.underlying36 zeroIntT .i64 .i64 xs.length (by omega) (by omega)
  go_enter Tryd.func15, Tryd.ntmps15
  go_wp2
  go_loopg [4] (xs.length) (fun g i wr => ∃ k : Nat, k ≤ xs.length ∧ g = xs.length - k ∧ i = .int .i64 k ∧ Below w.heap.size w wr ∧ Row wr w.heap.size 3 (filled intC [.int .i64 0] xs k))
  case atStart =>
    exact ⟨0, by omega, by omega, rfl, balloc (Below.refl _ _) _, (Row.new _ _ _).of (by have h1 := (made_zeros [Value.int .i64 0] xs.length).trans (filled_zero intC [Value.int .i64 0] xs).symm; rw [show xs.length * [Value.int .i64 0].length = xs.length from Nat.mul_one _] at h1; exact h1)⟩
  case round =>
    obtain ⟨k, hk, rfl, rfl, hb, hrow⟩ := hrel
    by_cases hlt : k < xs.length
    · obtain ⟨b, off, rfl, hB, c1⟩ := Ints.at_ (h.below hb) hlt
      have hx := Lib.hid (List.getElem?_eq_getElem hlt)
      generalize xs[k] = x at *
      have Hrow := Lib.hid hrow
      have hlen := filled_length 1 intC intC_length [.int .i64 0] rfl xs hk
      obtain ⟨v1, hv1⟩ : ∃ v, (filled intC [.int .i64 0] xs k)[k]? = some v := ⟨_, List.getElem?_eq_getElem (by omega)⟩
      have e1 : wr.cell? ⟨w.heap.size, k, none⟩ = some v1 := (hrow.cell k).trans hv1
      have e3 := hrow.frozen k
      have hbl := hrow.lt
      have Hb := Lib.hid hb
      clear hrow hlen hv1 hb
      go_wp2
      go_roundg (xs.length - (k + 1))
      case measure => omega
      case rel =>
        exact ⟨k + 1, by omega, rfl, by go_num, Hb.out.setCell (p := ⟨_, _, none⟩) (Nat.le_refl _) _,
          (Hrow.out.set _ _).of (by have := filled_next 1 intC intC_length [.int .i64 0] rfl xs hx.out; simpa [over, intC] using this)⟩
    · go_wp2
      go_ret
      exact ⟨rfl, hb, hrow.of (filled_all _ _ _ (by omega))⟩

end Go.Proofs.YtmhlpjfijpomkaaDoor
