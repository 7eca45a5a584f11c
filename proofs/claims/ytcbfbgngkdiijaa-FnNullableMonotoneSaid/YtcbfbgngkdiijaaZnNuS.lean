/-
  Contract: the states of columns (the program's statesOf).
-/
import Derived.Test.YtcbfbgngkdiijaaProg
import Derived.Test.YtcbfbgngkdiijaaZnNuD
import Derived.Test.YtcbfbgngkdiijaaZnGa
import Derived.Test.YtcbfbgngkdiijaaZnTis
namespace Go.Proofs.Ytcbfbgngkdiijaa
open Go.RowKit Go.Qo
set_option linter.unusedVariables false
set_option linter.unusedSimpArgs false

/-- The states of columns, as numbers. -/
def stsI (l : List Bool) : List Int := l.map fun b => if b = true then 7 else 3
theorem stsI_len (l : List Bool) : (stsI l).length = l.length := by simp [stsI]
set_option maxHeartbeats 1000000 in
theorem implStatesOf_ok (A : Option Addr) (c : Nat) (xs : List Bool) (w : World) (hn : xs.length ≤ 1048576) (h : Sl 1 boolC w w.heap.size A xs) :
    Calls Try.prog 34 #[.slice A xs.length c] w fun e w' => e = .returned (.slice (some ⟨w.heap.size, 0, none⟩) xs.length xs.length) ∧ Below w.heap.size w w' ∧ Row w' w.heap.size 3 ((stsI xs).flatMap intC) := by
  have hmk := run_make_rowN (P := Try.prog) 24 3 _ _ _ Try.underlying24 zeroIntT .i64 .i64 xs.length (by omega) (by omega)
  have hyl := stsI_len xs
  go_enter Try.func34, Try.ntmps34
  go_wp2
  go_loopg [10] (xs.length) (fun g i wr => ∃ k : Nat, k ≤ xs.length ∧ g = xs.length - k ∧ i = .int .i64 k ∧ Below w.heap.size w wr ∧ Row wr w.heap.size 3 (filled intC [.int .i64 0] (stsI xs) k))
  case atStart =>
    exact ⟨0, by omega, by omega, rfl, balloc (Below.refl _ _) _, (Row.new _ _ _).of (by have h1 := (made_zeros [Value.int .i64 0] (stsI xs).length).trans (filled_zero intC [Value.int .i64 0] (stsI xs)).symm; rw [hyl, show xs.length * [Value.int .i64 0].length = xs.length from Nat.mul_one _] at h1; exact h1)⟩
  case round =>
    obtain ⟨k, hk, rfl, rfl, hb, hrow⟩ := hrel
    by_cases hlt : k < xs.length
    · obtain ⟨b, off, rfl, hB, c1⟩ := Sl.at1 (f := fun x : Bool => Value.bool x) (h.below hb) hlt
      have hy : (stsI xs)[k]? = some (if xs[k] = true then 7 else 3) := by unfold stsI; rw [List.getElem?_map, List.getElem?_eq_getElem hlt]; rfl
      have Hy := Lib.hid hy
      generalize xs[k] = x at *
      have Hrow := Lib.hid hrow
      have hlen := filled_length 1 intC intC_length [.int .i64 0] rfl (stsI xs) (k := k) (by omega)
      obtain ⟨v1, hv1⟩ : ∃ v, (filled intC [.int .i64 0] (stsI xs) k)[k]? = some v := ⟨_, List.getElem?_eq_getElem (by omega)⟩
      have e1 : wr.cell? ⟨w.heap.size, k, none⟩ = some v1 := (hrow.cell k).trans hv1
      have e3 := hrow.frozen k
      have hbl := hrow.lt
      have hne : b ≠ w.heap.size := by omega
      have Hb := Lib.hid hb
      clear hrow hlen hv1 hb hy
      cases x
      · go_wp2
        go_roundg (xs.length - (k + 1))
        case measure => omega
        case rel =>
          exact ⟨k + 1, by omega, rfl, by go_num, Hb.out.setCell (p := ⟨_, _, none⟩) (Nat.le_refl _) _,
            (Hrow.out.set _ _).of (by have := filled_next 1 intC intC_length [.int .i64 0] rfl (stsI xs) Hy.out; simpa [over, intC] using this)⟩
      · go_wp2
        go_roundg (xs.length - (k + 1))
        case measure => omega
        case rel =>
          exact ⟨k + 1, by omega, rfl, by go_num, (Hb.out.setCell (p := ⟨_, _, none⟩) (Nat.le_refl _) _).setCell (p := ⟨_, _, none⟩) (Nat.le_refl _) _,
            ((Hrow.out.set _ _).set _ _).of (by have := filled_next 1 intC intC_length [.int .i64 0] rfl (stsI xs) Hy.out; simpa [over, intC] using this)⟩
    · go_wp2
      go_ret
      exact ⟨rfl, hb, hrow.of (filled_all _ _ _ (by omega))⟩
end Go.Proofs.Ytcbfbgngkdiijaa
