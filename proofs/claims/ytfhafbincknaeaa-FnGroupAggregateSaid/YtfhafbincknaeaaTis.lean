/-
  Contracts: a copy of a list of numbers, marks in it.
-/
import Derived.Test.YtfhafbincknaeaaProg
import Derived.Test.YtfhafbincknaeaaKey
import Derived.Test.YtfhafbincknaeaaPln
import Derived.Test.YtfhafbincknaeaaInts
namespace Go.Proofs.Ytfhafbincknaeaa
open Go.RowKit Go.Qo
set_option linter.unusedVariables false
set_option linter.unusedSimpArgs false

theorem zeroIntT : (Try.prog.info? 3).map (fun i => (i.zero, i.size, i.bytes)) = some (some (.int .i64 0), 1, 8) := by kernel_rfl

set_option maxHeartbeats 400000 in
theorem toIntS_ok (A : Option Addr) (c : Nat) (xs : List Int) (w : World) (hn : xs.length ≤ 1048576) (h : Sl 1 intC w w.heap.size A xs) :
    Calls Try.prog 8 #[.slice A xs.length c] w fun e w' => e = .returned (.slice (some ⟨w.heap.size, 0, none⟩) xs.length xs.length) ∧ Below w.heap.size w w' ∧ Row w' w.heap.size 3 (xs.flatMap intC) := by
  have hmk := run_make_rowN (P := Try.prog) 25 3 _ _ _ Try.underlying25 zeroIntT .i64 .i64 xs.length (by omega) (by omega)
  go_enter Try.func8, Try.ntmps8
  go_wp2
  go_loopg [4] (xs.length) (fun g i wr => ∃ k : Nat, k ≤ xs.length ∧ g = xs.length - k ∧ i = .int .i64 k ∧ Below w.heap.size w wr ∧ Row wr w.heap.size 3 (filled intC [.int .i64 0] xs k))
  case atStart =>
    exact ⟨0, by omega, by omega, rfl, balloc (Below.refl _ _) _, (Row.new _ _ _).of (by have h1 := (made_zeros [Value.int .i64 0] xs.length).trans (filled_zero intC [Value.int .i64 0] xs).symm; rw [show xs.length * [Value.int .i64 0].length = xs.length from Nat.mul_one _] at h1; exact h1)⟩
  case round =>
    obtain ⟨k, hk, rfl, rfl, hb, hrow⟩ := hrel
    by_cases hlt : k < xs.length
    · obtain ⟨b, off, rfl, hB, c1⟩ := Ints.at_ (h.below hb) hlt
      have hx := Lib.hid (List.getElem?_eq_getElem hlt)
      generalize xs[k] = x at *
      have Hrow := Lib.hid hrow
      have hlen := filled_length 1 intC intC_length [.int .i64 0] rfl xs hk
      obtain ⟨v1, hv1⟩ : ∃ v, (filled intC [.int .i64 0] xs k)[k]? = some v := ⟨_, List.getElem?_eq_getElem (by omega)⟩
      have e1 : wr.cell? ⟨w.heap.size, k, none⟩ = some v1 := (hrow.cell k).trans hv1
      have e3 := hrow.frozen k
      have hbl := hrow.lt
      have Hb := Lib.hid hb
      clear hrow hlen hv1 hb
      go_wp2
      go_roundg (xs.length - (k + 1))
      case measure => omega
      case rel =>
        exact ⟨k + 1, by omega, rfl, by go_num, Hb.out.setCell (p := ⟨_, _, none⟩) (Nat.le_refl _) _,
          (Hrow.out.set _ _).of (by have := filled_next 1 intC intC_length [.int .i64 0] rfl xs hx.out; simpa [over, intC] using this)⟩
    · go_wp2
      go_ret
      exact ⟨rfl, hb, hrow.of (filled_all _ _ _ (by omega))⟩

set_option maxHeartbeats 1000000 in
theorem markIntS2_ok (b n c : Nat) (cs : List Value) (k : Int) (w : World) (hk0 : 0 ≤ k) (hk : k ≤ 4398046511104) (hn : n ≤ 1048576) (h : Row w b 3 cs) (hl : cs.length = n) :
    Calls Try.prog 13 #[.slice (some ⟨b, 0, none⟩) n c, .int .i64 k] w fun e w' => e = .returned (.int .i64 (k + n)) ∧ Only (fun i => i = b) w w' := by
  have HO := Lib.hid (And.intro h hl)
  clear h hl
  go_enter Try.func13, Try.ntmps13
  go_wp2
  go_loopg [1, 5] n (fun g kv iv wr => ∃ (i : Nat) (kk : Int) (cs' : List Value), i ≤ n ∧ g = n - i ∧ kk = k + i ∧ kv = .int .i64 kk ∧ iv = .int .i64 i ∧ Row wr b 3 cs' ∧ cs'.length = n ∧ Only (fun i => i = b) w wr)
  case atStart => exact ⟨0, k, cs, by omega, by omega, by omega, rfl, rfl, HO.out.1, HO.out.2, Only.refl _⟩
  case round =>
    obtain ⟨i, kk, cs', hi, rfl, hkk, rfl, rfl, hr, hl', hon⟩ := hrel
    have HR := Lib.hid (And.intro hr (And.intro hl' (And.intro hon hkk)))
    have hkb : 0 ≤ kk ∧ kk ≤ 4398046511104 + 2097152 := by omega
    obtain ⟨hkb0, hkb1⟩ := hkb
    by_cases hlt : i < n
    · have l0 : i < cs'.length := by omega
      have c0 : wr.cell? ⟨b, i, none⟩ = some cs'[i] := (hr.cell i).trans (List.getElem?_eq_getElem l0)
      have f0 := hr.frozen i
      have hbl := hr.lt
      have hlt5 : (i : Int) < (n : Int) := by omega
      generalize cs'[i] = u0 at *
      have hk1 : IntKind.i64.wrap (kk + 1) = kk + 1 := IntWalk.i64_in _ (by omega)
      clear hr hl' hon hkk l0
      go_wp2
      go_roundg (n - (i + 1))
      case measure => omega
      case rel =>
        exact ⟨i + 1, kk + 1, _, by omega, rfl, by have := HR.out.2.2.2; omega, rfl, by go_num, HR.out.1.set i _, by rw [List.length_set]; exact HR.out.2.1, HR.out.2.2.1.set (p := ⟨b, i, none⟩) (.inl rfl) _⟩
    · obtain rfl : i = n := by omega
      go_wp2
      go_ret
      exact ⟨ret_int HR.out.2.2.2, HR.out.2.2.1⟩
end Go.Proofs.Ytfhafbincknaeaa
