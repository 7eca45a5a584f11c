/-
  Marks in a list of sort keys.
-/
import Derived.Test.YtldndapcbgaliaaProg
import Derived.Test.YtldndapcbgaliaaKey
import Derived.Test.YtldndapcbgaliaaPln
namespace Go.Proofs.Ytldndapcbgaliaa
open Go.RowKit Go.Qo
set_option linter.unusedVariables false
set_option linter.unusedSimpArgs false

set_option maxHeartbeats 1000000 in
theorem markSortKeyS_ok (b n c : Nat) (cs : List Value) (k : Int) (w : World) (hk0 : 0 ≤ k) (hk : k ≤ 4398046511104) (hn : n ≤ 1048576) (h : Row w b 109 cs) (hl : cs.length = n * 2) :
    Calls Try.prog 43 #[.slice (some ⟨b, 0, none⟩) n c, .int .i64 k] w fun e w' => e = .returned (.int .i64 (k + 2 * n)) ∧ Only (fun i => i = b) w w' := by
  have HO := Lib.hid (And.intro h hl)
  clear h hl
  go_enter Try.func43, Try.ntmps43
  go_wp2
  go_loopg [1, 5] n (fun g kv iv wr => ∃ (i : Nat) (kk : Int) (cs' : List Value), i ≤ n ∧ g = n - i ∧ kk = k + 2 * i ∧ kv = .int .i64 kk ∧ iv = .int .i64 i ∧ Row wr b 109 cs' ∧ cs'.length = n * 2 ∧ Only (fun i => i = b) w wr)
  case atStart => exact ⟨0, k, cs, by omega, by omega, by omega, rfl, rfl, HO.out.1, HO.out.2, Only.refl _⟩
  case round =>
    obtain ⟨i, kk, cs', hi, rfl, hkk, rfl, rfl, hr, hl', hon⟩ := hrel
    have HR := Lib.hid (And.intro hr (And.intro hl' (And.intro hon hkk)))
    have hkb : 0 ≤ kk ∧ kk ≤ 4398046511104 + 2097152 := by omega
    obtain ⟨hkb0, hkb1⟩ := hkb
    by_cases hlt : i < n
    · have l0 : i * 2 < cs'.length := by omega
      have l1 : i * 2 + 1 < cs'.length := by omega
      have c0 : wr.cell? ⟨b, i * 2, none⟩ = some cs'[i * 2] := (hr.cell (i * 2)).trans (List.getElem?_eq_getElem l0)
      have c1 : wr.cell? ⟨b, i * 2 + 1, none⟩ = some cs'[i * 2 + 1] := (hr.cell (i * 2 + 1)).trans (List.getElem?_eq_getElem l1)
      have f0 := hr.frozen (i * 2)
      have f1 := hr.frozen (i * 2 + 1)
      have hbl := hr.lt
      have hlt5 : (i : Int) < (n : Int) := by omega
      generalize cs'[i * 2] = u0 at *
      generalize cs'[i * 2 + 1] = u1 at *
      have hk1 : IntKind.i64.wrap (kk + 1) = kk + 1 := IntWalk.i64_in _ (by omega)
      have hk2 : IntKind.i64.wrap (kk + 1 + 1) = kk + 2 := by rw [IntWalk.i64_in _ (by omega)]; omega
      clear hr hl' hon hkk l0 l1
      go_wp2
      go_roundg (n - (i + 1))
      case measure => omega
      case rel =>
        exact ⟨i + 1, kk + 2, _, by omega, rfl, by have := HR.out.2.2.2; omega, congrArg (Value.int .i64) (by omega), by go_num, (HR.out.1.set (i * 2) _).set (i * 2 + 1) _, by rw [List.length_set, List.length_set]; exact HR.out.2.1, (HR.out.2.2.1.set (p := ⟨b, i * 2, none⟩) (.inl rfl) _).set (p := ⟨b, i * 2 + 1, none⟩) (.inl rfl) _⟩
    · obtain rfl : i = n := by omega
      go_wp2
      go_ret
      exact ⟨ret_int HR.out.2.2.2, HR.out.2.2.1⟩
end Go.Proofs.Ytldndapcbgaliaa
