/-
  Contract: keepsAll of the reference.
-/
import Derived.Test.YtooeicfhciefoaaProg
import Derived.Test.YtooeicfhciefoaaPlS
import Derived.Test.YtooeicfhciefoaaDfD
namespace Go.Proofs.Ytooeicfhciefoaa
open Go.RowKit Go.Qo
set_option linter.unusedVariables false
set_option linter.unusedSimpArgs false

set_option maxRecDepth 20000 in
set_option maxHeartbeats 2000000 in
theorem keepsAll_ok (es : List Ex) (A : Option Addr) (c : Nat) (width : Int) (w : World) (R : Bool) (hn : es.length ≤ maxLen) (h : ExsIn w w.heap.size A es) (hw0 : 0 ≤ width) (hw6 : width ≤ 6) (hr : keepsB es width = R) :
    Calls Try.prog 60 #[.slice A es.length c, .int .i64 width] w fun e w' => e = .returned (.bool R) ∧ w = w' := by
  obtain ⟨m, rfl⟩ := Int.eq_ofNat_of_zero_le hw0
  have HR := Lib.hid hr
  have HX := Lib.hid h
  unfold maxLen at hn
  clear hr h
  go_enter Try.func60, Try.ntmps60
  go_wp2
  go_loopg [5] m (fun g cv wr => ∃ k : Nat, k ≤ m ∧ g = m - k ∧ cv = .int .i64 k ∧ w = wr ∧ ∀ j : Nat, j < k → colIn es j = true)
  case atStart => exact ⟨0, by omega, by omega, rfl, rfl, fun j hj => absurd hj (by omega)⟩
  case round =>
    obtain ⟨k, hk, rfl, rfl, rfl, hall⟩ := hrel
    have HA := Lib.hid hall
    clear hall
    by_cases hlt : k < m
    · have hkI : (k : Int) < (m : Int) := by omega
      go_wp2
      go_loopg [6, 7] es.length (fun g bv iv wr => ∃ i : Nat, i ≤ es.length ∧ g = es.length - i ∧ iv = .int .i64 i ∧ bv = .bool (colIn (es.take i) k) ∧ w = wr)
      case atStart => exact ⟨0, by omega, by omega, rfl, by simp [colIn], rfl⟩
      case round =>
        obtain ⟨i, hi, rfl, rfl, rfl, rfl⟩ := hrel
        by_cases hil : i < es.length
        · have hiI : (i : Int) < (es.length : Int) := by omega
          obtain ⟨b, o, g, rfl, hB, ⟨d0, d1, d2, d3, d4⟩, hg⟩ := HX.out.at_ hil
          obtain ⟨f1, f2, _⟩ := hg.flat
          have Hs := Lib.hid (show colIn (es.take (i + 1)) k = (colIn (es.take i) k || isCol es[i] k) by rw [List.take_add_one, List.getElem?_eq_getElem hil]; exact colIn_snoc _ _ _)
          rw [f1] at d0
          rw [f2] at d1
          have Hi : Hid (isCol es[i] k = (decide (es[i].kind = 1) && decide (es[i].col = k))) := Lib.hid rfl
          generalize es[i].kind = kd at *
          generalize es[i].col = cl at *
          generalize isCol es[i] k = ic at *
          obtain ⟨acc, hacc⟩ : ∃ acc, colIn (es.take i) k = acc := ⟨_, rfl⟩
          obtain ⟨acc', hacc'⟩ : ∃ acc, colIn (es.take (i + 1)) k = acc := ⟨_, rfl⟩
          rw [hacc, hacc'] at Hs
          rw [hacc]
          have Hacc := Lib.hid hacc'
          clear hacc hacc' hg f1 f2
          cases acc
          · by_cases hk1 : kd = 1
            · have hk1' : (kd == 1) = true := by simp [hk1]
              have Hk1 := Lib.hid hk1
              clear hk1
              by_cases hc1 : cl = k
              · have hc1' : (cl == (k : Int)) = true := by simp [hc1]
                have He := Lib.hid (show acc' = true by rw [Hs.out, Hi.out, Hk1.out, hc1]; simp)
                clear hc1
                go_wp2
                go_roundg (es.length - (i + 1))
                case measure => omega
                case rel => exact ⟨i + 1, by omega, rfl, by go_num, by rw [Hacc.out, He.out], rfl⟩
              · have hc1' : (cl == (k : Int)) = false := by simpa using hc1
                have He := Lib.hid (show acc' = false by rw [Hs.out, Hi.out]; simp [hc1])
                clear hc1
                go_wp2
                go_roundg (es.length - (i + 1))
                case measure => omega
                case rel => exact ⟨i + 1, by omega, rfl, by go_num, by rw [Hacc.out, He.out], rfl⟩
            · have hk1' : (kd == 1) = false := by simpa using hk1
              have He := Lib.hid (show acc' = false by rw [Hs.out, Hi.out]; simp [hk1])
              clear hk1
              go_wp2
              go_roundg (es.length - (i + 1))
              case measure => omega
              case rel => exact ⟨i + 1, by omega, rfl, by go_num, by rw [Hacc.out, He.out], rfl⟩
          · have He := Lib.hid (show acc' = true by rw [Hs.out]; simp)
            go_wp2
            go_roundg (es.length - (i + 1))
            case measure => omega
            case rel => exact ⟨i + 1, by omega, rfl, by go_num, by rw [Hacc.out, He.out], rfl⟩
        · have hiI : ¬ (i : Int) < (es.length : Int) := by omega
          have hte : es.take i = es := List.take_of_length_le (by omega)
          rw [hte]
          obtain ⟨q, hq⟩ : ∃ q, colIn es k = q := ⟨_, rfl⟩
          rw [hq]
          have Hq := Lib.hid hq
          clear hte hq
          cases q
          · have Hz := Lib.hid (show R = false by rw [← HR.out]; exact keepsB_no (j := k) hkI Hq.out)
            go_wp2
            go_ret
            exact ⟨ret_bool Hz.out.symm, rfl⟩
          · go_wp2
            go_roundg (m - (k + 1))
            case measure => omega
            case rel =>
              refine ⟨k + 1, by omega, rfl, by go_num, rfl, fun j hj => ?_⟩
              by_cases hjk : j < k
              · exact HA.out j hjk
              · have : j = k := by omega
                subst this
                exact Hq.out
    · have hkI : ¬ (k : Int) < (m : Int) := by omega
      have Hz := Lib.hid (show R = true by rw [← HR.out]; exact keepsB_yes fun j hj => HA.out j (by omega))
      go_wp2
      go_ret
      exact ⟨ret_bool Hz.out.symm, rfl⟩
end Go.Proofs.Ytooeicfhciefoaa
