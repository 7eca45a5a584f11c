/-
  Contracts of the functions that mark a result's memory and look whether the marks are still held: rows of values, numbers.
-/
import Derived.Test.YtmhlpjfijpomkaaGreatDoorProg
import Derived.Test.YtmhlpjfijpomkaaGreatDoorPln
namespace Go.Proofs.YtmhlpjfijpomkaaGreatDoor
open Go.RowKit Go.Qo
set_option linter.unusedVariables false
set_option linter.unusedSimpArgs false

def markV (k : Int) (n : Nat) : List Val := (List.range n).map fun (i : Nat) => (((k + 2 * i) % 3 == 0), k + 2 * i + 1)
theorem markV_length (k : Int) (n : Nat) : (markV k n).length = n := by simp [markV]
theorem markV_succ (k : Int) (n : Nat) : markV k (n + 1) = markV k n ++ [(((k + 2 * n) % 3 == 0), k + 2 * n + 1)] := by simp [markV, List.range_succ]
theorem set_mid {α : Type} (xs ys : List α) (y : α) (i : Nat) (hl : xs.length = i) (hi : i < ys.length) : (xs ++ ys.drop i).set i y = (xs ++ [y]) ++ ys.drop (i + 1) := by
  rw [List.set_append_right _ _ (by omega), hl, Nat.sub_self, List.drop_eq_getElem_cons hi, List.set_cons_zero, List.append_assoc, List.singleton_append]

/-- The block of a slice value, if it has one. -/
def OwnB (v : Value) : Nat → Prop := fun i => v.ownBlock = some i

def markI (k : Int) (n : Nat) : List Int := (List.range n).map fun (i : Nat) => k + i
theorem markI_length (k : Int) (n : Nat) : (markI k n).length = n := by simp [markI]
theorem markI_succ (k : Int) (n : Nat) : markI k (n + 1) = markI k n ++ [k + n] := by simp [markI, List.range_succ]
theorem flat_setI : ∀ (xs : List Int) (j : Nat) (y : Int), (xs.flatMap intC).set j (.int .i64 y) = (xs.set j y).flatMap intC
  | [], j, y => by simp
  | x :: xs, 0, y => by simp [intC]
  | x :: xs, j + 1, y => by
    have ih := flat_setI xs j y
    simpa [intC] using ih

set_option maxHeartbeats 1000000 in
theorem markIntS_ok (lo : Nat) (A : Option Addr) (c : Nat) (xs : List Int) (k : Int) (w : World) (hk0 : 0 ≤ k) (hk : k ≤ 1099511627776) (hn : xs.length ≤ 1048576) (h : Ow lo 3 1 intC w (.slice A xs.length c) xs) :
    Calls Tryz.prog 11 #[.slice A xs.length c, .int .i64 k] w fun e w' => e = .returned (.int .i64 (k + xs.length)) ∧ Ow lo 3 1 intC w' (.slice A xs.length c) (markI k xs.length) ∧ Only (OwnB (.slice A xs.length c)) w w' ∧ w'.heap.size = w.heap.size := by
  have HO := Lib.hid h
  clear h
  go_enter Tryz.func11, Tryz.ntmps11
  go_wp2
  go_loopg [1, 5] (xs.length) (fun g kv iv wr => ∃ (i : Nat) (kk : Int), i ≤ xs.length ∧ g = xs.length - i ∧ kk = k + i ∧ kv = .int .i64 kk ∧ iv = .int .i64 i ∧ wr.ownsRow lo 3 1 (.slice A xs.length c) xs.length ((markI k i ++ xs.drop i).flatMap intC) ∧ Only (OwnB (.slice A xs.length c)) w wr ∧ wr.heap.size = w.heap.size)
  case atStart => exact ⟨0, k, by omega, by omega, by omega, rfl, rfl, by have := HO.out; unfold Ow at this; simpa [markI] using this, Only.refl _, rfl⟩
  case round =>
    obtain ⟨i, kk, hi, rfl, hkk, rfl, rfl, how, hon, hsz⟩ := hrel
    have hkk0 : 0 ≤ kk := by omega
    have hkk1 : kk ≤ 1099513724928 := by omega
    have HK := Lib.hid hkk
    have HW := Lib.hid (And.intro how (And.intro hon hsz))
    clear hkk hsz hon
    by_cases hlt : i < xs.length
    · have hll : (markI k i ++ xs.drop i).length = xs.length := by rw [List.length_append, markI_length, List.length_drop]; omega
      have how' : Ow lo 3 1 intC wr (.slice A (markI k i ++ xs.drop i).length c) (markI k i ++ xs.drop i) := by unfold Ow; rw [hll]; exact how
      obtain ⟨g, rfl, _, hg, hgl, _, hf, hcs⟩ := how'.head intC_length (by omega)
      have hfl := flat_length 1 intC intC_length (markI k i ++ xs.drop i)
      obtain ⟨y1, hy1⟩ : ∃ y, ((markI k i ++ xs.drop i).flatMap intC)[i]? = some y := ⟨_, List.getElem?_eq_getElem (by omega)⟩
      have c0 := hcs _ _ hy1
      have f0 := hf i
      clear hcs hf hy1 hfl how how' hll
      go_wp2
      go_roundg (xs.length - (i + 1))
      case measure => omega
      case rel =>
        refine ⟨i + 1, kk + 1, by omega, rfl, by have := HK.out; omega, rfl, by go_num, ?_, ?_, ?_⟩
        · have h1 := (World.ownsRow.stored HW.out.1 i (.int .i64 kk)).1
          rw [flat_setI, set_mid _ _ _ i (markI_length k i) hlt] at h1
          rw [markI_succ, ← HK.out]
          exact h1
        · exact HW.out.2.1.set (p := ⟨g, i, none⟩) (.inl rfl) _
        · simpa [World.setCell] using HW.out.2.2
    · have hie : i = xs.length := by omega
      have HIE := Lib.hid hie
      go_wp2
      go_ret
      refine ⟨ret_int (by rw [HK.out, HIE.out]), ?_, HW.out.2.1, HW.out.2.2⟩
      have h1 := HW.out.1
      rw [HIE.out, List.drop_length, List.append_nil] at h1
      unfold Ow
      rw [markI_length]
      exact h1

end Go.Proofs.YtmhlpjfijpomkaaGreatDoor
