/-
  Contracts: lists of numbers compared, marks of numbers still held; marks of tables.
-/
import Derived.Test.YtmhlpjfijpomkaaGreatDoorProg
import Derived.Test.YtmhlpjfijpomkaaGreatDoorPln
import Derived.Test.YtmhlpjfijpomkaaGreatDoorMark
import Derived.Test.YtmhlpjfijpomkaaGreatDoorVal
namespace Go.Proofs.YtmhlpjfijpomkaaGreatDoor
open Go.RowKit Go.Qo
set_option linter.unusedVariables false
set_option linter.unusedSimpArgs false

/-- 'flat_setI' (XMark), for seats that have no markIntS. -/
theorem flat_setI2 : ∀ (xs : List Int) (j : Nat) (y : Int), (xs.flatMap intC).set j (.int .i64 y) = (xs.set j y).flatMap intC
  | [], j, y => by simp
  | x :: xs, 0, y => by simp [intC]
  | x :: xs, j + 1, y => by
    have ih := flat_setI2 xs j y
    simpa [intC] using ih
theorem Ints.at_ {w : World} {B : Nat} {A : Option Addr} {xs : List Int} (h : Sl 1 intC w B A xs) {i : Nat} (hi : i < xs.length) : ∃ b off, A = some ⟨b, off, none⟩ ∧ b < B ∧ w.cell? ⟨b, off + i, none⟩ = some (.int .i64 xs[i]) := Sl.at1 (f := Value.int .i64) h hi

set_option maxHeartbeats 1000000 in
theorem eqIntS_ok (A A' : Option Addr) (c c' : Nat) (xs ys : List Int) (w : World) (hn : xs.length ≤ maxLen) (hn' : ys.length ≤ maxLen) (h : Sl 1 intC w w.heap.size A xs) (h' : Sl 1 intC w w.heap.size A' ys) :
    Calls Tryz.prog 10 #[.slice A xs.length c, .slice A' ys.length c'] w fun e w' => e = .returned (.bool (decide (xs = ys))) ∧ Below w.heap.size w w' := by
  unfold maxLen at hn hn'
  by_cases hl : xs.length = ys.length
  · have hl' := Lib.hid hl
    have hne : ((xs.length : Int) != (ys.length : Int)) = false := by simp [hl]
    clear hl
    go_enter Tryz.func10, Tryz.ntmps10
    go_wp2
    go_loopg [5] (xs.length) (fun g i wr => ∃ k : Nat, k ≤ xs.length ∧ g = xs.length - k ∧ i = .int .i64 k ∧ Below w.heap.size w wr ∧ xs.take k = ys.take k)
    case atStart => exact ⟨0, by omega, by omega, rfl, Below.refl _ _, rfl⟩
    case round =>
      obtain ⟨k, hk, rfl, rfl, hb, hp⟩ := hrel
      have Hp := Lib.hid hp
      clear hp
      by_cases hlt : k < xs.length
      · have hlt' : k < ys.length := by have := hl'.out; omega
        obtain ⟨b, off, rfl, hB, c1⟩ := Ints.at_ (h.below hb) hlt
        obtain ⟨b', off', rfl, hB', c1'⟩ := Ints.at_ (h'.below hb) hlt'
        have hx := Lib.hid (List.getElem?_eq_getElem hlt)
        have hy := Lib.hid (List.getElem?_eq_getElem hlt')
        generalize xs[k] = x at *
        generalize ys[k] = y at *
        by_cases hxy : x = y
        · subst hxy
          go_wp2
          go_quiet (fail)
          go_wp2
          go_roundg (xs.length - (k + 1))
          case measure => omega
          case rel => exact ⟨k + 1, by omega, rfl, by go_num, bdrewN hb _, take_eq_succ Hp.out hx.out hy.out⟩
        · have hxn : (x != y) = true := by simp [hxy]
          have HXY := Lib.hid hxy
          clear hxy
          go_wp2
          go_quiet (fail)
          go_wp2
          go_ret
          exact ⟨ret_bool (decide_eq_false (ne_of_at hx.out hy.out HXY.out)).symm, bdrewN hb _⟩
      · go_wp2
        go_ret
        exact ⟨ret_bool (decide_eq_true (eq_of_take Hp.out (by omega) (by have := hl'.out; omega))).symm, hb⟩
  · go_enter Tryz.func10, Tryz.ntmps10
    go_wp2
    go_ret
    exact ⟨ret_bool (decide_eq_false fun he => hl (by rw [he])).symm, Below.refl _ _⟩

set_option maxHeartbeats 1000000 in
theorem heldIntS_ok (A : Option Addr) (c n : Nat) (k : Int) (w : World) (hk0 : 0 ≤ k) (hk : k ≤ 1099511627776) (hn : n ≤ 1048576) (h : Sl 1 intC w w.heap.size A (markI k n)) :
    Calls Tryz.prog 36 #[.slice A n c, .int .i64 k] w fun e w' => e = .returned (.int .i64 (k + n)) ∧ w = w' := by
  have hml := markI_length k n
  go_enter Tryz.func36, Tryz.ntmps36
  go_wp2
  go_loopg [1, 5] n (fun g kv iv wr => ∃ (i : Nat) (kk : Int), i ≤ n ∧ g = n - i ∧ kk = k + i ∧ kv = .int .i64 kk ∧ iv = .int .i64 i ∧ w = wr)
  case atStart => exact ⟨0, k, by omega, by omega, by omega, rfl, rfl, rfl⟩
  case round =>
    obtain ⟨i, kk, hi, rfl, hkk, rfl, rfl, rfl⟩ := hrel
    have hkk0 : 0 ≤ kk := by omega
    have hkk1 : kk ≤ 1099513724928 := by omega
    have HK := Lib.hid hkk
    clear hkk
    by_cases hlt : i < n
    · obtain ⟨b, off, rfl, hB, c1⟩ := Ints.at_ h (i := i) (by omega)
      have hx : (markI k n)[i]'(by omega) = kk := by simp [markI, HK.out]
      rw [hx] at c1
      clear h hml hx
      go_wp2
      go_roundg (n - (i + 1))
      case measure => omega
      case rel => exact ⟨i + 1, kk + 1, by omega, rfl, by have := HK.out; omega, rfl, by go_num, rfl⟩
    · have HIE := Lib.hid (show i = n by omega)
      go_wp2
      go_ret
      exact ⟨ret_int (by rw [HK.out, HIE.out]), rfl⟩

end Go.Proofs.YtmhlpjfijpomkaaGreatDoor
