/-
  Contracts: the states of expressions, as the reference computes them (truthStates, outcomes).
-/
import Derived.Test.YtcbfbgngkdiijaaProg
import Derived.Test.YtcbfbgngkdiijaaZnCbS
import Derived.Test.YtcbfbgngkdiijaaZnNuI
import Derived.Test.YtcbfbgngkdiijaaZnNuS
namespace Go.Proofs.Ytcbfbgngkdiijaa
open Go.RowKit Go.Qo
set_option linter.unusedVariables false
set_option linter.unusedSimpArgs false

/-- One pair of states more. -/
def stS (k : Int) (a b x y z : Nat) : Nat := if (has a x && has b y) = true then z ||| stV (combV k (valS x) (valS y)) else z
def rowS (k : Int) (a b x : Nat) (ys : List Nat) (z : Nat) : Nat := ys.foldl (fun z y => stS k a b x y z) z
def tblS (k : Int) (a b : Nat) (xs : List Nat) (z : Nat) : Nat := xs.foldl (fun z x => rowS k a b x [1, 2, 4] z) z
theorem tblS_cmb {k : Int} (hk : k = 8 ∨ k = 9) {a b : Nat} (ha : a < 8) (hb : b < 8) : tblS k a b [1, 2, 4] 0 = cmbS k a b := by
  have h8 : ∀ a b : Fin 8, tblS 8 a.1 b.1 [1, 2, 4] 0 = cmbS 8 a.1 b.1 := by decide +kernel
  have h9 : ∀ a b : Fin 8, tblS 9 a.1 b.1 [1, 2, 4] 0 = cmbS 9 a.1 b.1 := by decide +kernel
  rcases hk with rfl | rfl
  · exact h8 ⟨a, ha⟩ ⟨b, hb⟩
  · exact h9 ⟨a, ha⟩ ⟨b, hb⟩
theorem stS_lt {k : Int} {a b x y z : Nat} (h : z < 8) : stS k a b x y z < 8 := by
  unfold stS
  split
  · exact Nat.or_lt_two_pow (n := 3) h (stV_lt _)
  · exact h
theorem rowS_lt {k : Int} {a b x : Nat} : ∀ (ys : List Nat) (z : Nat), z < 8 → rowS k a b x ys z < 8
  | [], z, h => h
  | y :: ys, z, h => by unfold rowS; exact rowS_lt ys _ (stS_lt h)
theorem tblS_lt {k : Int} {a b : Nat} : ∀ (xs : List Nat) (z : Nat), z < 8 → tblS k a b xs z < 8
  | [], z, h => h
  | x :: xs, z, h => by unfold tblS; exact tblS_lt xs _ (rowS_lt _ _ h)
/-- The i-th of 1, 2, 4. -/
theorem p3 {i : Nat} (h : i < 3) : [1, 2, 4][i]? = some (2 ^ i) ∧ (2 ^ i = 1 ∨ 2 ^ i = 2 ∨ 2 ^ i = 4) := by
  have : i = 0 ∨ i = 1 ∨ i = 2 := by omega
  rcases this with rfl | rfl | rfl <;> decide
theorem valS_valid {x : Nat} : vValid (valS x) = true := by unfold valS; split; · rfl
                                                            · split <;> rfl
set_option maxRecDepth 20000 in
set_option maxHeartbeats 4000000 in
theorem truthStates_ok (k : Int) (a b : Nat) (w : World) (hk : k = 8 ∨ k = 9) (ha : a < 8) (hb : b < 8) :
    Calls Try.prog 59 #[.int .i64 k, .int .i64 a, .int .i64 b] w fun e w' => e = .returned (.int .i64 (cmbS k a b : Nat)) ∧ Below w.heap.size w w' := by
  have HR := Lib.hid (tblS_cmb hk ha hb)
  have HK := Lib.hid hk
  have hk39 : 3 ≤ k ∧ k ≤ 9 := by omega
  have HK39 := Lib.hid hk39
  clear hk hk39
  go_enter Try.func59, Try.ntmps59
  go_wp2
  go_loopg [7, 8] 3 (fun g zv xv wr => ∃ i x z : Nat, i ≤ 3 ∧ g = 3 - i ∧ x = 2 ^ i ∧ zv = .int .i64 z ∧ xv = .int .i64 x ∧ z = tblS k a b ([1, 2, 4].take i) 0 ∧ Below w.heap.size w wr)
  case atStart => exact ⟨0, 1, 0, by omega, by omega, rfl, rfl, rfl, rfl, Below.refl _ _⟩
  case round =>
    obtain ⟨i, x, z, hi, rfl, hx, rfl, rfl, hz, hb0⟩ := hrel
    have HX := Lib.hid hx
    have HZ := Lib.hid hz
    have HB := Lib.hid hb0
    have hz8 : z < 8 := by rw [hz]; exact tblS_lt _ _ (by omega)
    clear hz hb0
    by_cases hil : i < 3
    · obtain ⟨hg, hx3⟩ := p3 hil
      rw [← hx] at hx3 hg
      have HX3 := Lib.hid hx3
      have HG := Lib.hid hg
      have hx4 : (x : Int) ≤ 4 := by omega
      have hx1 : (1 : Int) ≤ (x : Int) := by omega
      clear hx hg hx3
      go_wp2
      go_loopg [7, 9] 3 (fun g zv yv wt => ∃ j y t : Nat, j ≤ 3 ∧ g = 3 - j ∧ y = 2 ^ j ∧ zv = .int .i64 t ∧ yv = .int .i64 y ∧ t = rowS k a b x ([1, 2, 4].take j) z ∧ Below w.heap.size w wt)
      case atStart => exact ⟨0, 1, z, by omega, by omega, rfl, rfl, rfl, rfl, HB.out⟩
      case round =>
        obtain ⟨j, y, t, hj, rfl, hy, rfl, rfl, ht, hb1⟩ := hrel
        have HY := Lib.hid hy
        have HT := Lib.hid ht
        have HB1 := Lib.hid hb1
        have ht8 : t < 8 := by rw [ht]; exact rowS_lt _ _ hz8
        clear ht hb1
        by_cases hjl : j < 3
        · obtain ⟨hg, hy3⟩ := p3 hjl
          rw [← hy] at hy3 hg
          have HY3 := Lib.hid hy3
          have hy4 : (y : Int) ≤ 4 := by omega
          have hy1 : (1 : Int) ≤ (y : Int) := by omega
          have HN := Lib.hid (show rowS k a b x ([1, 2, 4].take (j + 1)) z = stS k a b x y t by
            rw [List.take_add_one, hg, HT.out]
            unfold rowS
            rw [List.foldl_append]
            rfl)
          obtain ⟨A1, hA1⟩ : ∃ A1, a / x = A1 := ⟨_, rfl⟩
          obtain ⟨B1, hB1⟩ : ∃ B1, b / y = B1 := ⟨_, rfl⟩
          have hA1I : (a : Int) / (x : Int) = (A1 : Int) := by rw [← hA1]; exact (Int.natCast_ediv _ _).symm
          have hB1I : (b : Int) / (y : Int) = (B1 : Int) := by rw [← hB1]; exact (Int.natCast_ediv _ _).symm
          have hA17 : A1 ≤ 7 := by rw [← hA1]; exact Nat.le_trans (Nat.div_le_self _ _) (by omega)
          have hB17 : B1 ≤ 7 := by rw [← hB1]; exact Nat.le_trans (Nat.div_le_self _ _) (by omega)
          obtain ⟨qa, hqa⟩ : ∃ q, ((A1 : Int) % 2 == 1) = q := ⟨_, rfl⟩
          obtain ⟨qb, hqb⟩ : ∃ q, ((B1 : Int) % 2 == 1) = q := ⟨_, rfl⟩
          have HQA := Lib.hid (show has a x = qa by rw [← hqa]; unfold has; rw [hA1, Bool.eq_iff_iff, beq_iff_eq, beq_iff_eq]; omega)
          have HQB := Lib.hid (show has b y = qb by rw [← hqb]; unfold has; rw [hB1, Bool.eq_iff_iff, beq_iff_eq, beq_iff_eq]; omega)
          clear hA1 hB1
          clear hy hg hy3
          cases qa
          · go_wp2
            go_roundg (3 - (j + 1))
            case measure => omega
            case rel =>
              refine ⟨j + 1, 2 * y, t, by omega, rfl, by rw [HY.out, Nat.pow_succ]; omega, rfl, by go_num, ?_, HB1.out⟩
              rw [HN.out]
              unfold stS
              rw [HQA.out]
              rfl
          cases qb
          · go_wp2
            go_roundg (3 - (j + 1))
            case measure => omega
            case rel =>
              refine ⟨j + 1, 2 * y, t, by omega, rfl, by rw [HY.out, Nat.pow_succ]; omega, rfl, by go_num, ?_, HB1.out⟩
              rw [HN.out]
              unfold stS
              rw [HQA.out, HQB.out]
              rfl
          obtain ⟨s, hs⟩ : ∃ s, stV (combV k (valS x) (valS y)) = s := ⟨_, rfl⟩
          have hs8 : s < 8 := by rw [← hs]; exact stV_lt _
          have hor := bor_i64 t s (by omega) (by omega)
          have HS := Lib.hid hs
          clear hs
          go_wp2_with fail
          refine (valueOf_ok x _ HX3.out).mono ?_
          rintro e w3 ⟨rfl, hb3⟩
          have HB3 := Lib.hid (bch HB1.out hb3)
          clear hb3
          go_wp2_with fail
          refine (valueOf_ok y _ HY3.out).mono ?_
          rintro e w4 ⟨rfl, hb4⟩
          have HB4 := Lib.hid (bch HB3.out hb4)
          clear hb4
          go_wp2_with fail
          refine (specCombine_ok k (valS x) (valS y) _ HK39.out valS_valid valS_valid).mono ?_
          rintro e w5 ⟨rfl, hb5⟩
          have HB5 := Lib.hid (bch HB4.out hb5)
          clear hb5
          go_wp2_with fail
          refine (specStateOf_ok (combV k (valS x) (valS y)) _).mono ?_
          rw [HS.out]
          rintro e w6 ⟨rfl, hb6⟩
          have HB6 := Lib.hid (bch HB5.out hb6)
          clear hb6
          go_wp2
          go_roundg (3 - (j + 1))
          case measure => omega
          case rel =>
            refine ⟨j + 1, 2 * y, t ||| s, by omega, rfl, by rw [HY.out, Nat.pow_succ]; omega, rfl, by go_num, ?_, HB6.out⟩
            rw [HN.out]
            unfold stS
            rw [HQA.out, HQB.out, HS.out]
            rfl
        · have hj3 : j = 3 := by omega
          have hy8 : ¬ (y : Int) ≤ 4 := by rw [hy, hj3]; decide
          have HE := Lib.hid (show t = tblS k a b ([1, 2, 4].take (i + 1)) 0 by
            rw [List.take_add_one, HG.out, HT.out, hj3, HZ.out]
            unfold tblS
            rw [List.foldl_append]
            rfl)
          clear hy hj3
          go_wp2
          go_roundg (3 - (i + 1))
          case measure => omega
          case rel => exact ⟨i + 1, 2 * x, t, by omega, rfl, by rw [HX.out, Nat.pow_succ]; omega, rfl, by go_num, HE.out, HB1.out⟩
    · have hi3 : i = 3 := by omega
      have hx8 : ¬ (x : Int) ≤ 4 := by rw [hx, hi3]; decide
      have HE := Lib.hid (show z = cmbS k a b by rw [HZ.out, hi3, ← HR.out]; rfl)
      clear hx hi3
      go_wp2
      go_ret
      exact ⟨ret_int (by rw [HE.out]), HB.out⟩
end Go.Proofs.Ytcbfbgngkdiijaa
