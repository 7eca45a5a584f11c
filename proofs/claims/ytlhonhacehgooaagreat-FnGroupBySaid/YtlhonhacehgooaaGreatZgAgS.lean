/-
  Contracts of the aggregates: the reference's.
-/
import Derived.Test.YtlhonhacehgooaaGreatProg
import Derived.Test.YtlhonhacehgooaaGreatZgAgD
import Derived.Test.YtlhonhacehgooaaGreatZgPln
import Derived.Test.YtlhonhacehgooaaGreatZgVal
namespace Go.Proofs.YtlhonhacehgooaaGreat
open Go.RowKit Go.Qo
set_option linter.unusedVariables false
set_option linter.unusedSimpArgs false

def vAgg (v : Val) : Value := .agg #[.bool v.1, .int .i64 v.2]
set_option maxHeartbeats 400000 in
theorem specNumber_ok (n : Int) (w : World) : Calls Tryz.prog 172 #[.int .i64 n] w fun e w' => e = .returned (vAgg (numV n)) ∧ Below w.heap.size w w' := by
  obtain ⟨r, hr⟩ : ∃ r, (decide (-9999 ≤ n) && decide (n ≤ 9999)) = r := ⟨_, rfl⟩
  have c1 := Lib.hid (fun w => inRange_ok n (-9999) 9999 w r hr)
  cases r
  · have e : numV n = (true, 0) := by unfold numV; rw [if_neg (by simpa using hr)]
    rw [e]
    clear e hr
    go_enter Tryz.func172, Tryz.ntmps172
    go_wp2_with fail
    refine (c1.out _).mono ?_; rintro e w' ⟨rfl, rfl⟩
    go_wp2
    exact bodyPost_ret (v := .agg #[.bool true, .int .i64 0]) (by simp [results, Tryz.results172, go_sem]) rfl ⟨rfl, balloc (Below.refl _ _) _⟩
  · have e : numV n = (false, n) := by unfold numV; rw [if_pos (by simpa using hr)]
    rw [e]
    clear e hr
    go_enter Tryz.func172, Tryz.ntmps172
    go_wp2_with fail
    refine (c1.out _).mono ?_; rintro e w' ⟨rfl, rfl⟩
    go_wp2
    exact bodyPost_ret (v := .agg #[.bool false, .int .i64 n]) (by simp [results, Tryz.results172, go_sem]) rfl ⟨rfl, balloc (Below.refl _ _) _⟩

theorem row_put {w : World} {b : Nat} {t : TypeId} {a a' : Value} (h : Row w b t [a, a']) (v : Val) : Row ((w.setCell ⟨b, 0, none⟩ (.bool v.1)).setCell ⟨b, 1, none⟩ (.int .i64 v.2)) b t (valC v) := ((h.set 0 _).set 1 _).of rfl
theorem row_far2 {w : World} {b b2 : Nat} {t : TypeId} {cs : List Value} (h : Row w b t cs) (hne : b ≠ b2) (u u' : Value) : Row ((w.setCell ⟨b2, 0, none⟩ u).setCell ⟨b2, 1, none⟩ u') b t cs := (h.far hne _).far hne _
theorem below_put {B b : Nat} {a z : World} (h : Below B a z) (hb : B ≤ b) (u u' : Value) : Below B a ((z.setCell ⟨b, 0, none⟩ u).setCell ⟨b, 1, none⟩ u') := (h.setCell hb _).setCell hb _
set_option maxRecDepth 20000 in
set_option maxHeartbeats 1000000 in
theorem specAggregate1_ok (A : Option Addr) (c : Nat) (xs : List Val) (k : Int) (w : World) (hn : xs.length ≤ 1048576) (hv : ∀ x ∈ xs, vValid x = true) (h : Sl 2 valC w w.heap.size A xs) :
    Calls Tryz.prog 133 #[.slice A xs.length c, .int .i64 k] w fun e w' => e = .returned (vAgg (aggF k xs)) ∧ Below w.heap.size w w' := by
  have HV := Lib.hid hv
  clear hv
  go_enter Tryz.func133, Tryz.ntmps133
  go_wp2
  go_loopg [5, 6, 9] xs.length (fun g nv sv iv wr => ∃ i : Nat, i ≤ xs.length ∧ g = xs.length - i ∧ nv = .int .i64 (nnN (xs.take i)) ∧ sv = .int .i64 (sumN (xs.take i)) ∧ iv = .int .i64 i ∧ Below w.heap.size w wr ∧ Row wr w.heap.size 55 [.bool false, .int .i64 0] ∧ Row wr (w.heap.size + 1) 55 (valC (lowN (xs.take i))) ∧ Row wr (w.heap.size + 1 + 1) 55 (valC (highN (xs.take i))))
  case atStart =>
    refine ⟨0, by omega, by omega, rfl, rfl, rfl, balloc (balloc (balloc (Below.refl _ _) _) _) _, (Row.first w _ _ _).alloc _, (Row.second w _ _ _).alloc _, Row.third w _ _ _ _⟩
  case round =>
    obtain ⟨i, hi, rfl, rfl, rfl, rfl, hb, hr0, hr1, hr2⟩ := hrel
    have HR := Lib.hid (And.intro hb (And.intro hr0 (And.intro hr1 hr2)))
    have hnn := nnN_le (xs.take i)
    rw [List.length_take] at hnn
    have hss := sumN_range (xs.take i) (take_valid HV.out i)
    rw [List.length_take] at hss
    by_cases hlt : i < xs.length
    · obtain ⟨b, off, rfl, hB, c0, c1⟩ := Val.at_ (h.on hb) hlt
      have hx := Lib.hid (List.getElem?_eq_getElem hlt)
      have hvx := vValid_range (HV.out _ (List.getElem_mem hlt))
      generalize xs[i] = x at *
      obtain ⟨nx, x⟩ := x
      obtain ⟨lo, hlo⟩ : ∃ v, lowN (xs.take i) = v := ⟨_, rfl⟩
      obtain ⟨hi', hhi⟩ : ∃ v, highN (xs.take i) = v := ⟨_, rfl⟩
      obtain ⟨s, hs⟩ : ∃ v, sumN (xs.take i) = v := ⟨_, rfl⟩
      obtain ⟨n, hn'⟩ : ∃ v, nnN (xs.take i) = v := ⟨_, rfl⟩
      rw [hlo, hhi] at HR
      rw [hlo] at hr1
      rw [hhi] at hr2
      rw [hs] at hss
      rw [hn'] at hnn
      have hs1 : -10485760000 ≤ s := by omega
      have hs2 : s ≤ 10485760000 := by omega
      have HE := Lib.hid (And.intro hlo (And.intro hhi (And.intro hs hn')))
      rw [hs, hn']
      have hxn : (-9999 ≤ x ∧ x ≤ 9999) := hvx
      have hx1 := hxn.1
      have hx2 := hxn.2
      obtain ⟨ln, lv⟩ := lo
      obtain ⟨hn2, hv2⟩ := hi'
      have l0 : wr.cell? ⟨w.heap.size + 1, 0, none⟩ = some (.bool ln) := hr1.cell 0
      have l1 : wr.cell? ⟨w.heap.size + 1, 1, none⟩ = some (.int .i64 lv) := hr1.cell 1
      have g0 : wr.cell? ⟨w.heap.size + 1 + 1, 0, none⟩ = some (.bool hn2) := hr2.cell 0
      have g1 : wr.cell? ⟨w.heap.size + 1 + 1, 1, none⟩ = some (.int .i64 hv2) := hr2.cell 1
      have e0 := hr1.lt
      have e1 := hr2.lt
      have e2 := hr1.frozen 0
      have e3 := hr1.frozen 1
      have e4 := hr2.frozen 0
      have e5 := hr2.frozen 1
      have hsame := low_high (xs.take i)
      rw [hlo, hhi] at hsame
      have hsame : ln = hn2 := hsame
      subst hsame
      clear hlo hhi hs hn' hr0 hr1 hr2 hss hvx hxn
      have HT := Lib.hid (take_at hx.out)
      cases nx
      · cases ln
        · by_cases hl : x < lv
          · by_cases hh : hv2 < x
            · dsimp only at *
              go_wp2
              go_roundg (xs.length - (i + 1))
              case measure => omega
              case rel =>
                refine ⟨i + 1, by omega, rfl, ?_, ?_, by go_num, ?_, ?_, ?_, ?_⟩
                · rw [HT.out, nnN_append, HE.out.2.2.2, nnN_one]; simp
                · rw [HT.out, sumN_append, HE.out.2.2.1, sumN_one]
                · exact balloc (below_put (below_put HR.out.1 (by omega) _ _) (by omega) _ _) _
                · exact (row_far2 (row_far2 HR.out.2.1 (by omega) _ _) (by omega) _ _).alloc _
                · rw [HT.out, lowN_snoc, HE.out.1, lowS_lt hl]
                  exact (row_far2 (row_put HR.out.2.2.1 (false, x)) (by omega) _ _).alloc _
                · rw [HT.out, highN_snoc, HE.out.2.1, highS_lt hh]
                  exact (row_put (row_far2 HR.out.2.2.2 (by omega) _ _) (false, x)).alloc _
            · dsimp only at *
              go_wp2
              go_roundg (xs.length - (i + 1))
              case measure => omega
              case rel =>
                refine ⟨i + 1, by omega, rfl, ?_, ?_, by go_num, ?_, ?_, ?_, ?_⟩
                · rw [HT.out, nnN_append, HE.out.2.2.2, nnN_one]; simp
                · rw [HT.out, sumN_append, HE.out.2.2.1, sumN_one]
                · exact balloc (below_put HR.out.1 (by omega) _ _) _
                · exact (row_far2 HR.out.2.1 (by omega) _ _).alloc _
                · rw [HT.out, lowN_snoc, HE.out.1, lowS_lt hl]
                  exact (row_put HR.out.2.2.1 (false, x)).alloc _
                · rw [HT.out, highN_snoc, HE.out.2.1, highS_ge (by omega)]
                  exact (row_far2 HR.out.2.2.2 (by omega) _ _).alloc _
          · by_cases hh : hv2 < x
            · dsimp only at *
              go_wp2
              go_roundg (xs.length - (i + 1))
              case measure => omega
              case rel =>
                refine ⟨i + 1, by omega, rfl, ?_, ?_, by go_num, ?_, ?_, ?_, ?_⟩
                · rw [HT.out, nnN_append, HE.out.2.2.2, nnN_one]; simp
                · rw [HT.out, sumN_append, HE.out.2.2.1, sumN_one]
                · exact balloc (below_put HR.out.1 (by omega) _ _) _
                · exact (row_far2 HR.out.2.1 (by omega) _ _).alloc _
                · rw [HT.out, lowN_snoc, HE.out.1, lowS_ge (by omega)]
                  exact (row_far2 HR.out.2.2.1 (by omega) _ _).alloc _
                · rw [HT.out, highN_snoc, HE.out.2.1, highS_lt hh]
                  exact (row_put HR.out.2.2.2 (false, x)).alloc _
            · dsimp only at *
              go_wp2
              go_roundg (xs.length - (i + 1))
              case measure => omega
              case rel =>
                refine ⟨i + 1, by omega, rfl, ?_, ?_, by go_num, ?_, ?_, ?_, ?_⟩
                · rw [HT.out, nnN_append, HE.out.2.2.2, nnN_one]; simp
                · rw [HT.out, sumN_append, HE.out.2.2.1, sumN_one]
                · exact balloc HR.out.1 _
                · exact HR.out.2.1.alloc _
                · rw [HT.out, lowN_snoc, HE.out.1, lowS_ge (by omega)]
                  exact HR.out.2.2.1.alloc _
                · rw [HT.out, highN_snoc, HE.out.2.1, highS_ge (by omega)]
                  exact HR.out.2.2.2.alloc _
        · dsimp only at *
          go_wp2
          go_roundg (xs.length - (i + 1))
          case measure => omega
          case rel =>
            refine ⟨i + 1, by omega, rfl, ?_, ?_, by go_num, ?_, ?_, ?_, ?_⟩
            · rw [HT.out, nnN_append, HE.out.2.2.2, nnN_one]; simp
            · rw [HT.out, sumN_append, HE.out.2.2.1, sumN_one]
            · exact balloc (below_put (below_put HR.out.1 (by omega) _ _) (by omega) _ _) _
            · exact (row_far2 (row_far2 HR.out.2.1 (by omega) _ _) (by omega) _ _).alloc _
            · rw [HT.out, lowN_snoc, HE.out.1, lowS_tf]
              exact (row_far2 (row_put HR.out.2.2.1 (false, x)) (by omega) _ _).alloc _
            · rw [HT.out, highN_snoc, HE.out.2.1, highS_tf]
              exact (row_put (row_far2 HR.out.2.2.2 (by omega) _ _) (false, x)).alloc _
      · dsimp only at *
        go_wp2
        go_roundg (xs.length - (i + 1))
        case measure => omega
        case rel =>
          refine ⟨i + 1, by omega, rfl, ?_, ?_, by go_num, balloc HR.out.1 _, HR.out.2.1.alloc _, ?_, ?_⟩
          · rw [HT.out, nnN_append, HE.out.2.2.2, nnN_one]; simp
          · rw [HT.out, sumN_append, HE.out.2.2.1, sumN_one, vValid_null (HV.out _ (List.mem_of_getElem? hx.out)) rfl]; simp
          · rw [HT.out, lowN_snoc, HE.out.1, lowS_null rfl]; exact HR.out.2.2.1.alloc _
          · rw [HT.out, highN_snoc, HE.out.2.1, highS_null rfl]; exact HR.out.2.2.2.alloc _
    · obtain rfl : i = xs.length := by omega
      rw [List.take_length] at *
      obtain ⟨lo, hlo⟩ : ∃ v, lowN xs = v := ⟨_, rfl⟩
      obtain ⟨hi', hhi⟩ : ∃ v, highN xs = v := ⟨_, rfl⟩
      obtain ⟨s, hs⟩ : ∃ v, sumN xs = v := ⟨_, rfl⟩
      obtain ⟨n, hn'⟩ : ∃ v, nnN xs = v := ⟨_, rfl⟩
      have HE := Lib.hid (And.intro hlo (And.intro hhi (And.intro hs hn')))
      rw [hlo, hhi] at HR
      rw [hlo] at hr1
      rw [hhi] at hr2
      rw [hs, hn']
      have e0 := hr0.lt
      have e2 := hr0.frozen 0
      have e3 := hr0.frozen 1
      have l0 : wr.cell? ⟨w.heap.size + 1, 0, none⟩ = some (.bool lo.1) := hr1.cell 0
      have l1 : wr.cell? ⟨w.heap.size + 1, 1, none⟩ = some (.int .i64 lo.2) := hr1.cell 1
      have g0 : wr.cell? ⟨w.heap.size + 1 + 1, 0, none⟩ = some (.bool hi'.1) := hr2.cell 0
      have g1 : wr.cell? ⟨w.heap.size + 1 + 1, 1, none⟩ = some (.int .i64 hi'.2) := hr2.cell 1
      clear hlo hhi hs hn' hr0 hr1 hr2 hss hnn
      have hE : ∀ v : Val, v = aggF k xs → Ending.returned (vAgg v) = Ending.returned (vAgg (aggF k xs)) := fun v hv => by rw [hv]
      have HNM := Lib.hid (fun (m : Int) => specNumber_ok m wr)
      have HEE := Lib.hid hE
      clear hE
      by_cases k1 : k = 1
      · subst k1
        go_wp2_with fail
        refine (HNM.out _).mono ?_
        rintro e w1 ⟨rfl, hb1⟩
        have hrr := HR.out.2.1.on hb1
        have q0 := hrr.lt
        have q1 := hrr.frozen 0
        have q2 := hrr.frozen 1
        have q3 : w1.cell? ⟨w.heap.size, 0, none⟩ = some (.bool false) := hrr.cell 0
        have q4 : w1.cell? ⟨w.heap.size, 1, none⟩ = some (.int .i64 0) := hrr.cell 1
        have HB := Lib.hid (bch HR.out.1 hb1)
        clear hb1 hrr e0 e2 e3 l0 l1 g0 g1
        unfold vAgg
        go_wp2
        exact bodyPost_ret (v := .agg #[.bool (numV xs.length).1, .int .i64 (numV xs.length).2]) (by simp [results, Tryz.results133, go_sem, q0, q1, q2, q3, q4]) rfl ⟨HEE.out _ (by simp [aggF]), below_put HB.out (Nat.le_refl _) _ _⟩
      by_cases k2 : k = 2
      · subst k2
        go_wp2_with fail
        refine (HNM.out _).mono ?_
        rintro e w1 ⟨rfl, hb1⟩
        have hrr := HR.out.2.1.on hb1
        have q0 := hrr.lt
        have q1 := hrr.frozen 0
        have q2 := hrr.frozen 1
        have q3 : w1.cell? ⟨w.heap.size, 0, none⟩ = some (.bool false) := hrr.cell 0
        have q4 : w1.cell? ⟨w.heap.size, 1, none⟩ = some (.int .i64 0) := hrr.cell 1
        have HB := Lib.hid (bch HR.out.1 hb1)
        clear hb1 hrr e0 e2 e3 l0 l1 g0 g1
        unfold vAgg
        go_wp2
        exact bodyPost_ret (v := .agg #[.bool (numV n).1, .int .i64 (numV n).2]) (by simp [results, Tryz.results133, go_sem, q0, q1, q2, q3, q4]) rfl ⟨HEE.out _ (by simp [aggF, HE.out.2.2.2]), below_put HB.out (Nat.le_refl _) _ _⟩
      by_cases k3 : k = 3
      · subst k3
        by_cases hn0 : n = 0
        · subst hn0
          have q3 : wr.cell? ⟨w.heap.size, 0, none⟩ = some (.bool false) := HR.out.2.1.cell 0
          have q4 : wr.cell? ⟨w.heap.size, 1, none⟩ = some (.int .i64 0) := HR.out.2.1.cell 1
          go_wp2
          exact bodyPost_ret (v := .agg #[.bool (((true, 0) : Val)).1, .int .i64 (((true, 0) : Val)).2]) (by simp [results, Tryz.results133, go_sem, e0, e2, e3, q3, q4]) rfl ⟨HEE.out _ (by simp [aggF, HE.out.2.2.2]), below_put HR.out.1 (Nat.le_refl _) _ _⟩
        · have hn0' : ((n : Int) == 0) = false := by simp [hn0]
          have HN0 := Lib.hid hn0
          go_wp2_with fail
          refine (HNM.out _).mono ?_
          rintro e w1 ⟨rfl, hb1⟩
          have hrr := HR.out.2.1.on hb1
          have q0 := hrr.lt
          have q1 := hrr.frozen 0
          have q2 := hrr.frozen 1
          have q3 : w1.cell? ⟨w.heap.size, 0, none⟩ = some (.bool false) := hrr.cell 0
          have q4 : w1.cell? ⟨w.heap.size, 1, none⟩ = some (.int .i64 0) := hrr.cell 1
          have HB := Lib.hid (bch HR.out.1 hb1)
          clear hb1 hrr e0 e2 e3 l0 l1 g0 g1
          unfold vAgg
          go_wp2
          exact bodyPost_ret (v := .agg #[.bool (numV s).1, .int .i64 (numV s).2]) (by simp [results, Tryz.results133, go_sem, q0, q1, q2, q3, q4]) rfl ⟨HEE.out _ (by simp [aggF, HE.out.2.2.2, HE.out.2.2.1, HN0.out]), below_put HB.out (Nat.le_refl _) _ _⟩
      by_cases k4 : k = 4
      · subst k4
        have q3 : wr.cell? ⟨w.heap.size, 0, none⟩ = some (.bool false) := HR.out.2.1.cell 0
        have q4 : wr.cell? ⟨w.heap.size, 1, none⟩ = some (.int .i64 0) := HR.out.2.1.cell 1
        go_wp2
        exact bodyPost_ret (v := .agg #[.bool (lo).1, .int .i64 (lo).2]) (by simp [results, Tryz.results133, go_sem, e0, e2, e3, q3, q4]) rfl ⟨HEE.out _ (by simp [aggF, HE.out.1]), below_put HR.out.1 (Nat.le_refl _) _ _⟩
      · have q3 : wr.cell? ⟨w.heap.size, 0, none⟩ = some (.bool false) := HR.out.2.1.cell 0
        have q4 : wr.cell? ⟨w.heap.size, 1, none⟩ = some (.int .i64 0) := HR.out.2.1.cell 1
        go_wp2
        exact bodyPost_ret (v := .agg #[.bool (hi').1, .int .i64 (hi').2]) (by simp [results, Tryz.results133, go_sem, e0, e2, e3, q3, q4]) rfl ⟨HEE.out _ (by simp [aggF, k1, k2, k3, k4, HE.out.2.1]), below_put HR.out.1 (Nat.le_refl _) _ _⟩

end Go.Proofs.YtlhonhacehgooaaGreat
