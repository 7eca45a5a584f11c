/-
  Contract of MergeAggregates: the program's.
-/
import Derived.Test.YtmljhkoabhjiaaaProg
import Derived.Test.YtmljhkoabhjiaaaAgK
namespace Go.Proofs.Ytmljhkoabhjiaaa
open Go.RowKit Go.Qo
set_option linter.unusedVariables false
set_option linter.unusedSimpArgs false

theorem merge_agg2 {k : Int} {a b : Val} : (1 ≤ k ∧ k ≤ 5) → mergeF k a b = aggF (if k = 1 ∨ k = 2 then 3 else k) [a, b] := fun hk => by
  have hk : k = 1 ∨ k = 2 ∨ k = 3 ∨ k = 4 ∨ k = 5 := by omega
  rcases hk with rfl | rfl | rfl | rfl | rfl <;> rfl
theorem merge_ok2 {k : Int} {a b : Val} : MergeOk k a b ↔ (1 ≤ k ∧ k ≤ 5) ∧ AggOk (if k = 1 ∨ k = 2 then 3 else k) [a, b] := by
  constructor
  · rintro ⟨h1, h2, h3, h4⟩
    refine ⟨⟨h3, h4⟩, by intro x hx; simp at hx; rcases hx with rfl | rfl <;> assumption, by simp, ?_, ?_⟩ <;> (split <;> omega)
  · rintro ⟨⟨h3, h4⟩, h⟩
    exact ⟨h.all a (by simp), h.all b (by simp), h3, h4⟩

set_option maxRecDepth 20000 in
set_option maxHeartbeats 400000 in
theorem implMerge0_ok (a b : Val) (k : Int) (w : World) (d : Bool) (hd : d = true ↔ MergeOk k a b) (m : Val) (hm : (if d then mergeF k a b else zV) = m) :
    Calls Try.prog 23 #[.agg #[.bool a.1, .int .i64 a.2], .agg #[.bool b.1, .int .i64 b.2], .int .i64 k] w fun e w' => e = .returned (vAgg2 m d) ∧ Below w.heap.size w w' := by
  have Hd := Lib.hid hd
  clear hd
  obtain ⟨r, hr⟩ : ∃ r, (decide (1 ≤ k) && decide (k ≤ 5)) = r := ⟨_, rfl⟩
  have HA := Lib.hid (fun z => validAggregate_ok k z r hr)
  have Hr := Lib.hid hr
  clear hr
  cases r
  · have hdf : d = false := by
      cases d
      · rfl
      · have := Hd.out.1 rfl
        have h2 := Hr.out
        rw [decide_eq_true this.k1, decide_eq_true this.k5] at h2
        cases h2
    subst hdf
    have hmz : zV = m := hm
    subst hmz
    go_enter Try.func23, Try.ntmps23
    go_wp2_with fail
    refine (HA.out _).mono ?_
    rintro e w1 ⟨rfl, rfl⟩
    go_wp2
    exact bodyPost_ret (v := .tuple #[.agg #[.bool false, .int .i64 0], .bool false]) (by simp [results, Try.results23, go_sem]) rfl ⟨rfl, balloc (balloc (balloc (Below.refl _ _) _) _) _⟩
  · have hk : 1 ≤ k ∧ k ≤ 5 := by have := Hr.out; simpa using this
    obtain ⟨q, hq⟩ : ∃ q : Int, (if k = 1 ∨ k = 2 then 3 else k) = q := ⟨_, rfl⟩
    have e1 := merge_agg2 (a := a) (b := b) hk
    have e2 := merge_ok2 (k := k) (a := a) (b := b)
    rw [hq] at e1 e2
    have hd' : d = true ↔ AggOk q [a, b] := by rw [Hd.out, e2]; exact ⟨fun h => h.2, fun h => ⟨hk, h⟩⟩
    have HM := implAggregate_ok _ 2 [a, b] q _ (by simp) (pair_sl (((w.alloc (.cells #[.bool a.1, .int .i64 a.2] 25)).alloc (.cells #[.bool b.1, .int .i64 b.2] 25)).alloc (.cells #[.bool false, .int .i64 0] 25)) 25 a b) d hd'
    rw [show (((w.alloc (.cells #[.bool a.1, .int .i64 a.2] 25)).alloc (.cells #[.bool b.1, .int .i64 b.2] 25)).alloc (.cells #[.bool false, .int .i64 0] 25)).heap.size = w.heap.size + 1 + 1 + 1 by simp] at HM
    rw [← e1, hm] at HM
    rw [show [a, b].length = 2 from rfl] at HM
    have HM := Lib.hid HM
    have B0 := Lib.hid (balloc (balloc (balloc (Below.refl w.heap.size w) (.cells #[.bool a.1, .int .i64 a.2] 25)) (.cells #[.bool b.1, .int .i64 b.2] 25)) (.cells #[.bool false, .int .i64 0] 25))
    have hk4 : (q = 3 ∧ k = 1) ∨ (q = 3 ∧ k = 2) ∨ (q = k ∧ k ≠ 1 ∧ k ≠ 2) := by
      rw [← hq]
      by_cases h1 : k = 1
      · left; simp [h1]
      · by_cases h2 : k = 2
        · right; left; simp [h2]
        · right; right; simp [h1, h2]
    clear e1 e2 hd' hm hq hk
    have hkk : q ≠ 1 → q ≠ 2 → (q == 1) = false ∧ (q == 2) = false := fun h1 h2 => by simp [h1, h2]
    rcases hk4 with ⟨rfl, rfl⟩ | ⟨rfl, rfl⟩ | ⟨rfl, hk1, hk2⟩
    rotate_left 2
    · obtain ⟨hq1, hq2⟩ := hkk hk1 hk2
      clear hkk
      go_enter Try.func23, Try.ntmps23
      go_wp2_with fail
      refine (HA.out _).mono ?_
      rintro e w1 ⟨rfl, rfl⟩
      go_wp2_with fail
      refine HM.out.mono ?_
      rintro e w2 ⟨rfl, hb2⟩
      have hb3 := bch (balloc (Below.refl _ _) _) hb2
      obtain ⟨_, _, r2⟩ := three_rows hb3
      have HB := Lib.hid (bch B0.out hb3)
      have q0 := r2.lt
      have q1 := r2.frozen 0
      have q2 := r2.frozen 1
      have q3 : w2.cell? ⟨w.heap.size + 1 + 1, 0, none⟩ = some (.bool false) := r2.cell 0
      have q4 : w2.cell? ⟨w.heap.size + 1 + 1, 1, none⟩ = some (.int .i64 0) := r2.cell 1
      clear hb2 hb3 r2
      unfold vAgg2
      go_wp2
      exact bodyPost_ret (v := .tuple #[.agg #[.bool m.1, .int .i64 m.2], .bool d]) (by simp [results, Try.results23, go_sem, q0, q1, q2, q3, q4]) rfl ⟨rfl, below_put HB.out (by omega) _ _⟩
    · clear hkk
      go_enter Try.func23, Try.ntmps23
      go_wp2_with fail
      refine (HA.out _).mono ?_
      rintro e w1 ⟨rfl, rfl⟩
      go_wp2_with fail
      refine HM.out.mono ?_
      rintro e w2 ⟨rfl, hb2⟩
      have hb3 := bch (balloc (Below.refl _ _) _) hb2
      obtain ⟨_, _, r2⟩ := three_rows hb3
      have HB := Lib.hid (bch B0.out hb3)
      have q0 := r2.lt
      have q1 := r2.frozen 0
      have q2 := r2.frozen 1
      have q3 : w2.cell? ⟨w.heap.size + 1 + 1, 0, none⟩ = some (.bool false) := r2.cell 0
      have q4 : w2.cell? ⟨w.heap.size + 1 + 1, 1, none⟩ = some (.int .i64 0) := r2.cell 1
      clear hb2 hb3 r2
      unfold vAgg2
      go_wp2
      exact bodyPost_ret (v := .tuple #[.agg #[.bool m.1, .int .i64 m.2], .bool d]) (by simp [results, Try.results23, go_sem, q0, q1, q2, q3, q4]) rfl ⟨rfl, below_put HB.out (by omega) _ _⟩
    · clear hkk
      go_enter Try.func23, Try.ntmps23
      go_wp2_with fail
      refine (HA.out _).mono ?_
      rintro e w1 ⟨rfl, rfl⟩
      go_wp2_with fail
      refine HM.out.mono ?_
      rintro e w2 ⟨rfl, hb2⟩
      have hb3 := bch (balloc (Below.refl _ _) _) hb2
      obtain ⟨_, _, r2⟩ := three_rows hb3
      have HB := Lib.hid (bch B0.out hb3)
      have q0 := r2.lt
      have q1 := r2.frozen 0
      have q2 := r2.frozen 1
      have q3 : w2.cell? ⟨w.heap.size + 1 + 1, 0, none⟩ = some (.bool false) := r2.cell 0
      have q4 : w2.cell? ⟨w.heap.size + 1 + 1, 1, none⟩ = some (.int .i64 0) := r2.cell 1
      clear hb2 hb3 r2
      unfold vAgg2
      go_wp2
      exact bodyPost_ret (v := .tuple #[.agg #[.bool m.1, .int .i64 m.2], .bool d]) (by simp [results, Try.results23, go_sem, q0, q1, q2, q3, q4]) rfl ⟨rfl, below_put HB.out (by omega) _ _⟩

theorem implMerge_ok (a b : Val) (k : Int) (w : World) (d : Bool) (hd : d = true ↔ MergeOk k a b) :
    Calls Try.prog 23 #[.agg #[.bool a.1, .int .i64 a.2], .agg #[.bool b.1, .int .i64 b.2], .int .i64 k] w fun e w' => e = .returned (vAgg2 (if d then mergeF k a b else zV) d) ∧ Below w.heap.size w w' := implMerge0_ok a b k w d hd _ rfl

end Go.Proofs.Ytmljhkoabhjiaaa
