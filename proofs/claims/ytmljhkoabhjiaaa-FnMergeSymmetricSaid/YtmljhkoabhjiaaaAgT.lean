/-
  Contracts of Aggregate, MergeAggregates: the reference's.
-/
import Derived.Test.YtmljhkoabhjiaaaProg
import Derived.Test.YtmljhkoabhjiaaaAgS
namespace Go.Proofs.Ytmljhkoabhjiaaa
open Go.RowKit Go.Qo
set_option linter.unusedVariables false
set_option linter.unusedSimpArgs false

def vAgg2 (v : Val) (d : Bool) : Value := .tuple #[.agg #[.bool v.1, .int .i64 v.2], .bool d]
def zV : Val := (false, 0)
set_option maxRecDepth 20000 in
set_option maxHeartbeats 1000000 in
theorem specAggregate_ok (A : Option Addr) (c : Nat) (xs : List Val) (k : Int) (w : World) (hn : xs.length ≤ 1048576) (h : Sl 2 valC w w.heap.size A xs) (d : Bool) (hd : d = true ↔ AggOk k xs) :
    Calls Try.prog 16 #[.slice A xs.length c, .int .i64 k] w fun e w' => e = .returned (vAgg2 (if d then aggF k xs else zV) d) ∧ Below w.heap.size w w' := by
  have Hd := Lib.hid hd
  clear hd
  go_enter Try.func16, Try.ntmps16
  go_wp2
  go_loopg [6] xs.length (fun g iv wr => ∃ i : Nat, i ≤ xs.length ∧ g = xs.length - i ∧ iv = .int .i64 i ∧ Below w.heap.size w wr ∧ Row wr w.heap.size 25 [.bool false, .int .i64 0] ∧ ∀ x ∈ xs.take i, vValid x = true)
  case atStart => exact ⟨0, by omega, by omega, rfl, balloc (Below.refl _ _) _, Row.new w _ _, by simp⟩
  case round =>
    obtain ⟨i, hi, rfl, rfl, hb, hr, hp⟩ := hrel
    have HR := Lib.hid (And.intro hb (And.intro hr hp))
    clear hr hp
    by_cases hlt : i < xs.length
    · obtain ⟨b, off, rfl, hB, c0, c1⟩ := Val.at_ (h.on hb) hlt
      have hx := Lib.hid (List.getElem?_eq_getElem hlt)
      have hm := Lib.hid (List.getElem_mem hlt)
      generalize xs[i] = x at *
      obtain ⟨r, hr⟩ : ∃ r, vValid x = r := ⟨_, rfl⟩
      have HV := Lib.hid (specValidValue_ok x wr r hr)
      have Hr := Lib.hid hr
      clear hr
      go_wp2_with fail
      refine HV.out.mono ?_
      rintro e w1 ⟨rfl, hb1⟩
      have H1 := Lib.hid hb1
      have hrr := HR.out.2.1.on hb1
      have q0 := hrr.lt
      have q1 := hrr.frozen 0
      have q2 := hrr.frozen 1
      have q3 : w1.cell? ⟨w.heap.size, 0, none⟩ = some (.bool false) := hrr.cell 0
      have q4 : w1.cell? ⟨w.heap.size, 1, none⟩ = some (.int .i64 0) := hrr.cell 1
      clear hb1 hrr c0 c1
      cases r
      · have hdf : d = false := by
          cases d
          · rfl
          · have := (Hd.out.1 rfl).all x hm.out
            rw [Hr.out] at this; cases this
        subst hdf
        go_wp2
        exact bodyPost_ret (v := .tuple #[.agg #[.bool false, .int .i64 0], .bool false]) (by simp [results, Try.results16, go_sem, q0, q1, q2, q3, q4]) rfl ⟨rfl, below_put (bch HR.out.1 H1.out) (Nat.le_refl _) _ _⟩
      · go_wp2
        go_roundg (xs.length - (i + 1))
        case measure => omega
        case rel =>
          refine ⟨i + 1, by omega, rfl, by go_num, bch HR.out.1 H1.out, HR.out.2.1.on H1.out, fun y hy => ?_⟩
          rw [take_at hx.out] at hy
          rcases List.mem_append.1 hy with h1 | h1
          · exact HR.out.2.2 y h1
          · simp only [List.mem_singleton] at h1
            rw [h1]; exact Hr.out
    · obtain rfl : i = xs.length := by omega
      have q0 := HR.out.2.1.lt
      have q1 := HR.out.2.1.frozen 0
      have q2 := HR.out.2.1.frozen 1
      have q3 : wr.cell? ⟨w.heap.size, 0, none⟩ = some (.bool false) := HR.out.2.1.cell 0
      have q4 : wr.cell? ⟨w.heap.size, 1, none⟩ = some (.int .i64 0) := HR.out.2.1.cell 1
      have HX := Lib.hid (show ∀ x ∈ xs, vValid x = true by have := HR.out.2.2; rwa [List.take_length] at this)
      by_cases h4 : xs.length ≤ 400
      · obtain ⟨r, hr⟩ : ∃ r, (decide (1 ≤ k) && decide (k ≤ 5)) = r := ⟨_, rfl⟩
        have c1 := Lib.hid (fun w => inRange_ok k 1 5 w r hr)
        have hk : d = r := by
          rw [Bool.eq_iff_iff, Hd.out, ← hr]
          simp only [Bool.and_eq_true, decide_eq_true_eq]
          exact ⟨fun a => ⟨a.k1, a.k5⟩, fun a => ⟨HX.out, h4, a.1, a.2⟩⟩
        subst hk
        have HA := Lib.hid (specAggregate1_ok A c xs k wr hn HX.out (h.on hb))
        clear hr
        cases d
        · go_wp2_with fail
          refine (c1.out _).mono ?_
          rintro e w1 ⟨rfl, rfl⟩
          go_wp2
          exact bodyPost_ret (v := .tuple #[.agg #[.bool false, .int .i64 0], .bool false]) (by simp [results, Try.results16, go_sem, q0, q1, q2, q3, q4]) rfl ⟨rfl, below_put HR.out.1 (Nat.le_refl _) _ _⟩
        · go_wp2_with fail
          refine (c1.out _).mono ?_
          rintro e w1 ⟨rfl, rfl⟩
          go_wp2_with fail
          refine HA.out.mono ?_
          rintro e w2 ⟨rfl, hb2⟩
          have hrr := HR.out.2.1.on hb2
          have HB := Lib.hid (bch HR.out.1 hb2)
          clear q0 q1 q2 q3 q4
          have q0 := hrr.lt
          have q1 := hrr.frozen 0
          have q2 := hrr.frozen 1
          have q3 : w2.cell? ⟨w.heap.size, 0, none⟩ = some (.bool false) := hrr.cell 0
          have q4 : w2.cell? ⟨w.heap.size, 1, none⟩ = some (.int .i64 0) := hrr.cell 1
          clear hrr hb2
          unfold vAgg
          go_wp2
          exact bodyPost_ret (v := .tuple #[.agg #[.bool (aggF k xs).1, .int .i64 (aggF k xs).2], .bool true]) (by simp [results, Try.results16, go_sem, q0, q1, q2, q3, q4]) rfl ⟨rfl, below_put HB.out (Nat.le_refl _) _ _⟩
      · have hdf : d = false := by
          cases d
          · rfl
          · exact absurd (Hd.out.1 rfl).len h4
        subst hdf
        go_wp2
        exact bodyPost_ret (v := .tuple #[.agg #[.bool false, .int .i64 0], .bool false]) (by simp [results, Try.results16, go_sem, q0, q1, q2, q3, q4]) rfl ⟨rfl, below_put HR.out.1 (Nat.le_refl _) _ _⟩

theorem three_rows {w w1 : World} {t t' t'' : TypeId} {c c' c'' : Array Value} (hb : Below (((w.alloc (.cells c t)).alloc (.cells c' t')).alloc (.cells c'' t'')).heap.size (((w.alloc (.cells c t)).alloc (.cells c' t')).alloc (.cells c'' t'')) w1) :
    Row w1 w.heap.size t c.toList ∧ Row w1 (w.heap.size + 1) t' c'.toList ∧ Row w1 (w.heap.size + 1 + 1) t'' c''.toList := ⟨((Row.first _ _ _ _).alloc _).on hb, ((Row.second _ _ _ _).alloc _).on hb, (Row.third _ _ _ _ _).on hb⟩
theorem pair_sl (w : World) (t : TypeId) (a b : Val) : Sl 2 valC (w.alloc (.cells #[.bool a.1, .int .i64 a.2, .bool b.1, .int .i64 b.2] t)) (w.alloc (.cells #[.bool a.1, .int .i64 a.2, .bool b.1, .int .i64 b.2] t)).heap.size (some ⟨w.heap.size, 0, none⟩) [a, b] :=
  Row.sl' valC_length (t := t) ((Row.new w t _).of rfl)

set_option maxRecDepth 20000 in
set_option maxHeartbeats 1000000 in
theorem specMerge_ok (a b : Val) (k : Int) (w : World) (d : Bool) (hd : d = true ↔ MergeOk k a b) :
    Calls Try.prog 21 #[.agg #[.bool a.1, .int .i64 a.2], .agg #[.bool b.1, .int .i64 b.2], .int .i64 k] w fun e w' => e = .returned (vAgg2 (if d then mergeF k a b else zV) d) ∧ Below w.heap.size w w' := by
  have Hd := Lib.hid hd
  clear hd
  obtain ⟨ra, hra⟩ : ∃ r, vValid a = r := ⟨_, rfl⟩
  obtain ⟨rb, hrb⟩ : ∃ r, vValid b = r := ⟨_, rfl⟩
  obtain ⟨r, hr⟩ : ∃ r, (decide (1 ≤ k) && decide (k ≤ 5)) = r := ⟨_, rfl⟩
  have C1 := Lib.hid (fun w => specValidValue_ok a w ra hra)
  have C2 := Lib.hid (fun w => specValidValue_ok b w rb hrb)
  have C3 := Lib.hid (fun w => inRange_ok k 1 5 w r hr)
  have hdd : d = (ra && rb && r) := by
    rw [Bool.eq_iff_iff, Hd.out, ← hr, ← hra, ← hrb]
    simp only [Bool.and_eq_true, decide_eq_true_eq]
    exact ⟨fun h => ⟨⟨h.a, h.b⟩, h.k1, h.k5⟩, fun h => ⟨h.1.1, h.1.2, h.2.1, h.2.2⟩⟩
  have HA := Lib.hid (fun (q : Int) (z : World) (ha : vValid a = true) (hb : vValid b = true) => specAggregate1_ok (some ⟨z.heap.size, 0, none⟩) 2 [a, b] q _ (by simp) (by intro x hx; simp at hx; rcases hx with rfl | rfl <;> assumption) (pair_sl z 25 a b))
  have B0 := Lib.hid (balloc (balloc (balloc (Below.refl w.heap.size w) (.cells #[.bool a.1, .int .i64 a.2] 25)) (.cells #[.bool b.1, .int .i64 b.2] 25)) (.cells #[.bool false, .int .i64 0] 25))
  have hra' := Lib.hid (And.intro hra hrb)
  clear hra hrb hr
  subst hdd
  cases ra
  · go_enter Try.func21, Try.ntmps21
    go_wp2_with fail
    refine (C1.out _).mono ?_
    rintro e w1 ⟨rfl, hb1⟩
    obtain ⟨_, _, r2⟩ := three_rows hb1
    have q0 := r2.lt
    have q1 := r2.frozen 0
    have q2 := r2.frozen 1
    have q3 : w1.cell? ⟨w.heap.size + 1 + 1, 0, none⟩ = some (.bool false) := r2.cell 0
    have q4 : w1.cell? ⟨w.heap.size + 1 + 1, 1, none⟩ = some (.int .i64 0) := r2.cell 1
    have HB := Lib.hid (bch B0.out hb1)
    clear hb1 r2
    go_wp2
    exact bodyPost_ret (v := .tuple #[.agg #[.bool false, .int .i64 0], .bool false]) (by simp [results, Try.results21, go_sem, q0, q1, q2, q3, q4]) rfl ⟨rfl, below_put HB.out (by omega) _ _⟩
  · cases rb
    · go_enter Try.func21, Try.ntmps21
      go_wp2_with fail
      refine (C1.out _).mono ?_
      rintro e w1 ⟨rfl, hb1⟩
      obtain ⟨_, r1, r2⟩ := three_rows hb1
      have R2 := Lib.hid r2
      have q5 : w1.cell? ⟨w.heap.size + 1, 0, none⟩ = some (.bool b.1) := r1.cell 0
      have q6 : w1.cell? ⟨w.heap.size + 1, 1, none⟩ = some (.int .i64 b.2) := r1.cell 1
      have HB := Lib.hid (bch B0.out hb1)
      clear hb1 r2 r1
      go_wp2_with fail
      refine (C2.out _).mono ?_
      rintro e w2 ⟨rfl, hb2⟩
      have r2 := R2.out.on hb2
      have q0 := r2.lt
      have q1 := r2.frozen 0
      have q2 := r2.frozen 1
      have q3 : w2.cell? ⟨w.heap.size + 1 + 1, 0, none⟩ = some (.bool false) := r2.cell 0
      have q4 : w2.cell? ⟨w.heap.size + 1 + 1, 1, none⟩ = some (.int .i64 0) := r2.cell 1
      have HB2 := Lib.hid (bch HB.out hb2)
      clear hb2 r2 q5 q6
      go_wp2
      exact bodyPost_ret (v := .tuple #[.agg #[.bool false, .int .i64 0], .bool false]) (by simp [results, Try.results21, go_sem, q0, q1, q2, q3, q4]) rfl ⟨rfl, below_put HB2.out (by omega) _ _⟩
    · have HV := Lib.hid (fun q z => HA.out q z hra'.out.1 hra'.out.2)
      clear HA
      go_enter Try.func21, Try.ntmps21
      go_wp2_with fail
      refine (C1.out _).mono ?_
      rintro e w1 ⟨rfl, hb1⟩
      have R1 := Lib.hid (three_rows hb1)
      have q5 : w1.cell? ⟨w.heap.size + 1, 0, none⟩ = some (.bool b.1) := R1.out.2.1.cell 0
      have q6 : w1.cell? ⟨w.heap.size + 1, 1, none⟩ = some (.int .i64 b.2) := R1.out.2.1.cell 1
      have HB := Lib.hid (bch B0.out hb1)
      clear hb1
      go_wp2_with fail
      refine (C2.out _).mono ?_
      rintro e w2 ⟨rfl, hb2⟩
      have R2 := Lib.hid (And.intro (R1.out.1.on hb2) (And.intro (R1.out.2.1.on hb2) (R1.out.2.2.on hb2)))
      have HB2 := Lib.hid (bch HB.out hb2)
      clear hb2 q5 q6
      go_wp2_with fail
      refine (C3.out _).mono ?_
      rintro e w3 ⟨rfl, rfl⟩
      have q0 := R2.out.2.2.lt
      have q1 := R2.out.2.2.frozen 0
      have q2 := R2.out.2.2.frozen 1
      have q3 : w2.cell? ⟨w.heap.size + 1 + 1, 0, none⟩ = some (.bool false) := R2.out.2.2.cell 0
      have q4 : w2.cell? ⟨w.heap.size + 1 + 1, 1, none⟩ = some (.int .i64 0) := R2.out.2.2.cell 1
      have p0 : w2.cell? ⟨w.heap.size, 0, none⟩ = some (.bool a.1) := R2.out.1.cell 0
      have p1 : w2.cell? ⟨w.heap.size, 1, none⟩ = some (.int .i64 a.2) := R2.out.1.cell 1
      have p2 : w2.cell? ⟨w.heap.size + 1, 0, none⟩ = some (.bool b.1) := R2.out.2.1.cell 0
      have p3 : w2.cell? ⟨w.heap.size + 1, 1, none⟩ = some (.int .i64 b.2) := R2.out.2.1.cell 1
      cases r
      · go_wp2
        exact bodyPost_ret (v := .tuple #[.agg #[.bool false, .int .i64 0], .bool false]) (by simp [results, Try.results21, go_sem, q0, q1, q2, q3, q4]) rfl ⟨rfl, below_put HB2.out (by omega) _ _⟩
      · obtain ⟨m, hm⟩ : ∃ m, mergeF k a b = m := ⟨_, rfl⟩
        have HM := Lib.hid hm
        clear hm
        by_cases k3 : k ≤ 3
        · have hm3 : mergeF k a b = aggF 3 [a, b] := by simp [mergeF, k3]
          have HM3 := Lib.hid (HM.out.symm.trans hm3)
          clear hm3
          go_wp2_with fail
          refine (HV.out _ _).mono ?_
          rintro e w4 ⟨rfl, hb4⟩
          have hb5 := bch (balloc (Below.refl _ w2) _) hb4
          have r2 := R2.out.2.2.on hb5
          have HB4 := Lib.hid (bch HB2.out hb5)
          clear q0 q1 q2 q3 q4 p0 p1 p2 p3 hb4 hb5
          have q0 := r2.lt
          have q1 := r2.frozen 0
          have q2 := r2.frozen 1
          have q3 : w4.cell? ⟨w.heap.size + 1 + 1, 0, none⟩ = some (.bool false) := r2.cell 0
          have q4 : w4.cell? ⟨w.heap.size + 1 + 1, 1, none⟩ = some (.int .i64 0) := r2.cell 1
          rw [← HM3.out]
          clear r2
          unfold vAgg
          go_wp2
          exact bodyPost_ret (v := .tuple #[.agg #[.bool m.1, .int .i64 m.2], .bool true]) (by simp [results, Try.results21, go_sem, q0, q1, q2, q3, q4]) rfl ⟨(by rw [← HM.out]; rfl), below_put HB4.out (by omega) _ _⟩
        · have hm3 : mergeF k a b = aggF k [a, b] := by simp [mergeF, k3]
          have HM3 := Lib.hid (HM.out.symm.trans hm3)
          clear hm3
          go_wp2_with fail
          refine (HV.out _ _).mono ?_
          rintro e w4 ⟨rfl, hb4⟩
          have hb5 := bch (balloc (Below.refl _ w2) _) hb4
          have r2 := R2.out.2.2.on hb5
          have HB4 := Lib.hid (bch HB2.out hb5)
          clear q0 q1 q2 q3 q4 p0 p1 p2 p3 hb4 hb5
          have q0 := r2.lt
          have q1 := r2.frozen 0
          have q2 := r2.frozen 1
          have q3 : w4.cell? ⟨w.heap.size + 1 + 1, 0, none⟩ = some (.bool false) := r2.cell 0
          have q4 : w4.cell? ⟨w.heap.size + 1 + 1, 1, none⟩ = some (.int .i64 0) := r2.cell 1
          rw [← HM3.out]
          clear r2
          unfold vAgg
          go_wp2
          exact bodyPost_ret (v := .tuple #[.agg #[.bool m.1, .int .i64 m.2], .bool true]) (by simp [results, Try.results21, go_sem, q0, q1, q2, q3, q4]) rfl ⟨(by rw [← HM.out]; rfl), below_put HB4.out (by omega) _ _⟩

end Go.Proofs.Ytmljhkoabhjiaaa
