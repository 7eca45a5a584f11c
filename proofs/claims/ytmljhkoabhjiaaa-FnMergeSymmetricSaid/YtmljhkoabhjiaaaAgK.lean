/-
  Contracts of Aggregate, MergeAggregates: the program's.
-/
import Derived.Test.YtmljhkoabhjiaaaProg
import Derived.Test.YtmljhkoabhjiaaaAgJ
namespace Go.Proofs.Ytmljhkoabhjiaaa
open Go.RowKit Go.Qo
set_option linter.unusedVariables false
set_option linter.unusedSimpArgs false

theorem aggregated_ok (A : Option Addr) (c : Nat) (xs : List Val) (k : Int) (w : World) (hn : xs.length ≤ 1048576) (hv : ∀ x ∈ xs, vValid x = true) (h : Sl 2 valC w w.heap.size A xs) (hk : 1 ≤ k ∧ k ≤ 5) :
    Calls Try.prog 59 #[.slice A xs.length c, .int .i64 k] w fun e w' => e = .returned (vAgg (aggF k xs)) ∧ Below w.heap.size w w' := by
  have hk : k = 1 ∨ k = 2 ∨ k = 3 ∨ k = 4 ∨ k = 5 := by omega
  rcases hk with rfl | rfl | rfl | rfl | rfl
  · exact aggregated1_ok A c xs w hn hv h
  · exact aggregated2_ok A c xs w hn hv h
  · exact aggregated3_ok A c xs w hn hv h
  · exact aggregated4_ok A c xs w hn hv h
  · exact aggregated5_ok A c xs w hn hv h

set_option maxRecDepth 20000 in
set_option maxHeartbeats 1000000 in
theorem implAggregate_ok (A : Option Addr) (c : Nat) (xs : List Val) (k : Int) (w : World) (hn : xs.length ≤ 1048576) (h : Sl 2 valC w w.heap.size A xs) (d : Bool) (hd : d = true ↔ AggOk k xs) :
    Calls Try.prog 18 #[.slice A xs.length c, .int .i64 k] w fun e w' => e = .returned (vAgg2 (if d then aggF k xs else zV) d) ∧ Below w.heap.size w w' := by
  have Hd := Lib.hid hd
  clear hd
  obtain ⟨r, hr⟩ : ∃ r, (decide (1 ≤ k) && decide (k ≤ 5)) = r := ⟨_, rfl⟩
  have HA := Lib.hid (fun z => validAggregate_ok k z r hr)
  have Hr := Lib.hid hr
  clear hr
  cases r
  · have hdf : d = false := by
      cases d
      · rfl
      · have := Hd.out.1 rfl
        have h2 := Hr.out
        rw [decide_eq_true this.k1, decide_eq_true this.k5] at h2
        cases h2
    subst hdf
    go_enter Try.func18, Try.ntmps18
    go_wp2_with fail
    refine (HA.out _).mono ?_
    rintro e w1 ⟨rfl, rfl⟩
    go_wp2
    exact bodyPost_ret (v := .tuple #[.agg #[.bool false, .int .i64 0], .bool false]) (by simp [results, Try.results18, go_sem]) rfl ⟨rfl, balloc (Below.refl _ _) _⟩
  · by_cases h4 : xs.length ≤ 400
    · go_enter Try.func18, Try.ntmps18
      go_wp2_with fail
      refine (HA.out _).mono ?_
      rintro e w1 ⟨rfl, rfl⟩
      go_wp2
      go_loopg [19] xs.length (fun g iv wr => ∃ i : Nat, i ≤ xs.length ∧ g = xs.length - i ∧ iv = .int .i64 i ∧ Below w.heap.size w wr ∧ Row wr w.heap.size 25 [.bool false, .int .i64 0] ∧ ∀ x ∈ xs.take i, vValid x = true)
      case atStart => exact ⟨0, by omega, by omega, rfl, balloc (Below.refl _ _) _, Row.new w _ _, by simp⟩
      case round =>
        obtain ⟨i, hi, rfl, rfl, hb, hr, hp⟩ := hrel
        have HR := Lib.hid (And.intro hb (And.intro hr hp))
        clear hp
        by_cases hlt : i < xs.length
        · obtain ⟨b, off, rfl, hB, c0, c1⟩ := Val.at_ (h.on hb) hlt
          have hx := Lib.hid (List.getElem?_eq_getElem hlt)
          have hm := Lib.hid (List.getElem_mem hlt)
          generalize xs[i] = x at *
          obtain ⟨q, hq⟩ : ∃ r, vValid x = r := ⟨_, rfl⟩
          have HV := Lib.hid (fun z => implValid_ok x z q hq)
          have Hq := Lib.hid hq
          have HX := Lib.hid (fun o => And.intro (hr.alloc o) (balloc hb o))
          clear hq hr
          go_wp2_with fail
          refine (HV.out _).mono ?_
          rintro e w2 ⟨rfl, hb1⟩
          have H1 := Lib.hid (And.intro (bch (HX.out _).2 hb1) ((HX.out _).1.on hb1))
          have hrr := H1.out.2
          have q0 := hrr.lt
          have q1 := hrr.frozen 0
          have q2 := hrr.frozen 1
          have q3 : w2.cell? ⟨w.heap.size, 0, none⟩ = some (.bool false) := hrr.cell 0
          have q4 : w2.cell? ⟨w.heap.size, 1, none⟩ = some (.int .i64 0) := hrr.cell 1
          clear hb1 hrr c0 c1
          cases q
          · have hdf : d = false := by
              cases d
              · rfl
              · have := (Hd.out.1 rfl).all x hm.out
                rw [Hq.out] at this; cases this
            subst hdf
            go_wp2
            exact bodyPost_ret (v := .tuple #[.agg #[.bool false, .int .i64 0], .bool false]) (by simp [results, Try.results18, go_sem, q0, q1, q2, q3, q4]) rfl ⟨rfl, below_put H1.out.1 (Nat.le_refl _) _ _⟩
          · go_wp2
            go_roundg (xs.length - (i + 1))
            case measure => omega
            case rel =>
              refine ⟨i + 1, by omega, rfl, by go_num, H1.out.1, H1.out.2, fun y hy => ?_⟩
              rw [take_at hx.out] at hy
              rcases List.mem_append.1 hy with h1 | h1
              · exact HR.out.2.2 y h1
              · simp only [List.mem_singleton] at h1
                rw [h1]; exact Hq.out
        · obtain rfl : i = xs.length := by omega
          have HX := Lib.hid (show ∀ x ∈ xs, vValid x = true by have := HR.out.2.2; rwa [List.take_length] at this)
          have hk : 1 ≤ k ∧ k ≤ 5 := by have := Hr.out; simpa using this
          have hdt : d = true := Hd.out.2 ⟨HX.out, h4, hk.1, hk.2⟩
          subst hdt
          have HG := Lib.hid (aggregated_ok A c xs k wr hn HX.out (h.on hb) hk)
          clear hk hr
          go_wp2_with fail
          refine HG.out.mono ?_
          rintro e w2 ⟨rfl, hb2⟩
          have hrr := HR.out.2.1.on hb2
          have HB := Lib.hid (bch HR.out.1 hb2)
          have q0 := hrr.lt
          have q1 := hrr.frozen 0
          have q2 := hrr.frozen 1
          have q3 : w2.cell? ⟨w.heap.size, 0, none⟩ = some (.bool false) := hrr.cell 0
          have q4 : w2.cell? ⟨w.heap.size, 1, none⟩ = some (.int .i64 0) := hrr.cell 1
          clear hrr hb2
          unfold vAgg
          go_wp2
          exact bodyPost_ret (v := .tuple #[.agg #[.bool (aggF k xs).1, .int .i64 (aggF k xs).2], .bool true]) (by simp [results, Try.results18, go_sem, q0, q1, q2, q3, q4]) rfl ⟨rfl, below_put HB.out (Nat.le_refl _) _ _⟩
    · have hdf : d = false := by
        cases d
        · rfl
        · exact absurd (Hd.out.1 rfl).len h4
      subst hdf
      go_enter Try.func18, Try.ntmps18
      go_wp2_with fail
      refine (HA.out _).mono ?_
      rintro e w1 ⟨rfl, rfl⟩
      go_wp2
      exact bodyPost_ret (v := .tuple #[.agg #[.bool false, .int .i64 0], .bool false]) (by simp [results, Try.results18, go_sem]) rfl ⟨rfl, balloc (Below.refl _ _) _⟩

end Go.Proofs.Ytmljhkoabhjiaaa
