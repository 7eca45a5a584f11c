/-
  Contracts of the aggregates: the program's aggregated, Aggregate, MergeAggregates.
-/
import Derived.Test.YtmljhkoabhjiaaaProg
import Derived.Test.YtmljhkoabhjiaaaAgI
namespace Go.Proofs.Ytmljhkoabhjiaaa
open Go.RowKit Go.Qo
set_option linter.unusedVariables false
set_option linter.unusedSimpArgs false

set_option maxHeartbeats 1000000 in
theorem rcResult_ok (b : Nat) (n : Int) (t : TypeId) (cs : List Value) (w : World) (h : Row w b t cs) (hc : cs[0]? = some (.int .i64 n)) :
    Calls Try.prog 162 #[.pointer (some ⟨b, 0, none⟩)] w fun e w' => e = .returned (vAgg (numV n)) ∧ Below w.heap.size w w' := by
  have hlt := h.lt
  have c0 := (h.cell 0).trans hc
  have HN := Lib.hid (fun z => numberOrNull_ok n z)
  clear h hc
  go_enter Try.func162, Try.ntmps162
  go_wp2_with fail
  refine (HN.out _).mono ?_
  rintro e w1 ⟨rfl, hb1⟩
  have r1 := (Row.new w 25 #[.bool false, .int .i64 0]).on hb1
  have HB := Lib.hid (bch (balloc (Below.refl w.heap.size w) _) hb1)
  clear c0 hb1
  have q0 := r1.lt
  have q1 := r1.frozen 0
  have q2 := r1.frozen 1
  have q3 : w1.cell? ⟨w.heap.size, 0, none⟩ = some (.bool false) := r1.cell 0
  have q4 : w1.cell? ⟨w.heap.size, 1, none⟩ = some (.int .i64 0) := r1.cell 1
  clear r1
  unfold vAgg
  go_wp2
  exact bodyPost_ret (v := .agg #[.bool (numV n).1, .int .i64 (numV n).2]) (by simp [results, Try.results162, go_sem, q0, q1, q2, q3, q4]) rfl ⟨rfl, below_put HB.out (Nat.le_refl _) _ _⟩

set_option maxHeartbeats 1000000 in
theorem smResult_ok (b : Nat) (n s : Int) (t : TypeId) (w : World) (h : Row w b t [.int .i64 n, .int .i64 s]) :
    Calls Try.prog 167 #[.pointer (some ⟨b, 0, none⟩)] w fun e w' => e = .returned (vAgg (if n = 0 then (true, 0) else numV s)) ∧ Below w.heap.size w w' := by
  have hlt := h.lt
  have c0 : w.cell? ⟨b, 0, none⟩ = some (.int .i64 n) := h.cell 0
  have c1 : w.cell? ⟨b, 1, none⟩ = some (.int .i64 s) := h.cell 1
  have HN := Lib.hid (fun z => numberOrNull_ok s z)
  have HU := Lib.hid (fun z => implNull_ok z)
  clear h
  by_cases hn : n = 0
  · subst hn
    rw [if_pos rfl]
    go_enter Try.func167, Try.ntmps167
    go_wp2_with fail
    refine (HU.out _).mono ?_
    rintro e w1 ⟨rfl, hb1⟩
    have r1 := (Row.new w 25 #[.bool false, .int .i64 0]).on hb1
    have HB := Lib.hid (bch (balloc (Below.refl w.heap.size w) _) hb1)
    clear c0 c1 hb1
    have q0 := r1.lt
    have q1 := r1.frozen 0
    have q2 := r1.frozen 1
    have q3 : w1.cell? ⟨w.heap.size, 0, none⟩ = some (.bool false) := r1.cell 0
    have q4 : w1.cell? ⟨w.heap.size, 1, none⟩ = some (.int .i64 0) := r1.cell 1
    clear r1
    go_wp2
    exact bodyPost_ret (v := .agg #[.bool true, .int .i64 0]) (by simp [results, Try.results167, go_sem, q0, q1, q2, q3, q4]) rfl ⟨rfl, below_put HB.out (Nat.le_refl _) _ _⟩
  · have hn' : (n == 0) = false := by simp [hn]
    rw [if_neg hn]
    go_enter Try.func167, Try.ntmps167
    go_wp2_with fail
    refine (HN.out _).mono ?_
    rintro e w1 ⟨rfl, hb1⟩
    have r1 := (Row.new w 25 #[.bool false, .int .i64 0]).on hb1
    have HB := Lib.hid (bch (balloc (Below.refl w.heap.size w) _) hb1)
    clear c0 c1 hb1
    have q0 := r1.lt
    have q1 := r1.frozen 0
    have q2 := r1.frozen 1
    have q3 : w1.cell? ⟨w.heap.size, 0, none⟩ = some (.bool false) := r1.cell 0
    have q4 : w1.cell? ⟨w.heap.size, 1, none⟩ = some (.int .i64 0) := r1.cell 1
    clear r1
    unfold vAgg
    go_wp2
    exact bodyPost_ret (v := .agg #[.bool (numV s).1, .int .i64 (numV s).2]) (by simp [results, Try.results167, go_sem, q0, q1, q2, q3, q4]) rfl ⟨rfl, below_put HB.out (Nat.le_refl _) _ _⟩

set_option maxHeartbeats 1000000 in
theorem chResult_ok (b : Nat) (a : Val) (sg : Int) (t : TypeId) (w : World) (h : Row w b t [.bool a.1, .int .i64 a.2, .int .i64 sg]) :
    Calls Try.prog 169 #[.pointer (some ⟨b, 0, none⟩)] w fun e w' => e = .returned (vAgg a) ∧ Below w.heap.size w w' := by
  have hlt := h.lt
  have c0 : w.cell? ⟨b, 0, none⟩ = some (.bool a.1) := h.cell 0
  have c1 : w.cell? ⟨b, 1, none⟩ = some (.int .i64 a.2) := h.cell 1
  clear h
  go_enter Try.func169, Try.ntmps169
  go_wp2
  exact bodyPost_ret (v := .agg #[.bool a.1, .int .i64 a.2]) (by simp [results, Try.results169, go_sem]) rfl ⟨rfl, balloc (Below.refl _ _) _⟩

set_option maxHeartbeats 400000 in
theorem accOf1_ok (k : Int) (hk : k = 1) (w : World) :
    Calls Try.prog 98 #[.int .i64 k] w fun e w' => ∃ b : Nat, e = .returned (.iface 133 (.pointer (some ⟨b, 0, none⟩))) ∧ w.heap.size ≤ b ∧ Row w' b 135 [.int .i64 0] ∧ Below w.heap.size w w' := by
  subst hk
  go_enter Try.func98, Try.ntmps98
  go_wp2
  go_ret
  exact ⟨_, rfl, Nat.le_refl _, (Row.new w _ _).of rfl, balloc (Below.refl _ _) _⟩
set_option maxHeartbeats 400000 in
theorem accOf2_ok (k : Int) (hk : k = 2) (w : World) :
    Calls Try.prog 98 #[.int .i64 k] w fun e w' => ∃ b : Nat, e = .returned (.iface 136 (.pointer (some ⟨b, 0, none⟩))) ∧ w.heap.size ≤ b ∧ Row w' b 138 [.int .i64 0] ∧ Below w.heap.size w w' := by
  subst hk
  go_enter Try.func98, Try.ntmps98
  go_wp2
  go_ret
  exact ⟨_, rfl, Nat.le_refl _, (Row.new w _ _).of rfl, balloc (Below.refl _ _) _⟩
set_option maxHeartbeats 400000 in
theorem accOf3_ok (k : Int) (hk : k = 3) (w : World) :
    Calls Try.prog 98 #[.int .i64 k] w fun e w' => ∃ b : Nat, e = .returned (.iface 139 (.pointer (some ⟨b, 0, none⟩))) ∧ w.heap.size ≤ b ∧ Row w' b 141 [.int .i64 0, .int .i64 0] ∧ Below w.heap.size w w' := by
  subst hk
  go_enter Try.func98, Try.ntmps98
  go_wp2
  go_ret
  exact ⟨_, rfl, Nat.le_refl _, (Row.new w _ _).of rfl, balloc (Below.refl _ _) _⟩
set_option maxHeartbeats 400000 in
theorem accOf4_ok (k : Int) (hk : k = 4) (w : World) :
    Calls Try.prog 98 #[.int .i64 k] w fun e w' => ∃ b : Nat, e = .returned (.iface 142 (.pointer (some ⟨b, 0, none⟩))) ∧ w.heap.size ≤ b ∧ Row w' b 144 [.bool true, .int .i64 0, .int .i64 1] ∧ Below w.heap.size w w' := by
  subst hk
  have HU := Lib.hid (fun z => implNull_ok z)
  go_enter Try.func98, Try.ntmps98
  go_wp2_with fail
  refine (HU.out _).mono ?_
  rintro e w1 ⟨rfl, hb1⟩
  have HB := Lib.hid hb1
  have hsz := hb1.size
  clear hb1
  go_wp2
  go_ret
  exact ⟨_, rfl, hsz, (Row.new w1 _ _).of rfl, balloc HB.out _⟩
set_option maxHeartbeats 400000 in
theorem accOf5_ok (k : Int) (hk : k = 5) (w : World) :
    Calls Try.prog 98 #[.int .i64 k] w fun e w' => ∃ b : Nat, e = .returned (.iface 142 (.pointer (some ⟨b, 0, none⟩))) ∧ w.heap.size ≤ b ∧ Row w' b 144 [.bool true, .int .i64 0, .int .i64 (-1)] ∧ Below w.heap.size w w' := by
  subst hk
  have HU := Lib.hid (fun z => implNull_ok z)
  go_enter Try.func98, Try.ntmps98
  go_wp2_with fail
  refine (HU.out _).mono ?_
  rintro e w1 ⟨rfl, hb1⟩
  have HB := Lib.hid hb1
  have hsz := hb1.size
  clear hb1
  go_wp2
  go_ret
  exact ⟨_, rfl, hsz, (Row.new w1 _ _).of rfl, balloc HB.out _⟩
theorem mth_rowCounter_add (b : Nat) (w : World) : (method 291 133 (.pointer (some ⟨b, 0, none⟩)) "loop.example/queryoptimizer/impl.add").run Try.prog w = .ok (161, .pointer (some ⟨b, 0, none⟩)) w := by kernel_rfl
theorem mth_rowCounter_result (b : Nat) (w : World) : (method 291 133 (.pointer (some ⟨b, 0, none⟩)) "loop.example/queryoptimizer/impl.result").run Try.prog w = .ok (162, .pointer (some ⟨b, 0, none⟩)) w := by kernel_rfl
set_option maxRecDepth 20000 in
set_option maxHeartbeats 1000000 in
theorem aggregated1_ok (A : Option Addr) (c : Nat) (xs : List Val) (w : World) (hn : xs.length ≤ 1048576) (hv : ∀ x ∈ xs, vValid x = true) (h : Sl 2 valC w w.heap.size A xs) :
    Calls Try.prog 59 #[.slice A xs.length c, .int .i64 1] w fun e w' => e = .returned (vAgg (aggF 1 xs)) ∧ Below w.heap.size w w' := by
  have HV := Lib.hid hv
  have HO := Lib.hid (fun z => accOf1_ok 1 rfl z)
  have hmA := mth_rowCounter_add
  have hmR := mth_rowCounter_result
  clear hv
  go_enter Try.func59, Try.ntmps59
  go_wp2_with fail
  refine (HO.out _).mono ?_
  rintro e w1 ⟨b, rfl, hbs, hr1, hb1⟩
  have r1 := (Row.new w 25 #[.bool false, .int .i64 0]).on hb1
  have HB1 := Lib.hid (And.intro (bch (balloc (Below.refl w.heap.size w) _) hb1) (And.intro r1 hr1))
  have hbs : w.heap.size + 1 ≤ b := by simpa using hbs
  clear r1 hr1 hb1
  go_wp2
  go_loopg [12] xs.length (fun g iv wr => ∃ i : Nat, i ≤ xs.length ∧ g = xs.length - i ∧ iv = .int .i64 i ∧ Below w.heap.size w wr ∧ Row wr w.heap.size 25 [.bool false, .int .i64 0] ∧ Row wr b 135 [.int .i64 i])
  case atStart => exact ⟨0, by omega, by omega, rfl, HB1.out.1, HB1.out.2.1, HB1.out.2.2.of (by simp)⟩
  case round =>
    obtain ⟨i, hi, rfl, rfl, hb, hr0, hr⟩ := hrel
    have HR := Lib.hid (And.intro hb (And.intro hr0 hr))
    have hbl := hr.lt
    have hnn := nnN_le (xs.take i)
    rw [List.length_take] at hnn
    have hss := sumN_range (xs.take i) (take_valid HV.out i)
    rw [List.length_take] at hss
    by_cases hlt : i < xs.length
    · obtain ⟨b1, off, rfl, hB, c0, c1⟩ := Val.at_ (h.on hb) hlt
      have hx := Lib.hid (List.getElem?_eq_getElem hlt)
      have hvx := vValid_range (HV.out _ (List.getElem_mem hlt))
      generalize xs[i] = x at *
      have HA := Lib.hid ((fun o => rcAdd_ok b i _ _ x _ (hr.alloc o) rfl (by omega) (by omega)) (.cells #[.bool x.1, .int .i64 x.2] 25))
      have HT := Lib.hid (take_at hx.out)
      clear hr0 hr hnn hss hvx
      go_wp2_with fail
      refine HA.out.mono ?_
      rintro e w2 ⟨rfl, hr2, hb2⟩
      have H2 := Lib.hid (And.intro hr2 hb2)
      clear hr2 hb2
      go_wp2
      go_roundg (xs.length - (i + 1))
      case measure => omega
      case rel =>
        have q := H2.out.1
        refine ⟨i + 1, by omega, rfl, by go_num, Only.from_ (balloc HR.out.1 _) rfl H2.out.2 (fun i hi => by omega), (HR.out.2.1.alloc _).only H2.out.2 (by omega), ?_⟩
        exact q.of rfl
    · obtain rfl : i = xs.length := by omega
      have HS := Lib.hid (rcResult_ok b xs.length _ _ wr HR.out.2.2 rfl)
      clear hr0 hr hnn hss
      go_wp2_with fail
      refine HS.out.mono ?_
      rintro e w2 ⟨rfl, hb2⟩
      have r2 := HR.out.2.1.on hb2
      have HB := Lib.hid (bch HR.out.1 hb2)
      clear hb2
      have q0 := r2.lt
      have q1 := r2.frozen 0
      have q2 := r2.frozen 1
      have q3 : w2.cell? ⟨w.heap.size, 0, none⟩ = some (.bool false) := r2.cell 0
      have q4 : w2.cell? ⟨w.heap.size, 1, none⟩ = some (.int .i64 0) := r2.cell 1
      clear r2
      unfold vAgg
      go_wp2
      exact bodyPost_ret (v := .agg #[.bool (numV xs.length).1, .int .i64 (numV xs.length).2]) (by simp [results, Try.results59, go_sem, q0, q1, q2, q3, q4]) rfl ⟨congrArg (fun v => Ending.returned (vAgg v)) (show numV xs.length = aggF 1 xs from by simp [aggF]), below_put HB.out (Nat.le_refl _) _ _⟩

theorem mth_valueCounter_add (b : Nat) (w : World) : (method 291 136 (.pointer (some ⟨b, 0, none⟩)) "loop.example/queryoptimizer/impl.add").run Try.prog w = .ok (165, .pointer (some ⟨b, 0, none⟩)) w := by kernel_rfl
theorem mth_valueCounter_result (b : Nat) (w : World) : (method 291 136 (.pointer (some ⟨b, 0, none⟩)) "loop.example/queryoptimizer/impl.result").run Try.prog w = .ok (162, .pointer (some ⟨b, 0, none⟩)) w := by kernel_rfl
set_option maxRecDepth 20000 in
set_option maxHeartbeats 1000000 in
theorem aggregated2_ok (A : Option Addr) (c : Nat) (xs : List Val) (w : World) (hn : xs.length ≤ 1048576) (hv : ∀ x ∈ xs, vValid x = true) (h : Sl 2 valC w w.heap.size A xs) :
    Calls Try.prog 59 #[.slice A xs.length c, .int .i64 2] w fun e w' => e = .returned (vAgg (aggF 2 xs)) ∧ Below w.heap.size w w' := by
  have HV := Lib.hid hv
  have HO := Lib.hid (fun z => accOf2_ok 2 rfl z)
  have hmA := mth_valueCounter_add
  have hmR := mth_valueCounter_result
  clear hv
  go_enter Try.func59, Try.ntmps59
  go_wp2_with fail
  refine (HO.out _).mono ?_
  rintro e w1 ⟨b, rfl, hbs, hr1, hb1⟩
  have r1 := (Row.new w 25 #[.bool false, .int .i64 0]).on hb1
  have HB1 := Lib.hid (And.intro (bch (balloc (Below.refl w.heap.size w) _) hb1) (And.intro r1 hr1))
  have hbs : w.heap.size + 1 ≤ b := by simpa using hbs
  clear r1 hr1 hb1
  go_wp2
  go_loopg [12] xs.length (fun g iv wr => ∃ i : Nat, i ≤ xs.length ∧ g = xs.length - i ∧ iv = .int .i64 i ∧ Below w.heap.size w wr ∧ Row wr w.heap.size 25 [.bool false, .int .i64 0] ∧ Row wr b 138 [.int .i64 (nnN (xs.take i))])
  case atStart => exact ⟨0, by omega, by omega, rfl, HB1.out.1, HB1.out.2.1, HB1.out.2.2.of (by simp)⟩
  case round =>
    obtain ⟨i, hi, rfl, rfl, hb, hr0, hr⟩ := hrel
    have HR := Lib.hid (And.intro hb (And.intro hr0 hr))
    have hbl := hr.lt
    have hnn := nnN_le (xs.take i)
    rw [List.length_take] at hnn
    have hss := sumN_range (xs.take i) (take_valid HV.out i)
    rw [List.length_take] at hss
    by_cases hlt : i < xs.length
    · obtain ⟨b1, off, rfl, hB, c0, c1⟩ := Val.at_ (h.on hb) hlt
      have hx := Lib.hid (List.getElem?_eq_getElem hlt)
      have hvx := vValid_range (HV.out _ (List.getElem_mem hlt))
      generalize xs[i] = x at *
      have HA := Lib.hid ((fun o => vcAdd_ok b (nnN (xs.take i)) _ _ x _ (hr.alloc o) rfl (by omega) (by omega)) (.cells #[.bool x.1, .int .i64 x.2] 25))
      have HT := Lib.hid (take_at hx.out)
      clear hr0 hr hnn hss hvx
      go_wp2_with fail
      refine HA.out.mono ?_
      rintro e w2 ⟨rfl, hr2, hb2⟩
      have H2 := Lib.hid (And.intro hr2 hb2)
      clear hr2 hb2
      go_wp2
      go_roundg (xs.length - (i + 1))
      case measure => omega
      case rel =>
        have q := H2.out.1
        refine ⟨i + 1, by omega, rfl, by go_num, Only.from_ (balloc HR.out.1 _) rfl H2.out.2 (fun i hi => by omega), (HR.out.2.1.alloc _).only H2.out.2 (by omega), ?_⟩
        rw [HT.out, nnN_append, nnN_one]; refine q.of ?_; cases x.1 <;> simp
    · obtain rfl : i = xs.length := by omega
      have HS := Lib.hid (rcResult_ok b (nnN xs) _ _ wr (HR.out.2.2.of (by rw [List.take_length])) rfl)
      clear hr0 hr hnn hss
      go_wp2_with fail
      refine HS.out.mono ?_
      rintro e w2 ⟨rfl, hb2⟩
      have r2 := HR.out.2.1.on hb2
      have HB := Lib.hid (bch HR.out.1 hb2)
      clear hb2
      have q0 := r2.lt
      have q1 := r2.frozen 0
      have q2 := r2.frozen 1
      have q3 : w2.cell? ⟨w.heap.size, 0, none⟩ = some (.bool false) := r2.cell 0
      have q4 : w2.cell? ⟨w.heap.size, 1, none⟩ = some (.int .i64 0) := r2.cell 1
      clear r2
      unfold vAgg
      go_wp2
      exact bodyPost_ret (v := .agg #[.bool (numV (nnN xs)).1, .int .i64 (numV (nnN xs)).2]) (by simp [results, Try.results59, go_sem, q0, q1, q2, q3, q4]) rfl ⟨congrArg (fun v => Ending.returned (vAgg v)) (show numV (nnN xs) = aggF 2 xs from by simp [aggF]), below_put HB.out (Nat.le_refl _) _ _⟩

theorem mth_summer_add (b : Nat) (w : World) : (method 291 139 (.pointer (some ⟨b, 0, none⟩)) "loop.example/queryoptimizer/impl.add").run Try.prog w = .ok (166, .pointer (some ⟨b, 0, none⟩)) w := by kernel_rfl
theorem mth_summer_result (b : Nat) (w : World) : (method 291 139 (.pointer (some ⟨b, 0, none⟩)) "loop.example/queryoptimizer/impl.result").run Try.prog w = .ok (167, .pointer (some ⟨b, 0, none⟩)) w := by kernel_rfl
set_option maxRecDepth 20000 in
set_option maxHeartbeats 1000000 in
theorem aggregated3_ok (A : Option Addr) (c : Nat) (xs : List Val) (w : World) (hn : xs.length ≤ 1048576) (hv : ∀ x ∈ xs, vValid x = true) (h : Sl 2 valC w w.heap.size A xs) :
    Calls Try.prog 59 #[.slice A xs.length c, .int .i64 3] w fun e w' => e = .returned (vAgg (aggF 3 xs)) ∧ Below w.heap.size w w' := by
  have HV := Lib.hid hv
  have HO := Lib.hid (fun z => accOf3_ok 3 rfl z)
  have hmA := mth_summer_add
  have hmR := mth_summer_result
  clear hv
  go_enter Try.func59, Try.ntmps59
  go_wp2_with fail
  refine (HO.out _).mono ?_
  rintro e w1 ⟨b, rfl, hbs, hr1, hb1⟩
  have r1 := (Row.new w 25 #[.bool false, .int .i64 0]).on hb1
  have HB1 := Lib.hid (And.intro (bch (balloc (Below.refl w.heap.size w) _) hb1) (And.intro r1 hr1))
  have hbs : w.heap.size + 1 ≤ b := by simpa using hbs
  clear r1 hr1 hb1
  go_wp2
  go_loopg [12] xs.length (fun g iv wr => ∃ i : Nat, i ≤ xs.length ∧ g = xs.length - i ∧ iv = .int .i64 i ∧ Below w.heap.size w wr ∧ Row wr w.heap.size 25 [.bool false, .int .i64 0] ∧ Row wr b 141 [.int .i64 (nnN (xs.take i)), .int .i64 (sumN (xs.take i))])
  case atStart => exact ⟨0, by omega, by omega, rfl, HB1.out.1, HB1.out.2.1, HB1.out.2.2.of (by simp)⟩
  case round =>
    obtain ⟨i, hi, rfl, rfl, hb, hr0, hr⟩ := hrel
    have HR := Lib.hid (And.intro hb (And.intro hr0 hr))
    have hbl := hr.lt
    have hnn := nnN_le (xs.take i)
    rw [List.length_take] at hnn
    have hss := sumN_range (xs.take i) (take_valid HV.out i)
    rw [List.length_take] at hss
    by_cases hlt : i < xs.length
    · obtain ⟨b1, off, rfl, hB, c0, c1⟩ := Val.at_ (h.on hb) hlt
      have hx := Lib.hid (List.getElem?_eq_getElem hlt)
      have hvx := vValid_range (HV.out _ (List.getElem_mem hlt))
      generalize xs[i] = x at *
      have HA := Lib.hid ((fun o => smAdd_ok b (nnN (xs.take i)) (sumN (xs.take i)) _ x _ (hr.alloc o) (by omega) (by omega) (by omega) (by omega) (by omega) (by omega)) (.cells #[.bool x.1, .int .i64 x.2] 25))
      have HT := Lib.hid (take_at hx.out)
      clear hr0 hr hnn hss hvx
      go_wp2_with fail
      refine HA.out.mono ?_
      rintro e w2 ⟨rfl, hr2, hb2⟩
      have H2 := Lib.hid (And.intro hr2 hb2)
      clear hr2 hb2
      go_wp2
      go_roundg (xs.length - (i + 1))
      case measure => omega
      case rel =>
        have q := H2.out.1
        refine ⟨i + 1, by omega, rfl, by go_num, Only.from_ (balloc HR.out.1 _) rfl H2.out.2 (fun i hi => by omega), (HR.out.2.1.alloc _).only H2.out.2 (by omega), ?_⟩
        rw [HT.out, nnN_append, nnN_one, sumN_append, sumN_one]; refine q.of ?_; cases x.1 <;> simp
    · obtain rfl : i = xs.length := by omega
      have HS := Lib.hid (smResult_ok b (nnN xs) (sumN xs) _ wr (HR.out.2.2.of (by rw [List.take_length])))
      obtain ⟨v3, hv3⟩ : ∃ v : Val, (if (nnN xs : Int) = 0 then (true, 0) else numV (sumN xs)) = v := ⟨_, rfl⟩
      rw [hv3] at HS
      have HV3 := Lib.hid hv3
      clear hr0 hr hnn hss hv3
      go_wp2_with fail
      refine HS.out.mono ?_
      rintro e w2 ⟨rfl, hb2⟩
      have r2 := HR.out.2.1.on hb2
      have HB := Lib.hid (bch HR.out.1 hb2)
      clear hb2
      have q0 := r2.lt
      have q1 := r2.frozen 0
      have q2 := r2.frozen 1
      have q3 : w2.cell? ⟨w.heap.size, 0, none⟩ = some (.bool false) := r2.cell 0
      have q4 : w2.cell? ⟨w.heap.size, 1, none⟩ = some (.int .i64 0) := r2.cell 1
      clear r2
      unfold vAgg
      go_wp2
      exact bodyPost_ret (v := .agg #[.bool v3.1, .int .i64 v3.2]) (by simp [results, Try.results59, go_sem, q0, q1, q2, q3, q4]) rfl ⟨congrArg (fun v => Ending.returned (vAgg v)) (show v3 = aggF 3 xs from by rw [← HV3.out]; simp [aggF]), below_put HB.out (Nat.le_refl _) _ _⟩

theorem mth_chooser_add (b : Nat) (w : World) : (method 291 142 (.pointer (some ⟨b, 0, none⟩)) "loop.example/queryoptimizer/impl.add").run Try.prog w = .ok (168, .pointer (some ⟨b, 0, none⟩)) w := by kernel_rfl
theorem mth_chooser_result (b : Nat) (w : World) : (method 291 142 (.pointer (some ⟨b, 0, none⟩)) "loop.example/queryoptimizer/impl.result").run Try.prog w = .ok (169, .pointer (some ⟨b, 0, none⟩)) w := by kernel_rfl
set_option maxRecDepth 20000 in
set_option maxHeartbeats 1000000 in
theorem aggregated4_ok (A : Option Addr) (c : Nat) (xs : List Val) (w : World) (hn : xs.length ≤ 1048576) (hv : ∀ x ∈ xs, vValid x = true) (h : Sl 2 valC w w.heap.size A xs) :
    Calls Try.prog 59 #[.slice A xs.length c, .int .i64 4] w fun e w' => e = .returned (vAgg (aggF 4 xs)) ∧ Below w.heap.size w w' := by
  have HV := Lib.hid hv
  have HO := Lib.hid (fun z => accOf4_ok 4 rfl z)
  have hmA := mth_chooser_add
  have hmR := mth_chooser_result
  clear hv
  go_enter Try.func59, Try.ntmps59
  go_wp2_with fail
  refine (HO.out _).mono ?_
  rintro e w1 ⟨b, rfl, hbs, hr1, hb1⟩
  have r1 := (Row.new w 25 #[.bool false, .int .i64 0]).on hb1
  have HB1 := Lib.hid (And.intro (bch (balloc (Below.refl w.heap.size w) _) hb1) (And.intro r1 hr1))
  have hbs : w.heap.size + 1 ≤ b := by simpa using hbs
  clear r1 hr1 hb1
  go_wp2
  go_loopg [12] xs.length (fun g iv wr => ∃ i : Nat, i ≤ xs.length ∧ g = xs.length - i ∧ iv = .int .i64 i ∧ Below w.heap.size w wr ∧ Row wr w.heap.size 25 [.bool false, .int .i64 0] ∧ Row wr b 144 [.bool (lowN (xs.take i)).1, .int .i64 (lowN (xs.take i)).2, .int .i64 1])
  case atStart => exact ⟨0, by omega, by omega, rfl, HB1.out.1, HB1.out.2.1, HB1.out.2.2.of (by simp)⟩
  case round =>
    obtain ⟨i, hi, rfl, rfl, hb, hr0, hr⟩ := hrel
    have HR := Lib.hid (And.intro hb (And.intro hr0 hr))
    have hbl := hr.lt
    have hnn := nnN_le (xs.take i)
    rw [List.length_take] at hnn
    have hss := sumN_range (xs.take i) (take_valid HV.out i)
    rw [List.length_take] at hss
    by_cases hlt : i < xs.length
    · obtain ⟨b1, off, rfl, hB, c0, c1⟩ := Val.at_ (h.on hb) hlt
      have hx := Lib.hid (List.getElem?_eq_getElem hlt)
      have hvx := vValid_range (HV.out _ (List.getElem_mem hlt))
      generalize xs[i] = x at *
      have HA := Lib.hid ((fun o => chAdd_ok b (lowN (xs.take i)) x 1 _ _ (.inl rfl) (hr.alloc o)) (.cells #[.bool x.1, .int .i64 x.2] 25))
      have HT := Lib.hid (take_at hx.out)
      clear hr0 hr hnn hss hvx
      go_wp2_with fail
      refine HA.out.mono ?_
      rintro e w2 ⟨rfl, hr2, hb2⟩
      have H2 := Lib.hid (And.intro hr2 hb2)
      clear hr2 hb2
      go_wp2
      go_roundg (xs.length - (i + 1))
      case measure => omega
      case rel =>
        have q := H2.out.1
        refine ⟨i + 1, by omega, rfl, by go_num, Only.from_ (balloc HR.out.1 _) rfl H2.out.2 (fun i hi => by omega), (HR.out.2.1.alloc _).only H2.out.2 (by omega), ?_⟩
        rw [HT.out, lowN_snoc, ← chS_low]; exact q
    · obtain rfl : i = xs.length := by omega
      have HS := Lib.hid (chResult_ok b (lowN xs) 1 _ wr (HR.out.2.2.of (by rw [List.take_length])))
      clear hr0 hr hnn hss
      go_wp2_with fail
      refine HS.out.mono ?_
      rintro e w2 ⟨rfl, hb2⟩
      have r2 := HR.out.2.1.on hb2
      have HB := Lib.hid (bch HR.out.1 hb2)
      clear hb2
      have q0 := r2.lt
      have q1 := r2.frozen 0
      have q2 := r2.frozen 1
      have q3 : w2.cell? ⟨w.heap.size, 0, none⟩ = some (.bool false) := r2.cell 0
      have q4 : w2.cell? ⟨w.heap.size, 1, none⟩ = some (.int .i64 0) := r2.cell 1
      clear r2
      unfold vAgg
      go_wp2
      exact bodyPost_ret (v := .agg #[.bool (lowN xs).1, .int .i64 (lowN xs).2]) (by simp [results, Try.results59, go_sem, q0, q1, q2, q3, q4]) rfl ⟨congrArg (fun v => Ending.returned (vAgg v)) (show lowN xs = aggF 4 xs from by simp [aggF]), below_put HB.out (Nat.le_refl _) _ _⟩

set_option maxRecDepth 20000 in
set_option maxHeartbeats 1000000 in
theorem aggregated5_ok (A : Option Addr) (c : Nat) (xs : List Val) (w : World) (hn : xs.length ≤ 1048576) (hv : ∀ x ∈ xs, vValid x = true) (h : Sl 2 valC w w.heap.size A xs) :
    Calls Try.prog 59 #[.slice A xs.length c, .int .i64 5] w fun e w' => e = .returned (vAgg (aggF 5 xs)) ∧ Below w.heap.size w w' := by
  have HV := Lib.hid hv
  have HO := Lib.hid (fun z => accOf5_ok 5 rfl z)
  have hmA := mth_chooser_add
  have hmR := mth_chooser_result
  clear hv
  go_enter Try.func59, Try.ntmps59
  go_wp2_with fail
  refine (HO.out _).mono ?_
  rintro e w1 ⟨b, rfl, hbs, hr1, hb1⟩
  have r1 := (Row.new w 25 #[.bool false, .int .i64 0]).on hb1
  have HB1 := Lib.hid (And.intro (bch (balloc (Below.refl w.heap.size w) _) hb1) (And.intro r1 hr1))
  have hbs : w.heap.size + 1 ≤ b := by simpa using hbs
  clear r1 hr1 hb1
  go_wp2
  go_loopg [12] xs.length (fun g iv wr => ∃ i : Nat, i ≤ xs.length ∧ g = xs.length - i ∧ iv = .int .i64 i ∧ Below w.heap.size w wr ∧ Row wr w.heap.size 25 [.bool false, .int .i64 0] ∧ Row wr b 144 [.bool (highN (xs.take i)).1, .int .i64 (highN (xs.take i)).2, .int .i64 (-1)])
  case atStart => exact ⟨0, by omega, by omega, rfl, HB1.out.1, HB1.out.2.1, HB1.out.2.2.of (by simp)⟩
  case round =>
    obtain ⟨i, hi, rfl, rfl, hb, hr0, hr⟩ := hrel
    have HR := Lib.hid (And.intro hb (And.intro hr0 hr))
    have hbl := hr.lt
    have hnn := nnN_le (xs.take i)
    rw [List.length_take] at hnn
    have hss := sumN_range (xs.take i) (take_valid HV.out i)
    rw [List.length_take] at hss
    by_cases hlt : i < xs.length
    · obtain ⟨b1, off, rfl, hB, c0, c1⟩ := Val.at_ (h.on hb) hlt
      have hx := Lib.hid (List.getElem?_eq_getElem hlt)
      have hvx := vValid_range (HV.out _ (List.getElem_mem hlt))
      generalize xs[i] = x at *
      have HA := Lib.hid ((fun o => chAdd_ok b (highN (xs.take i)) x (-1) _ _ (.inr rfl) (hr.alloc o)) (.cells #[.bool x.1, .int .i64 x.2] 25))
      have HT := Lib.hid (take_at hx.out)
      clear hr0 hr hnn hss hvx
      go_wp2_with fail
      refine HA.out.mono ?_
      rintro e w2 ⟨rfl, hr2, hb2⟩
      have H2 := Lib.hid (And.intro hr2 hb2)
      clear hr2 hb2
      go_wp2
      go_roundg (xs.length - (i + 1))
      case measure => omega
      case rel =>
        have q := H2.out.1
        refine ⟨i + 1, by omega, rfl, by go_num, Only.from_ (balloc HR.out.1 _) rfl H2.out.2 (fun i hi => by omega), (HR.out.2.1.alloc _).only H2.out.2 (by omega), ?_⟩
        rw [HT.out, highN_snoc, ← chS_high]; exact q
    · obtain rfl : i = xs.length := by omega
      have HS := Lib.hid (chResult_ok b (highN xs) (-1) _ wr (HR.out.2.2.of (by rw [List.take_length])))
      clear hr0 hr hnn hss
      go_wp2_with fail
      refine HS.out.mono ?_
      rintro e w2 ⟨rfl, hb2⟩
      have r2 := HR.out.2.1.on hb2
      have HB := Lib.hid (bch HR.out.1 hb2)
      clear hb2
      have q0 := r2.lt
      have q1 := r2.frozen 0
      have q2 := r2.frozen 1
      have q3 : w2.cell? ⟨w.heap.size, 0, none⟩ = some (.bool false) := r2.cell 0
      have q4 : w2.cell? ⟨w.heap.size, 1, none⟩ = some (.int .i64 0) := r2.cell 1
      clear r2
      unfold vAgg
      go_wp2
      exact bodyPost_ret (v := .agg #[.bool (highN xs).1, .int .i64 (highN xs).2]) (by simp [results, Try.results59, go_sem, q0, q1, q2, q3, q4]) rfl ⟨congrArg (fun v => Ending.returned (vAgg v)) (show highN xs = aggF 5 xs from by simp [aggF]), below_put HB.out (Nat.le_refl _) _ _⟩

end Go.Proofs.Ytmljhkoabhjiaaa
