/-
  Several texts in one (AgT AgI AgJ AgK).
-/
import Derived.Test.YtlhonhacehgooaaGreatProg
import Derived.Test.YtlhonhacehgooaaGreatZgAgS
import Derived.Deep.RegionLaw
import Derived.StillTailTactics
/-
  Contracts of Aggregate, MergeAggregates: the reference's.
-/
namespace Go.Proofs.YtlhonhacehgooaaGreat
open Go.RowKit Go.Qo
set_option linter.unusedVariables false
set_option linter.unusedSimpArgs false

end Go.Proofs.YtlhonhacehgooaaGreat

/-
  Contracts of the aggregates: the program's accumulators.
-/
namespace Go.Proofs.YtlhonhacehgooaaGreat
open Go.RowKit Go.Qo
set_option linter.unusedVariables false
set_option linter.unusedSimpArgs false

theorem implNull_ok (w : World) : Calls Tryz.prog 169 #[] w fun e w' => e = .returned (.agg #[.bool true, .int .i64 0]) ∧ Below w.heap.size w w' := by
  go_enter Tryz.func169, Tryz.ntmps169
  go_wp2
  exact bodyPost_ret (v := .agg #[.bool true, .int .i64 0]) (by simp [results, Tryz.results169, go_sem]) rfl ⟨rfl, balloc (Below.refl _ _) _⟩
theorem implNumber_ok (n : Int) (w : World) : Calls Tryz.prog 194 #[.int .i64 n] w fun e w' => e = .returned (.agg #[.bool false, .int .i64 n]) ∧ Below w.heap.size w w' := by
  go_enter Tryz.func194, Tryz.ntmps194
  go_wp2
  exact bodyPost_ret (v := .agg #[.bool false, .int .i64 n]) (by simp [results, Tryz.results194, go_sem]) rfl ⟨rfl, balloc (Below.refl _ _) _⟩
set_option maxHeartbeats 400000 in
theorem validAggregate_ok (k : Int) (w : World) (r : Bool) (hr : (decide (1 ≤ k) && decide (k ≤ 5)) = r) : Calls Tryz.prog 74 #[.int .i64 k] w fun e w' => e = .returned (.bool r) ∧ w = w' := by
  subst hr
  by_cases h1 : 1 ≤ k <;> by_cases h2 : k ≤ 5
  all_goals
    go_enter Tryz.func74, Tryz.ntmps74
    go_wp2
    go_ret
    exact ⟨ret_bool (by simp [h1, h2]), rfl⟩
set_option maxHeartbeats 1000000 in
theorem numberOrNull_ok (n : Int) (w : World) : Calls Tryz.prog 222 #[.int .i64 n] w fun e w' => e = .returned (vAgg (numV n)) ∧ Below w.heap.size w w' := by
  obtain ⟨r, hr⟩ : ∃ r, vValid (false, n) = r := ⟨_, rfl⟩
  have HN := Lib.hid (fun z => implNumber_ok n z)
  have HV := Lib.hid (fun z => implValid_ok (false, n) z r hr)
  have HU := Lib.hid (fun z => implNull_ok z)
  have hN : numV n = if r then (false, n) else (true, 0) := by
    unfold numV
    rw [← hr]
    simp [vValid]
  have HNV := Lib.hid hN
  have B0 := Lib.hid (balloc (Below.refl w.heap.size w) (.cells #[.bool false, .int .i64 0] 55))
  clear hN hr
  go_enter Tryz.func222, Tryz.ntmps222
  go_wp2_with fail
  refine (HN.out _).mono ?_
  rintro e w1 ⟨rfl, hb1⟩
  have hr1 := (Row.new w 55 #[.bool false, .int .i64 0]).on hb1
  have HB1 := Lib.hid (bch B0.out hb1)
  have HR1 := Lib.hid (hr1.alloc (.cells #[.bool false, .int .i64 n] 55))
  have HR2 := Lib.hid (Row.new w1 55 #[.bool false, .int .i64 n])
  clear hb1 hr1
  go_wp2_with fail
  refine (HV.out _).mono ?_
  rintro e w2 ⟨rfl, hb2⟩
  have r1 := HR1.out.on hb2
  have r2 := HR2.out.on hb2
  have HB2 := Lib.hid (bch (balloc HB1.out _) hb2)
  have HR3 := Lib.hid r1
  have q0 := r1.lt
  have q1 := r1.frozen 0
  have q2 := r1.frozen 1
  have q3 : w2.cell? ⟨w.heap.size, 0, none⟩ = some (.bool false) := r1.cell 0
  have q4 : w2.cell? ⟨w.heap.size, 1, none⟩ = some (.int .i64 0) := r1.cell 1
  have q5 : w2.cell? ⟨w1.heap.size, 0, none⟩ = some (.bool false) := r2.cell 0
  have q6 : w2.cell? ⟨w1.heap.size, 1, none⟩ = some (.int .i64 n) := r2.cell 1
  clear hb2 r1 r2
  cases r
  · go_wp2_with fail
    refine (HU.out _).mono ?_
    rintro e w3 ⟨rfl, hb3⟩
    have r3 := HR3.out.on hb3
    have HB3 := Lib.hid (bch HB2.out hb3)
    clear q0 q1 q2 q3 q4 q5 q6 hb3
    have q0 := r3.lt
    have q1 := r3.frozen 0
    have q2 := r3.frozen 1
    have q3 : w3.cell? ⟨w.heap.size, 0, none⟩ = some (.bool false) := r3.cell 0
    have q4 : w3.cell? ⟨w.heap.size, 1, none⟩ = some (.int .i64 0) := r3.cell 1
    clear r3
    go_wp2
    exact bodyPost_ret (v := .agg #[.bool true, .int .i64 0]) (by simp [results, Tryz.results222, go_sem, q0, q1, q2, q3, q4]) rfl ⟨(by rw [HNV.out]; rfl), below_put HB3.out (Nat.le_refl _) _ _⟩
  · go_wp2
    exact bodyPost_ret (v := .agg #[.bool false, .int .i64 n]) (by simp [results, Tryz.results222, go_sem, q0, q1, q2, q3, q4]) rfl ⟨(by rw [HNV.out]; rfl), below_put HB2.out (Nat.le_refl _) _ _⟩

set_option maxHeartbeats 400000 in
theorem rcAdd_ok (b : Nat) (n : Int) (t : TypeId) (cs : List Value) (v : Val) (w : World) (h : Row w b t cs) (hc : cs[0]? = some (.int .i64 n)) (h0 : 0 ≤ n) (h1 : n ≤ 1099511627776) :
    Calls Tryz.prog 244 #[.pointer (some ⟨b, 0, none⟩), .agg #[.bool v.1, .int .i64 v.2]] w fun e w' => e = .returned (.tuple #[]) ∧ Row w' b t (cs.set 0 (.int .i64 (n + 1))) ∧ But b w w' := by
  have q0 := h.lt
  have q1 := h.frozen 0
  have q2 := (h.cell 0).trans hc
  have HR := Lib.hid h
  clear h hc
  go_enter Tryz.func244, Tryz.ntmps244
  go_wp2
  go_end0
  exact ⟨rfl, (HR.out.set 0 _).alloc _, ((Only.refl (S := fun k => k = b) w).set (p := ⟨b, 0, none⟩) (.inl rfl) _).alloc _⟩
set_option maxHeartbeats 400000 in
theorem vcAdd_ok (b : Nat) (n : Int) (t : TypeId) (cs : List Value) (v : Val) (w : World) (h : Row w b t cs) (hc : cs[0]? = some (.int .i64 n)) (h0 : 0 ≤ n) (h1 : n ≤ 1099511627776) :
    Calls Tryz.prog 246 #[.pointer (some ⟨b, 0, none⟩), .agg #[.bool v.1, .int .i64 v.2]] w fun e w' => e = .returned (.tuple #[]) ∧ Row w' b t (if v.1 then cs else cs.set 0 (.int .i64 (n + 1))) ∧ But b w w' := by
  have q0 := h.lt
  have q1 := h.frozen 0
  have q2 := (h.cell 0).trans hc
  have HR := Lib.hid h
  clear h hc
  obtain ⟨nv, v⟩ := v
  cases nv
  · go_enter Tryz.func246, Tryz.ntmps246
    go_wp2
    go_end0
    exact ⟨rfl, (HR.out.set 0 _).alloc _, ((Only.refl (S := fun k => k = b) w).set (p := ⟨b, 0, none⟩) (.inl rfl) _).alloc _⟩
  · go_enter Tryz.func246, Tryz.ntmps246
    go_wp2
    go_end0
    exact ⟨rfl, HR.out.alloc _, (Only.refl w).alloc _⟩

set_option maxRecDepth 20000 in
set_option maxHeartbeats 1000000 in
theorem smAdd_ok (b : Nat) (n s : Int) (t : TypeId) (v : Val) (w : World) (h : Row w b t [.int .i64 n, .int .i64 s]) (h0 : 0 ≤ n) (h1 : n ≤ 1099511627776) (hs0 : -1099511627776 ≤ s) (hs1 : s ≤ 1099511627776) (hv0 : -10000 ≤ v.2) (hv1 : v.2 ≤ 10000) :
    Calls Tryz.prog 247 #[.pointer (some ⟨b, 0, none⟩), .agg #[.bool v.1, .int .i64 v.2]] w fun e w' => e = .returned (.tuple #[]) ∧ Row w' b t [.int .i64 (if v.1 then n else n + 1), .int .i64 (s + v.2)] ∧ But b w w' := by
  obtain ⟨n', hn'⟩ : ∃ n', (if v.1 then n else n + 1) = n' := ⟨_, rfl⟩
  have HV := Lib.hid ((vcAdd_ok b n t [.int .i64 n, .int .i64 s] v (w.alloc (.cells #[.bool v.1, .int .i64 v.2] 55)).drew (h.alloc _).drew rfl h0 h1).mono (R' := fun e w' => e = .returned (.tuple #[]) ∧ Row w' b t [.int .i64 n', .int .i64 s] ∧ But b (w.alloc (.cells #[.bool v.1, .int .i64 v.2] 55)).drew w') fun e w' ⟨a1, a2, a3⟩ => ⟨a1, a2.of (by rw [← hn']; split <;> rfl), a3⟩)
  rw [hn']
  clear hn'
  have hlt := h.lt
  have HR := Lib.hid (Row.new w 55 #[.bool v.1, .int .i64 v.2])
  clear h
  go_enter Tryz.func247, Tryz.ntmps247
  go_wp2_with fail
  go_region_law (go_simp; go_at_call 246; refine HV.out.mono ?_; rintro e w1 ⟨rfl, hr1, hb1⟩; have hl1 := hr1.lt; have f1 := hr1.frozen 1; have c1 : w1.cell? ⟨b, 1, none⟩ = some (.int .i64 s) := hr1.cell 1; have HR1 := Lib.hid hr1; have HB1 := Lib.hid hb1; clear hr1 hb1; have d0 : w1.cell? ⟨w.heap.size, 0, none⟩ = some (.bool v.1) := (HR.out.drew.only HB1.out (by omega)).cell 0; have d1 : w1.cell? ⟨w.heap.size, 1, none⟩ = some (.int .i64 v.2) := (HR.out.drew.only HB1.out (by omega)).cell 1)
  all_goals
    go_wp2
    go_still_tail 9, (by kernel_rfl)
    change wpList _ _ _ _ _ w1.drew
    go_wp2
    go_end0
    exact ⟨rfl, (HR1.out.set 1 _), ((((Only.refl (S := fun k => k = b) w).alloc _).drew.trans HB1.out).drew).set (p := ⟨b, 1, none⟩) (.inl rfl) _⟩

def chS (sg : Int) (a v : Val) : Val := if v.1 then a else if a.1 || decide (sg * iCmp v.2 a.2 < 0) then v else a
theorem chS_low (a v : Val) : chS 1 a v = lowS a v := by
  have : (1 * iCmp v.2 a.2 < 0) = (v.2 < a.2) := propext (by unfold iCmp; split <;> (try split) <;> simp <;> omega)
  unfold chS lowS
  simp only [this]
theorem chS_high (a v : Val) : chS (-1) a v = highS a v := by
  have : (-1 * iCmp v.2 a.2 < 0) = (a.2 < v.2) := propext (by unfold iCmp; split <;> (try split) <;> simp <;> omega)
  unfold chS highS
  simp only [this]

set_option maxRecDepth 20000 in
set_option maxHeartbeats 2000000 in
theorem chAdd_ok (b : Nat) (a v : Val) (sg : Int) (t : TypeId) (w : World) (hsg : sg = 1 ∨ sg = -1) (h : Row w b t [.bool a.1, .int .i64 a.2, .int .i64 sg]) :
    Calls Tryz.prog 249 #[.pointer (some ⟨b, 0, none⟩), .agg #[.bool v.1, .int .i64 v.2]] w fun e w' => e = .returned (.tuple #[]) ∧ Row w' b t [.bool (chS sg a v).1, .int .i64 (chS sg a v).2, .int .i64 sg] ∧ But b w w' := by
  have hlt := h.lt
  have HR := Lib.hid h
  have h' := h.alloc (.cells #[.bool v.1, .int .i64 v.2] 55)
  have c0 := fun z : Aft (w.alloc (.cells #[.bool v.1, .int .i64 v.2] 55)).heap.size (w.alloc (.cells #[.bool v.1, .int .i64 v.2] 55)) => z.cell h'.lt (show World.cell? _ ⟨b, 0, none⟩ = some (.bool a.1) from h'.cell 0)
  have c1 := fun z : Aft (w.alloc (.cells #[.bool v.1, .int .i64 v.2] 55)).heap.size (w.alloc (.cells #[.bool v.1, .int .i64 v.2] 55)) => z.cell h'.lt (show World.cell? _ ⟨b, 1, none⟩ = some (.int .i64 a.2) from h'.cell 1)
  have c2 := fun z : Aft (w.alloc (.cells #[.bool v.1, .int .i64 v.2] 55)).heap.size (w.alloc (.cells #[.bool v.1, .int .i64 v.2] 55)) => z.cell h'.lt (show World.cell? _ ⟨b, 2, none⟩ = some (.int .i64 sg) from h'.cell 2)
  have hb := Row.new w 55 #[.bool v.1, .int .i64 v.2]
  have d0 := fun z : Aft (w.alloc (.cells #[.bool v.1, .int .i64 v.2] 55)).heap.size (w.alloc (.cells #[.bool v.1, .int .i64 v.2] 55)) => z.cell hb.lt (show World.cell? _ ⟨w.heap.size, 0, none⟩ = some (.bool v.1) from hb.cell 0)
  have d1 := fun z : Aft (w.alloc (.cells #[.bool v.1, .int .i64 v.2] 55)).heap.size (w.alloc (.cells #[.bool v.1, .int .i64 v.2] 55)) => z.cell hb.lt (show World.cell? _ ⟨w.heap.size, 1, none⟩ = some (.int .i64 v.2) from hb.cell 1)
  have HC := Lib.hid (fun z => implCompare_ok v a z)
  have HB := Lib.hid (And.intro h' hb)
  clear h h' hb
  obtain ⟨nv, v⟩ := v
  obtain ⟨na, a⟩ := a
  cases nv
  · cases na
    · have e0 : pCmp (false, v) (false, a) = iCmp v a := rfl
      rw [e0] at HC
      have hm : iCmp v a = -1 ∨ iCmp v a = 0 ∨ iCmp v a = 1 := by unfold iCmp; split <;> (try split) <;> simp
      rcases hm with hm | hm | hm <;> rcases hsg with rfl | rfl
      all_goals
        rw [hm] at HC
        have HM := Lib.hid hm
        clear hm e0
        dsimp only at *
        go_enter Tryz.func249, Tryz.ntmps249
        go_wp2_with fail
        refine wp_region_aft (w.alloc (.cells #[.bool false, .int .i64 v] 55)).heap.size (by kernel_rfl) (by kernel_rfl) ?_
        repeat (go_big_quiet_step ((go_at_call 160; exact Calls.aft (Nat.le_refl _) (HC.out _))))
        refine wpQuiet_nil ?_
        intro w1 hw'
        obtain ⟨⟨_, hb1⟩, rfl⟩ := hw'
        have R1 := Lib.hid (HB.out.1.on hb1)
        have R2 := Lib.hid (HB.out.2.on hb1)
        have HB1 := Lib.hid (((only_below (S := fun k => k = b) (balloc (Below.refl _ w) (.cells #[.bool false, .int .i64 v] 55)))).below hb1)
        have q0 := R1.out.lt
        have q1 := R1.out.frozen 0
        have q2 := R1.out.frozen 1
        have q3 : w1.cell? ⟨b, 0, none⟩ = some (.bool false) := R1.out.cell 0
        have q4 : w1.cell? ⟨b, 1, none⟩ = some (.int .i64 a) := R1.out.cell 1
        have q5 : w1.cell? ⟨w.heap.size, 0, none⟩ = some (.bool false) := R2.out.cell 0
        have q6 : w1.cell? ⟨w.heap.size, 1, none⟩ = some (.int .i64 v) := R2.out.cell 1
        clear c0 c1 c2 d0 d1 hb1
        go_wp2
        go_end0
        first | exact ⟨rfl, R1.out.of (by simp [chS, HM.out]), HB1.out⟩ | exact ⟨rfl, ((R1.out.set 0 _).set 1 _).of (by simp [chS, HM.out]), (HB1.out.set (p := ⟨b, 0, none⟩) (.inl rfl) _).set (p := ⟨b, 1, none⟩) (.inl rfl) _⟩
    · dsimp only at *
      go_enter Tryz.func249, Tryz.ntmps249
      go_wp2_with fail
      refine wp_region_aft (w.alloc (.cells #[.bool false, .int .i64 v] 55)).heap.size (by kernel_rfl) (by kernel_rfl) ?_
      repeat (go_big_quiet_step (fail))
      refine wpQuiet_nil ?_
      intro w1 hw'
      obtain ⟨⟨_, hb1⟩, rfl⟩ := hw'
      have R1 := Lib.hid (HB.out.1.on hb1)
      have R2 := Lib.hid (HB.out.2.on hb1)
      have HB1 := Lib.hid (((only_below (S := fun k => k = b) (balloc (Below.refl _ w) (.cells #[.bool false, .int .i64 v] 55)))).below hb1)
      have q0 := R1.out.lt
      have q1 := R1.out.frozen 0
      have q2 := R1.out.frozen 1
      have q3 : w1.cell? ⟨b, 0, none⟩ = some (.bool true) := R1.out.cell 0
      have q4 : w1.cell? ⟨b, 1, none⟩ = some (.int .i64 a) := R1.out.cell 1
      have q5 : w1.cell? ⟨w.heap.size, 0, none⟩ = some (.bool false) := R2.out.cell 0
      have q6 : w1.cell? ⟨w.heap.size, 1, none⟩ = some (.int .i64 v) := R2.out.cell 1
      clear c0 c1 c2 d0 d1 hb1
      go_wp2
      go_end0
      exact ⟨rfl, ((R1.out.set 0 _).set 1 _).of (by simp [chS]), (HB1.out.set (p := ⟨b, 0, none⟩) (.inl rfl) _).set (p := ⟨b, 1, none⟩) (.inl rfl) _⟩
  · go_enter Tryz.func249, Tryz.ntmps249
    go_wp2_with fail
    refine wp_region_aft (w.alloc (.cells #[.bool true, .int .i64 v] 55)).heap.size (by kernel_rfl) (by kernel_rfl) ?_
    repeat (go_big_quiet_step (fail))
    refine wpQuiet_nil ?_
    intro w1 hw'
    obtain ⟨⟨_, hb1⟩, rfl⟩ := hw'
    go_wp2
    go_end0
    exact ⟨rfl, HB.out.1.on hb1, (only_below (balloc (Below.refl _ w) _)).below hb1⟩

end Go.Proofs.YtlhonhacehgooaaGreat

/-
  Contracts of the aggregates: the program's aggregated, Aggregate, MergeAggregates.
-/
namespace Go.Proofs.YtlhonhacehgooaaGreat
open Go.RowKit Go.Qo
set_option linter.unusedVariables false
set_option linter.unusedSimpArgs false

set_option maxHeartbeats 1000000 in
theorem rcResult_ok (b : Nat) (n : Int) (t : TypeId) (cs : List Value) (w : World) (h : Row w b t cs) (hc : cs[0]? = some (.int .i64 n)) :
    Calls Tryz.prog 245 #[.pointer (some ⟨b, 0, none⟩)] w fun e w' => e = .returned (vAgg (numV n)) ∧ Below w.heap.size w w' := by
  have hlt := h.lt
  have c0 := (h.cell 0).trans hc
  have HN := Lib.hid (fun z => numberOrNull_ok n z)
  clear h hc
  go_enter Tryz.func245, Tryz.ntmps245
  go_wp2_with fail
  refine (HN.out _).mono ?_
  rintro e w1 ⟨rfl, hb1⟩
  have r1 := (Row.new w 55 #[.bool false, .int .i64 0]).on hb1
  have HB := Lib.hid (bch (balloc (Below.refl w.heap.size w) _) hb1)
  clear c0 hb1
  have q0 := r1.lt
  have q1 := r1.frozen 0
  have q2 := r1.frozen 1
  have q3 : w1.cell? ⟨w.heap.size, 0, none⟩ = some (.bool false) := r1.cell 0
  have q4 : w1.cell? ⟨w.heap.size, 1, none⟩ = some (.int .i64 0) := r1.cell 1
  clear r1
  unfold vAgg
  go_wp2
  exact bodyPost_ret (v := .agg #[.bool (numV n).1, .int .i64 (numV n).2]) (by simp [results, Tryz.results245, go_sem, q0, q1, q2, q3, q4]) rfl ⟨rfl, below_put HB.out (Nat.le_refl _) _ _⟩

set_option maxHeartbeats 1000000 in
theorem smResult_ok (b : Nat) (n s : Int) (t : TypeId) (w : World) (h : Row w b t [.int .i64 n, .int .i64 s]) :
    Calls Tryz.prog 248 #[.pointer (some ⟨b, 0, none⟩)] w fun e w' => e = .returned (vAgg (if n = 0 then (true, 0) else numV s)) ∧ Below w.heap.size w w' := by
  have hlt := h.lt
  have c0 : w.cell? ⟨b, 0, none⟩ = some (.int .i64 n) := h.cell 0
  have c1 : w.cell? ⟨b, 1, none⟩ = some (.int .i64 s) := h.cell 1
  have HN := Lib.hid (fun z => numberOrNull_ok s z)
  have HU := Lib.hid (fun z => implNull_ok z)
  clear h
  by_cases hn : n = 0
  · subst hn
    rw [if_pos rfl]
    go_enter Tryz.func248, Tryz.ntmps248
    go_wp2_with fail
    refine (HU.out _).mono ?_
    rintro e w1 ⟨rfl, hb1⟩
    have r1 := (Row.new w 55 #[.bool false, .int .i64 0]).on hb1
    have HB := Lib.hid (bch (balloc (Below.refl w.heap.size w) _) hb1)
    clear c0 c1 hb1
    have q0 := r1.lt
    have q1 := r1.frozen 0
    have q2 := r1.frozen 1
    have q3 : w1.cell? ⟨w.heap.size, 0, none⟩ = some (.bool false) := r1.cell 0
    have q4 : w1.cell? ⟨w.heap.size, 1, none⟩ = some (.int .i64 0) := r1.cell 1
    clear r1
    go_wp2
    exact bodyPost_ret (v := .agg #[.bool true, .int .i64 0]) (by simp [results, Tryz.results248, go_sem, q0, q1, q2, q3, q4]) rfl ⟨rfl, below_put HB.out (Nat.le_refl _) _ _⟩
  · have hn' : (n == 0) = false := by simp [hn]
    rw [if_neg hn]
    go_enter Tryz.func248, Tryz.ntmps248
    go_wp2_with fail
    refine (HN.out _).mono ?_
    rintro e w1 ⟨rfl, hb1⟩
    have r1 := (Row.new w 55 #[.bool false, .int .i64 0]).on hb1
    have HB := Lib.hid (bch (balloc (Below.refl w.heap.size w) _) hb1)
    clear c0 c1 hb1
    have q0 := r1.lt
    have q1 := r1.frozen 0
    have q2 := r1.frozen 1
    have q3 : w1.cell? ⟨w.heap.size, 0, none⟩ = some (.bool false) := r1.cell 0
    have q4 : w1.cell? ⟨w.heap.size, 1, none⟩ = some (.int .i64 0) := r1.cell 1
    clear r1
    unfold vAgg
    go_wp2
    exact bodyPost_ret (v := .agg #[.bool (numV s).1, .int .i64 (numV s).2]) (by simp [results, Tryz.results248, go_sem, q0, q1, q2, q3, q4]) rfl ⟨rfl, below_put HB.out (Nat.le_refl _) _ _⟩

set_option maxHeartbeats 1000000 in
theorem chResult_ok (b : Nat) (a : Val) (sg : Int) (t : TypeId) (w : World) (h : Row w b t [.bool a.1, .int .i64 a.2, .int .i64 sg]) :
    Calls Tryz.prog 250 #[.pointer (some ⟨b, 0, none⟩)] w fun e w' => e = .returned (vAgg a) ∧ Below w.heap.size w w' := by
  have hlt := h.lt
  have c0 : w.cell? ⟨b, 0, none⟩ = some (.bool a.1) := h.cell 0
  have c1 : w.cell? ⟨b, 1, none⟩ = some (.int .i64 a.2) := h.cell 1
  clear h
  go_enter Tryz.func250, Tryz.ntmps250
  go_wp2
  exact bodyPost_ret (v := .agg #[.bool a.1, .int .i64 a.2]) (by simp [results, Tryz.results250, go_sem]) rfl ⟨rfl, balloc (Below.refl _ _) _⟩

set_option maxHeartbeats 400000 in
theorem accOf1_ok (k : Int) (hk : k = 1) (w : World) :
    Calls Tryz.prog 129 #[.int .i64 k] w fun e w' => ∃ b : Nat, e = .returned (.iface 195 (.pointer (some ⟨b, 0, none⟩))) ∧ w.heap.size ≤ b ∧ Row w' b 197 [.int .i64 0] ∧ Below w.heap.size w w' := by
  subst hk
  go_enter Tryz.func129, Tryz.ntmps129
  go_wp2
  go_ret
  exact ⟨_, rfl, Nat.le_refl _, (Row.new w _ _).of rfl, balloc (Below.refl _ _) _⟩
set_option maxHeartbeats 400000 in
theorem accOf2_ok (k : Int) (hk : k = 2) (w : World) :
    Calls Tryz.prog 129 #[.int .i64 k] w fun e w' => ∃ b : Nat, e = .returned (.iface 198 (.pointer (some ⟨b, 0, none⟩))) ∧ w.heap.size ≤ b ∧ Row w' b 200 [.int .i64 0] ∧ Below w.heap.size w w' := by
  subst hk
  go_enter Tryz.func129, Tryz.ntmps129
  go_wp2
  go_ret
  exact ⟨_, rfl, Nat.le_refl _, (Row.new w _ _).of rfl, balloc (Below.refl _ _) _⟩
set_option maxHeartbeats 400000 in
theorem accOf3_ok (k : Int) (hk : k = 3) (w : World) :
    Calls Tryz.prog 129 #[.int .i64 k] w fun e w' => ∃ b : Nat, e = .returned (.iface 201 (.pointer (some ⟨b, 0, none⟩))) ∧ w.heap.size ≤ b ∧ Row w' b 203 [.int .i64 0, .int .i64 0] ∧ Below w.heap.size w w' := by
  subst hk
  go_enter Tryz.func129, Tryz.ntmps129
  go_wp2
  go_ret
  exact ⟨_, rfl, Nat.le_refl _, (Row.new w _ _).of rfl, balloc (Below.refl _ _) _⟩
set_option maxHeartbeats 400000 in
theorem accOf4_ok (k : Int) (hk : k = 4) (w : World) :
    Calls Tryz.prog 129 #[.int .i64 k] w fun e w' => ∃ b : Nat, e = .returned (.iface 204 (.pointer (some ⟨b, 0, none⟩))) ∧ w.heap.size ≤ b ∧ Row w' b 206 [.bool true, .int .i64 0, .int .i64 1] ∧ Below w.heap.size w w' := by
  subst hk
  have HU := Lib.hid (fun z => implNull_ok z)
  go_enter Tryz.func129, Tryz.ntmps129
  go_wp2_with fail
  refine (HU.out _).mono ?_
  rintro e w1 ⟨rfl, hb1⟩
  have HB := Lib.hid hb1
  have hsz := hb1.size
  clear hb1
  go_wp2
  go_ret
  exact ⟨_, rfl, hsz, (Row.new w1 _ _).of rfl, balloc HB.out _⟩
set_option maxHeartbeats 400000 in
theorem accOf5_ok (k : Int) (hk : k = 5) (w : World) :
    Calls Tryz.prog 129 #[.int .i64 k] w fun e w' => ∃ b : Nat, e = .returned (.iface 204 (.pointer (some ⟨b, 0, none⟩))) ∧ w.heap.size ≤ b ∧ Row w' b 206 [.bool true, .int .i64 0, .int .i64 (-1)] ∧ Below w.heap.size w w' := by
  subst hk
  have HU := Lib.hid (fun z => implNull_ok z)
  go_enter Tryz.func129, Tryz.ntmps129
  go_wp2_with fail
  refine (HU.out _).mono ?_
  rintro e w1 ⟨rfl, hb1⟩
  have HB := Lib.hid hb1
  have hsz := hb1.size
  clear hb1
  go_wp2
  go_ret
  exact ⟨_, rfl, hsz, (Row.new w1 _ _).of rfl, balloc HB.out _⟩
theorem mth_rowCounter_add (b : Nat) (w : World) : (method 359 195 (.pointer (some ⟨b, 0, none⟩)) "loop.example/queryoptimizer/impl.add").run Tryz.prog w = .ok (244, .pointer (some ⟨b, 0, none⟩)) w := by kernel_rfl
theorem mth_rowCounter_result (b : Nat) (w : World) : (method 359 195 (.pointer (some ⟨b, 0, none⟩)) "loop.example/queryoptimizer/impl.result").run Tryz.prog w = .ok (245, .pointer (some ⟨b, 0, none⟩)) w := by kernel_rfl
set_option maxRecDepth 20000 in
set_option maxHeartbeats 1000000 in
theorem aggregated1_ok (A : Option Addr) (c : Nat) (xs : List Val) (w : World) (hn : xs.length ≤ 1048576) (hv : ∀ x ∈ xs, vValid x = true) (h : Sl 2 valC w w.heap.size A xs) :
    Calls Tryz.prog 78 #[.slice A xs.length c, .int .i64 1] w fun e w' => e = .returned (vAgg (aggF 1 xs)) ∧ Below w.heap.size w w' := by
  have HV := Lib.hid hv
  have HO := Lib.hid (fun z => accOf1_ok 1 rfl z)
  have hmA := mth_rowCounter_add
  have hmR := mth_rowCounter_result
  clear hv
  go_enter Tryz.func78, Tryz.ntmps78
  go_wp2_with fail
  refine (HO.out _).mono ?_
  rintro e w1 ⟨b, rfl, hbs, hr1, hb1⟩
  have r1 := (Row.new w 55 #[.bool false, .int .i64 0]).on hb1
  have HB1 := Lib.hid (And.intro (bch (balloc (Below.refl w.heap.size w) _) hb1) (And.intro r1 hr1))
  have hbs : w.heap.size + 1 ≤ b := by simpa using hbs
  clear r1 hr1 hb1
  go_wp2
  go_loopg [12] xs.length (fun g iv wr => ∃ i : Nat, i ≤ xs.length ∧ g = xs.length - i ∧ iv = .int .i64 i ∧ Below w.heap.size w wr ∧ Row wr w.heap.size 55 [.bool false, .int .i64 0] ∧ Row wr b 197 [.int .i64 i])
  case atStart => exact ⟨0, by omega, by omega, rfl, HB1.out.1, HB1.out.2.1, HB1.out.2.2.of (by simp)⟩
  case round =>
    obtain ⟨i, hi, rfl, rfl, hb, hr0, hr⟩ := hrel
    have HR := Lib.hid (And.intro hb (And.intro hr0 hr))
    have hbl := hr.lt
    have hnn := nnN_le (xs.take i)
    rw [List.length_take] at hnn
    have hss := sumN_range (xs.take i) (take_valid HV.out i)
    rw [List.length_take] at hss
    by_cases hlt : i < xs.length
    · obtain ⟨b1, off, rfl, hB, c0, c1⟩ := Val.at_ (h.on hb) hlt
      have hx := Lib.hid (List.getElem?_eq_getElem hlt)
      have hvx := vValid_range (HV.out _ (List.getElem_mem hlt))
      generalize xs[i] = x at *
      have HA := Lib.hid ((fun o => rcAdd_ok b i _ _ x _ (hr.alloc o) rfl (by omega) (by omega)) (.cells #[.bool x.1, .int .i64 x.2] 55))
      have HT := Lib.hid (take_at hx.out)
      clear hr0 hr hnn hss hvx
      go_wp2_with fail
      refine HA.out.mono ?_
      rintro e w2 ⟨rfl, hr2, hb2⟩
      have H2 := Lib.hid (And.intro hr2 hb2)
      clear hr2 hb2
      go_wp2
      go_roundg (xs.length - (i + 1))
      case measure => omega
      case rel =>
        have q := H2.out.1
        refine ⟨i + 1, by omega, rfl, by go_num, Only.from_ (balloc HR.out.1 _) rfl H2.out.2 (fun i hi => by omega), (HR.out.2.1.alloc _).only H2.out.2 (by omega), ?_⟩
        exact q.of rfl
    · obtain rfl : i = xs.length := by omega
      have HS := Lib.hid (rcResult_ok b xs.length _ _ wr HR.out.2.2 rfl)
      clear hr0 hr hnn hss
      go_wp2_with fail
      refine HS.out.mono ?_
      rintro e w2 ⟨rfl, hb2⟩
      have r2 := HR.out.2.1.on hb2
      have HB := Lib.hid (bch HR.out.1 hb2)
      clear hb2
      have q0 := r2.lt
      have q1 := r2.frozen 0
      have q2 := r2.frozen 1
      have q3 : w2.cell? ⟨w.heap.size, 0, none⟩ = some (.bool false) := r2.cell 0
      have q4 : w2.cell? ⟨w.heap.size, 1, none⟩ = some (.int .i64 0) := r2.cell 1
      clear r2
      unfold vAgg
      go_wp2
      exact bodyPost_ret (v := .agg #[.bool (numV xs.length).1, .int .i64 (numV xs.length).2]) (by simp [results, Tryz.results78, go_sem, q0, q1, q2, q3, q4]) rfl ⟨congrArg (fun v => Ending.returned (vAgg v)) (show numV xs.length = aggF 1 xs from by simp [aggF]), below_put HB.out (Nat.le_refl _) _ _⟩

theorem mth_valueCounter_add (b : Nat) (w : World) : (method 359 198 (.pointer (some ⟨b, 0, none⟩)) "loop.example/queryoptimizer/impl.add").run Tryz.prog w = .ok (246, .pointer (some ⟨b, 0, none⟩)) w := by kernel_rfl
theorem mth_valueCounter_result (b : Nat) (w : World) : (method 359 198 (.pointer (some ⟨b, 0, none⟩)) "loop.example/queryoptimizer/impl.result").run Tryz.prog w = .ok (245, .pointer (some ⟨b, 0, none⟩)) w := by kernel_rfl
set_option maxRecDepth 20000 in
set_option maxHeartbeats 1000000 in
theorem aggregated2_ok (A : Option Addr) (c : Nat) (xs : List Val) (w : World) (hn : xs.length ≤ 1048576) (hv : ∀ x ∈ xs, vValid x = true) (h : Sl 2 valC w w.heap.size A xs) :
    Calls Tryz.prog 78 #[.slice A xs.length c, .int .i64 2] w fun e w' => e = .returned (vAgg (aggF 2 xs)) ∧ Below w.heap.size w w' := by
  have HV := Lib.hid hv
  have HO := Lib.hid (fun z => accOf2_ok 2 rfl z)
  have hmA := mth_valueCounter_add
  have hmR := mth_valueCounter_result
  clear hv
  go_enter Tryz.func78, Tryz.ntmps78
  go_wp2_with fail
  refine (HO.out _).mono ?_
  rintro e w1 ⟨b, rfl, hbs, hr1, hb1⟩
  have r1 := (Row.new w 55 #[.bool false, .int .i64 0]).on hb1
  have HB1 := Lib.hid (And.intro (bch (balloc (Below.refl w.heap.size w) _) hb1) (And.intro r1 hr1))
  have hbs : w.heap.size + 1 ≤ b := by simpa using hbs
  clear r1 hr1 hb1
  go_wp2
  go_loopg [12] xs.length (fun g iv wr => ∃ i : Nat, i ≤ xs.length ∧ g = xs.length - i ∧ iv = .int .i64 i ∧ Below w.heap.size w wr ∧ Row wr w.heap.size 55 [.bool false, .int .i64 0] ∧ Row wr b 200 [.int .i64 (nnN (xs.take i))])
  case atStart => exact ⟨0, by omega, by omega, rfl, HB1.out.1, HB1.out.2.1, HB1.out.2.2.of (by simp)⟩
  case round =>
    obtain ⟨i, hi, rfl, rfl, hb, hr0, hr⟩ := hrel
    have HR := Lib.hid (And.intro hb (And.intro hr0 hr))
    have hbl := hr.lt
    have hnn := nnN_le (xs.take i)
    rw [List.length_take] at hnn
    have hss := sumN_range (xs.take i) (take_valid HV.out i)
    rw [List.length_take] at hss
    by_cases hlt : i < xs.length
    · obtain ⟨b1, off, rfl, hB, c0, c1⟩ := Val.at_ (h.on hb) hlt
      have hx := Lib.hid (List.getElem?_eq_getElem hlt)
      have hvx := vValid_range (HV.out _ (List.getElem_mem hlt))
      generalize xs[i] = x at *
      have HA := Lib.hid ((fun o => vcAdd_ok b (nnN (xs.take i)) _ _ x _ (hr.alloc o) rfl (by omega) (by omega)) (.cells #[.bool x.1, .int .i64 x.2] 55))
      have HT := Lib.hid (take_at hx.out)
      clear hr0 hr hnn hss hvx
      go_wp2_with fail
      refine HA.out.mono ?_
      rintro e w2 ⟨rfl, hr2, hb2⟩
      have H2 := Lib.hid (And.intro hr2 hb2)
      clear hr2 hb2
      go_wp2
      go_roundg (xs.length - (i + 1))
      case measure => omega
      case rel =>
        have q := H2.out.1
        refine ⟨i + 1, by omega, rfl, by go_num, Only.from_ (balloc HR.out.1 _) rfl H2.out.2 (fun i hi => by omega), (HR.out.2.1.alloc _).only H2.out.2 (by omega), ?_⟩
        rw [HT.out, nnN_append, nnN_one]; refine q.of ?_; cases x.1 <;> simp
    · obtain rfl : i = xs.length := by omega
      have HS := Lib.hid (rcResult_ok b (nnN xs) _ _ wr (HR.out.2.2.of (by rw [List.take_length])) rfl)
      clear hr0 hr hnn hss
      go_wp2_with fail
      refine HS.out.mono ?_
      rintro e w2 ⟨rfl, hb2⟩
      have r2 := HR.out.2.1.on hb2
      have HB := Lib.hid (bch HR.out.1 hb2)
      clear hb2
      have q0 := r2.lt
      have q1 := r2.frozen 0
      have q2 := r2.frozen 1
      have q3 : w2.cell? ⟨w.heap.size, 0, none⟩ = some (.bool false) := r2.cell 0
      have q4 : w2.cell? ⟨w.heap.size, 1, none⟩ = some (.int .i64 0) := r2.cell 1
      clear r2
      unfold vAgg
      go_wp2
      exact bodyPost_ret (v := .agg #[.bool (numV (nnN xs)).1, .int .i64 (numV (nnN xs)).2]) (by simp [results, Tryz.results78, go_sem, q0, q1, q2, q3, q4]) rfl ⟨congrArg (fun v => Ending.returned (vAgg v)) (show numV (nnN xs) = aggF 2 xs from by simp [aggF]), below_put HB.out (Nat.le_refl _) _ _⟩

theorem mth_summer_add (b : Nat) (w : World) : (method 359 201 (.pointer (some ⟨b, 0, none⟩)) "loop.example/queryoptimizer/impl.add").run Tryz.prog w = .ok (247, .pointer (some ⟨b, 0, none⟩)) w := by kernel_rfl
theorem mth_summer_result (b : Nat) (w : World) : (method 359 201 (.pointer (some ⟨b, 0, none⟩)) "loop.example/queryoptimizer/impl.result").run Tryz.prog w = .ok (248, .pointer (some ⟨b, 0, none⟩)) w := by kernel_rfl
set_option maxRecDepth 20000 in
set_option maxHeartbeats 1000000 in
theorem aggregated3_ok (A : Option Addr) (c : Nat) (xs : List Val) (w : World) (hn : xs.length ≤ 1048576) (hv : ∀ x ∈ xs, vValid x = true) (h : Sl 2 valC w w.heap.size A xs) :
    Calls Tryz.prog 78 #[.slice A xs.length c, .int .i64 3] w fun e w' => e = .returned (vAgg (aggF 3 xs)) ∧ Below w.heap.size w w' := by
  have HV := Lib.hid hv
  have HO := Lib.hid (fun z => accOf3_ok 3 rfl z)
  have hmA := mth_summer_add
  have hmR := mth_summer_result
  clear hv
  go_enter Tryz.func78, Tryz.ntmps78
  go_wp2_with fail
  refine (HO.out _).mono ?_
  rintro e w1 ⟨b, rfl, hbs, hr1, hb1⟩
  have r1 := (Row.new w 55 #[.bool false, .int .i64 0]).on hb1
  have HB1 := Lib.hid (And.intro (bch (balloc (Below.refl w.heap.size w) _) hb1) (And.intro r1 hr1))
  have hbs : w.heap.size + 1 ≤ b := by simpa using hbs
  clear r1 hr1 hb1
  go_wp2
  go_loopg [12] xs.length (fun g iv wr => ∃ i : Nat, i ≤ xs.length ∧ g = xs.length - i ∧ iv = .int .i64 i ∧ Below w.heap.size w wr ∧ Row wr w.heap.size 55 [.bool false, .int .i64 0] ∧ Row wr b 203 [.int .i64 (nnN (xs.take i)), .int .i64 (sumN (xs.take i))])
  case atStart => exact ⟨0, by omega, by omega, rfl, HB1.out.1, HB1.out.2.1, HB1.out.2.2.of (by simp)⟩
  case round =>
    obtain ⟨i, hi, rfl, rfl, hb, hr0, hr⟩ := hrel
    have HR := Lib.hid (And.intro hb (And.intro hr0 hr))
    have hbl := hr.lt
    have hnn := nnN_le (xs.take i)
    rw [List.length_take] at hnn
    have hss := sumN_range (xs.take i) (take_valid HV.out i)
    rw [List.length_take] at hss
    by_cases hlt : i < xs.length
    · obtain ⟨b1, off, rfl, hB, c0, c1⟩ := Val.at_ (h.on hb) hlt
      have hx := Lib.hid (List.getElem?_eq_getElem hlt)
      have hvx := vValid_range (HV.out _ (List.getElem_mem hlt))
      generalize xs[i] = x at *
      have HA := Lib.hid ((fun o => smAdd_ok b (nnN (xs.take i)) (sumN (xs.take i)) _ x _ (hr.alloc o) (by omega) (by omega) (by omega) (by omega) (by omega) (by omega)) (.cells #[.bool x.1, .int .i64 x.2] 55))
      have HT := Lib.hid (take_at hx.out)
      clear hr0 hr hnn hss hvx
      go_wp2_with fail
      refine HA.out.mono ?_
      rintro e w2 ⟨rfl, hr2, hb2⟩
      have H2 := Lib.hid (And.intro hr2 hb2)
      clear hr2 hb2
      go_wp2
      go_roundg (xs.length - (i + 1))
      case measure => omega
      case rel =>
        have q := H2.out.1
        refine ⟨i + 1, by omega, rfl, by go_num, Only.from_ (balloc HR.out.1 _) rfl H2.out.2 (fun i hi => by omega), (HR.out.2.1.alloc _).only H2.out.2 (by omega), ?_⟩
        rw [HT.out, nnN_append, nnN_one, sumN_append, sumN_one]; refine q.of ?_; cases x.1 <;> simp
    · obtain rfl : i = xs.length := by omega
      have HS := Lib.hid (smResult_ok b (nnN xs) (sumN xs) _ wr (HR.out.2.2.of (by rw [List.take_length])))
      obtain ⟨v3, hv3⟩ : ∃ v : Val, (if (nnN xs : Int) = 0 then (true, 0) else numV (sumN xs)) = v := ⟨_, rfl⟩
      rw [hv3] at HS
      have HV3 := Lib.hid hv3
      clear hr0 hr hnn hss hv3
      go_wp2_with fail
      refine HS.out.mono ?_
      rintro e w2 ⟨rfl, hb2⟩
      have r2 := HR.out.2.1.on hb2
      have HB := Lib.hid (bch HR.out.1 hb2)
      clear hb2
      have q0 := r2.lt
      have q1 := r2.frozen 0
      have q2 := r2.frozen 1
      have q3 : w2.cell? ⟨w.heap.size, 0, none⟩ = some (.bool false) := r2.cell 0
      have q4 : w2.cell? ⟨w.heap.size, 1, none⟩ = some (.int .i64 0) := r2.cell 1
      clear r2
      unfold vAgg
      go_wp2
      exact bodyPost_ret (v := .agg #[.bool v3.1, .int .i64 v3.2]) (by simp [results, Tryz.results78, go_sem, q0, q1, q2, q3, q4]) rfl ⟨congrArg (fun v => Ending.returned (vAgg v)) (show v3 = aggF 3 xs from by rw [← HV3.out]; simp [aggF]), below_put HB.out (Nat.le_refl _) _ _⟩

theorem mth_chooser_add (b : Nat) (w : World) : (method 359 204 (.pointer (some ⟨b, 0, none⟩)) "loop.example/queryoptimizer/impl.add").run Tryz.prog w = .ok (249, .pointer (some ⟨b, 0, none⟩)) w := by kernel_rfl
theorem mth_chooser_result (b : Nat) (w : World) : (method 359 204 (.pointer (some ⟨b, 0, none⟩)) "loop.example/queryoptimizer/impl.result").run Tryz.prog w = .ok (250, .pointer (some ⟨b, 0, none⟩)) w := by kernel_rfl
set_option maxRecDepth 20000 in
set_option maxHeartbeats 1000000 in
theorem aggregated4_ok (A : Option Addr) (c : Nat) (xs : List Val) (w : World) (hn : xs.length ≤ 1048576) (hv : ∀ x ∈ xs, vValid x = true) (h : Sl 2 valC w w.heap.size A xs) :
    Calls Tryz.prog 78 #[.slice A xs.length c, .int .i64 4] w fun e w' => e = .returned (vAgg (aggF 4 xs)) ∧ Below w.heap.size w w' := by
  have HV := Lib.hid hv
  have HO := Lib.hid (fun z => accOf4_ok 4 rfl z)
  have hmA := mth_chooser_add
  have hmR := mth_chooser_result
  clear hv
  go_enter Tryz.func78, Tryz.ntmps78
  go_wp2_with fail
  refine (HO.out _).mono ?_
  rintro e w1 ⟨b, rfl, hbs, hr1, hb1⟩
  have r1 := (Row.new w 55 #[.bool false, .int .i64 0]).on hb1
  have HB1 := Lib.hid (And.intro (bch (balloc (Below.refl w.heap.size w) _) hb1) (And.intro r1 hr1))
  have hbs : w.heap.size + 1 ≤ b := by simpa using hbs
  clear r1 hr1 hb1
  go_wp2
  go_loopg [12] xs.length (fun g iv wr => ∃ i : Nat, i ≤ xs.length ∧ g = xs.length - i ∧ iv = .int .i64 i ∧ Below w.heap.size w wr ∧ Row wr w.heap.size 55 [.bool false, .int .i64 0] ∧ Row wr b 206 [.bool (lowN (xs.take i)).1, .int .i64 (lowN (xs.take i)).2, .int .i64 1])
  case atStart => exact ⟨0, by omega, by omega, rfl, HB1.out.1, HB1.out.2.1, HB1.out.2.2.of (by simp)⟩
  case round =>
    obtain ⟨i, hi, rfl, rfl, hb, hr0, hr⟩ := hrel
    have HR := Lib.hid (And.intro hb (And.intro hr0 hr))
    have hbl := hr.lt
    have hnn := nnN_le (xs.take i)
    rw [List.length_take] at hnn
    have hss := sumN_range (xs.take i) (take_valid HV.out i)
    rw [List.length_take] at hss
    by_cases hlt : i < xs.length
    · obtain ⟨b1, off, rfl, hB, c0, c1⟩ := Val.at_ (h.on hb) hlt
      have hx := Lib.hid (List.getElem?_eq_getElem hlt)
      have hvx := vValid_range (HV.out _ (List.getElem_mem hlt))
      generalize xs[i] = x at *
      have HA := Lib.hid ((fun o => chAdd_ok b (lowN (xs.take i)) x 1 _ _ (.inl rfl) (hr.alloc o)) (.cells #[.bool x.1, .int .i64 x.2] 55))
      have HT := Lib.hid (take_at hx.out)
      clear hr0 hr hnn hss hvx
      go_wp2_with fail
      refine HA.out.mono ?_
      rintro e w2 ⟨rfl, hr2, hb2⟩
      have H2 := Lib.hid (And.intro hr2 hb2)
      clear hr2 hb2
      go_wp2
      go_roundg (xs.length - (i + 1))
      case measure => omega
      case rel =>
        have q := H2.out.1
        refine ⟨i + 1, by omega, rfl, by go_num, Only.from_ (balloc HR.out.1 _) rfl H2.out.2 (fun i hi => by omega), (HR.out.2.1.alloc _).only H2.out.2 (by omega), ?_⟩
        rw [HT.out, lowN_snoc, ← chS_low]; exact q
    · obtain rfl : i = xs.length := by omega
      have HS := Lib.hid (chResult_ok b (lowN xs) 1 _ wr (HR.out.2.2.of (by rw [List.take_length])))
      clear hr0 hr hnn hss
      go_wp2_with fail
      refine HS.out.mono ?_
      rintro e w2 ⟨rfl, hb2⟩
      have r2 := HR.out.2.1.on hb2
      have HB := Lib.hid (bch HR.out.1 hb2)
      clear hb2
      have q0 := r2.lt
      have q1 := r2.frozen 0
      have q2 := r2.frozen 1
      have q3 : w2.cell? ⟨w.heap.size, 0, none⟩ = some (.bool false) := r2.cell 0
      have q4 : w2.cell? ⟨w.heap.size, 1, none⟩ = some (.int .i64 0) := r2.cell 1
      clear r2
      unfold vAgg
      go_wp2
      exact bodyPost_ret (v := .agg #[.bool (lowN xs).1, .int .i64 (lowN xs).2]) (by simp [results, Tryz.results78, go_sem, q0, q1, q2, q3, q4]) rfl ⟨congrArg (fun v => Ending.returned (vAgg v)) (show lowN xs = aggF 4 xs from by simp [aggF]), below_put HB.out (Nat.le_refl _) _ _⟩

set_option maxRecDepth 20000 in
set_option maxHeartbeats 1000000 in
theorem aggregated5_ok (A : Option Addr) (c : Nat) (xs : List Val) (w : World) (hn : xs.length ≤ 1048576) (hv : ∀ x ∈ xs, vValid x = true) (h : Sl 2 valC w w.heap.size A xs) :
    Calls Tryz.prog 78 #[.slice A xs.length c, .int .i64 5] w fun e w' => e = .returned (vAgg (aggF 5 xs)) ∧ Below w.heap.size w w' := by
  have HV := Lib.hid hv
  have HO := Lib.hid (fun z => accOf5_ok 5 rfl z)
  have hmA := mth_chooser_add
  have hmR := mth_chooser_result
  clear hv
  go_enter Tryz.func78, Tryz.ntmps78
  go_wp2_with fail
  refine (HO.out _).mono ?_
  rintro e w1 ⟨b, rfl, hbs, hr1, hb1⟩
  have r1 := (Row.new w 55 #[.bool false, .int .i64 0]).on hb1
  have HB1 := Lib.hid (And.intro (bch (balloc (Below.refl w.heap.size w) _) hb1) (And.intro r1 hr1))
  have hbs : w.heap.size + 1 ≤ b := by simpa using hbs
  clear r1 hr1 hb1
  go_wp2
  go_loopg [12] xs.length (fun g iv wr => ∃ i : Nat, i ≤ xs.length ∧ g = xs.length - i ∧ iv = .int .i64 i ∧ Below w.heap.size w wr ∧ Row wr w.heap.size 55 [.bool false, .int .i64 0] ∧ Row wr b 206 [.bool (highN (xs.take i)).1, .int .i64 (highN (xs.take i)).2, .int .i64 (-1)])
  case atStart => exact ⟨0, by omega, by omega, rfl, HB1.out.1, HB1.out.2.1, HB1.out.2.2.of (by simp)⟩
  case round =>
    obtain ⟨i, hi, rfl, rfl, hb, hr0, hr⟩ := hrel
    have HR := Lib.hid (And.intro hb (And.intro hr0 hr))
    have hbl := hr.lt
    have hnn := nnN_le (xs.take i)
    rw [List.length_take] at hnn
    have hss := sumN_range (xs.take i) (take_valid HV.out i)
    rw [List.length_take] at hss
    by_cases hlt : i < xs.length
    · obtain ⟨b1, off, rfl, hB, c0, c1⟩ := Val.at_ (h.on hb) hlt
      have hx := Lib.hid (List.getElem?_eq_getElem hlt)
      have hvx := vValid_range (HV.out _ (List.getElem_mem hlt))
      generalize xs[i] = x at *
      have HA := Lib.hid ((fun o => chAdd_ok b (highN (xs.take i)) x (-1) _ _ (.inr rfl) (hr.alloc o)) (.cells #[.bool x.1, .int .i64 x.2] 55))
      have HT := Lib.hid (take_at hx.out)
      clear hr0 hr hnn hss hvx
      go_wp2_with fail
      refine HA.out.mono ?_
      rintro e w2 ⟨rfl, hr2, hb2⟩
      have H2 := Lib.hid (And.intro hr2 hb2)
      clear hr2 hb2
      go_wp2
      go_roundg (xs.length - (i + 1))
      case measure => omega
      case rel =>
        have q := H2.out.1
        refine ⟨i + 1, by omega, rfl, by go_num, Only.from_ (balloc HR.out.1 _) rfl H2.out.2 (fun i hi => by omega), (HR.out.2.1.alloc _).only H2.out.2 (by omega), ?_⟩
        rw [HT.out, highN_snoc, ← chS_high]; exact q
    · obtain rfl : i = xs.length := by omega
      have HS := Lib.hid (chResult_ok b (highN xs) (-1) _ wr (HR.out.2.2.of (by rw [List.take_length])))
      clear hr0 hr hnn hss
      go_wp2_with fail
      refine HS.out.mono ?_
      rintro e w2 ⟨rfl, hb2⟩
      have r2 := HR.out.2.1.on hb2
      have HB := Lib.hid (bch HR.out.1 hb2)
      clear hb2
      have q0 := r2.lt
      have q1 := r2.frozen 0
      have q2 := r2.frozen 1
      have q3 : w2.cell? ⟨w.heap.size, 0, none⟩ = some (.bool false) := r2.cell 0
      have q4 : w2.cell? ⟨w.heap.size, 1, none⟩ = some (.int .i64 0) := r2.cell 1
      clear r2
      unfold vAgg
      go_wp2
      exact bodyPost_ret (v := .agg #[.bool (highN xs).1, .int .i64 (highN xs).2]) (by simp [results, Tryz.results78, go_sem, q0, q1, q2, q3, q4]) rfl ⟨congrArg (fun v => Ending.returned (vAgg v)) (show highN xs = aggF 5 xs from by simp [aggF]), below_put HB.out (Nat.le_refl _) _ _⟩

end Go.Proofs.YtlhonhacehgooaaGreat

/-
  Contracts of Aggregate, MergeAggregates: the program's.
-/
namespace Go.Proofs.YtlhonhacehgooaaGreat
open Go.RowKit Go.Qo
set_option linter.unusedVariables false
set_option linter.unusedSimpArgs false

theorem aggregated_ok (A : Option Addr) (c : Nat) (xs : List Val) (k : Int) (w : World) (hn : xs.length ≤ 1048576) (hv : ∀ x ∈ xs, vValid x = true) (h : Sl 2 valC w w.heap.size A xs) (hk : 1 ≤ k ∧ k ≤ 5) :
    Calls Tryz.prog 78 #[.slice A xs.length c, .int .i64 k] w fun e w' => e = .returned (vAgg (aggF k xs)) ∧ Below w.heap.size w w' := by
  have hk : k = 1 ∨ k = 2 ∨ k = 3 ∨ k = 4 ∨ k = 5 := by omega
  rcases hk with rfl | rfl | rfl | rfl | rfl
  · exact aggregated1_ok A c xs w hn hv h
  · exact aggregated2_ok A c xs w hn hv h
  · exact aggregated3_ok A c xs w hn hv h
  · exact aggregated4_ok A c xs w hn hv h
  · exact aggregated5_ok A c xs w hn hv h

end Go.Proofs.YtlhonhacehgooaaGreat
