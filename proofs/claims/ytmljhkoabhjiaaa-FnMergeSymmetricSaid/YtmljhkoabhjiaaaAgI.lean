/-
  Contracts of the aggregates: the program's accumulators.
-/
import Derived.Test.YtmljhkoabhjiaaaProg
import Derived.Test.YtmljhkoabhjiaaaAgT
import Derived.Deep.RegionLaw
import Derived.StillTailTactics
namespace Go.Proofs.Ytmljhkoabhjiaaa
open Go.RowKit Go.Qo
set_option linter.unusedVariables false
set_option linter.unusedSimpArgs false

theorem implNull_ok (w : World) : Calls Try.prog 114 #[] w fun e w' => e = .returned (.agg #[.bool true, .int .i64 0]) ∧ Below w.heap.size w w' := by
  go_enter Try.func114, Try.ntmps114
  go_wp2
  exact bodyPost_ret (v := .agg #[.bool true, .int .i64 0]) (by simp [results, Try.results114, go_sem]) rfl ⟨rfl, balloc (Below.refl _ _) _⟩
theorem implNumber_ok (n : Int) (w : World) : Calls Try.prog 164 #[.int .i64 n] w fun e w' => e = .returned (.agg #[.bool false, .int .i64 n]) ∧ Below w.heap.size w w' := by
  go_enter Try.func164, Try.ntmps164
  go_wp2
  exact bodyPost_ret (v := .agg #[.bool false, .int .i64 n]) (by simp [results, Try.results164, go_sem]) rfl ⟨rfl, balloc (Below.refl _ _) _⟩
set_option maxHeartbeats 400000 in
theorem validAggregate_ok (k : Int) (w : World) (r : Bool) (hr : (decide (1 ≤ k) && decide (k ≤ 5)) = r) : Calls Try.prog 57 #[.int .i64 k] w fun e w' => e = .returned (.bool r) ∧ w = w' := by
  subst hr
  by_cases h1 : 1 ≤ k <;> by_cases h2 : k ≤ 5
  all_goals
    go_enter Try.func57, Try.ntmps57
    go_wp2
    go_ret
    exact ⟨ret_bool (by simp [h1, h2]), rfl⟩
set_option maxHeartbeats 1000000 in
theorem numberOrNull_ok (n : Int) (w : World) : Calls Try.prog 163 #[.int .i64 n] w fun e w' => e = .returned (vAgg (numV n)) ∧ Below w.heap.size w w' := by
  obtain ⟨r, hr⟩ : ∃ r, vValid (false, n) = r := ⟨_, rfl⟩
  have HN := Lib.hid (fun z => implNumber_ok n z)
  have HV := Lib.hid (fun z => implValid_ok (false, n) z r hr)
  have HU := Lib.hid (fun z => implNull_ok z)
  have hN : numV n = if r then (false, n) else (true, 0) := by
    unfold numV
    rw [← hr]
    simp [vValid]
  have HNV := Lib.hid hN
  have B0 := Lib.hid (balloc (Below.refl w.heap.size w) (.cells #[.bool false, .int .i64 0] 25))
  clear hN hr
  go_enter Try.func163, Try.ntmps163
  go_wp2_with fail
  refine (HN.out _).mono ?_
  rintro e w1 ⟨rfl, hb1⟩
  have hr1 := (Row.new w 25 #[.bool false, .int .i64 0]).on hb1
  have HB1 := Lib.hid (bch B0.out hb1)
  have HR1 := Lib.hid (hr1.alloc (.cells #[.bool false, .int .i64 n] 25))
  have HR2 := Lib.hid (Row.new w1 25 #[.bool false, .int .i64 n])
  clear hb1 hr1
  go_wp2_with fail
  refine (HV.out _).mono ?_
  rintro e w2 ⟨rfl, hb2⟩
  have r1 := HR1.out.on hb2
  have r2 := HR2.out.on hb2
  have HB2 := Lib.hid (bch (balloc HB1.out _) hb2)
  have HR3 := Lib.hid r1
  have q0 := r1.lt
  have q1 := r1.frozen 0
  have q2 := r1.frozen 1
  have q3 : w2.cell? ⟨w.heap.size, 0, none⟩ = some (.bool false) := r1.cell 0
  have q4 : w2.cell? ⟨w.heap.size, 1, none⟩ = some (.int .i64 0) := r1.cell 1
  have q5 : w2.cell? ⟨w1.heap.size, 0, none⟩ = some (.bool false) := r2.cell 0
  have q6 : w2.cell? ⟨w1.heap.size, 1, none⟩ = some (.int .i64 n) := r2.cell 1
  clear hb2 r1 r2
  cases r
  · go_wp2_with fail
    refine (HU.out _).mono ?_
    rintro e w3 ⟨rfl, hb3⟩
    have r3 := HR3.out.on hb3
    have HB3 := Lib.hid (bch HB2.out hb3)
    clear q0 q1 q2 q3 q4 q5 q6 hb3
    have q0 := r3.lt
    have q1 := r3.frozen 0
    have q2 := r3.frozen 1
    have q3 : w3.cell? ⟨w.heap.size, 0, none⟩ = some (.bool false) := r3.cell 0
    have q4 : w3.cell? ⟨w.heap.size, 1, none⟩ = some (.int .i64 0) := r3.cell 1
    clear r3
    go_wp2
    exact bodyPost_ret (v := .agg #[.bool true, .int .i64 0]) (by simp [results, Try.results163, go_sem, q0, q1, q2, q3, q4]) rfl ⟨(by rw [HNV.out]; rfl), below_put HB3.out (Nat.le_refl _) _ _⟩
  · go_wp2
    exact bodyPost_ret (v := .agg #[.bool false, .int .i64 n]) (by simp [results, Try.results163, go_sem, q0, q1, q2, q3, q4]) rfl ⟨(by rw [HNV.out]; rfl), below_put HB2.out (Nat.le_refl _) _ _⟩

set_option maxHeartbeats 400000 in
theorem rcAdd_ok (b : Nat) (n : Int) (t : TypeId) (cs : List Value) (v : Val) (w : World) (h : Row w b t cs) (hc : cs[0]? = some (.int .i64 n)) (h0 : 0 ≤ n) (h1 : n ≤ 1099511627776) :
    Calls Try.prog 161 #[.pointer (some ⟨b, 0, none⟩), .agg #[.bool v.1, .int .i64 v.2]] w fun e w' => e = .returned (.tuple #[]) ∧ Row w' b t (cs.set 0 (.int .i64 (n + 1))) ∧ But b w w' := by
  have q0 := h.lt
  have q1 := h.frozen 0
  have q2 := (h.cell 0).trans hc
  have HR := Lib.hid h
  clear h hc
  go_enter Try.func161, Try.ntmps161
  go_wp2
  go_end0
  exact ⟨rfl, (HR.out.set 0 _).alloc _, ((Only.refl (S := fun k => k = b) w).set (p := ⟨b, 0, none⟩) (.inl rfl) _).alloc _⟩
set_option maxHeartbeats 400000 in
theorem vcAdd_ok (b : Nat) (n : Int) (t : TypeId) (cs : List Value) (v : Val) (w : World) (h : Row w b t cs) (hc : cs[0]? = some (.int .i64 n)) (h0 : 0 ≤ n) (h1 : n ≤ 1099511627776) :
    Calls Try.prog 165 #[.pointer (some ⟨b, 0, none⟩), .agg #[.bool v.1, .int .i64 v.2]] w fun e w' => e = .returned (.tuple #[]) ∧ Row w' b t (if v.1 then cs else cs.set 0 (.int .i64 (n + 1))) ∧ But b w w' := by
  have q0 := h.lt
  have q1 := h.frozen 0
  have q2 := (h.cell 0).trans hc
  have HR := Lib.hid h
  clear h hc
  obtain ⟨nv, v⟩ := v
  cases nv
  · go_enter Try.func165, Try.ntmps165
    go_wp2
    go_end0
    exact ⟨rfl, (HR.out.set 0 _).alloc _, ((Only.refl (S := fun k => k = b) w).set (p := ⟨b, 0, none⟩) (.inl rfl) _).alloc _⟩
  · go_enter Try.func165, Try.ntmps165
    go_wp2
    go_end0
    exact ⟨rfl, HR.out.alloc _, (Only.refl w).alloc _⟩

set_option maxRecDepth 20000 in
set_option maxHeartbeats 1000000 in
theorem smAdd_ok (b : Nat) (n s : Int) (t : TypeId) (v : Val) (w : World) (h : Row w b t [.int .i64 n, .int .i64 s]) (h0 : 0 ≤ n) (h1 : n ≤ 1099511627776) (hs0 : -1099511627776 ≤ s) (hs1 : s ≤ 1099511627776) (hv0 : -10000 ≤ v.2) (hv1 : v.2 ≤ 10000) :
    Calls Try.prog 166 #[.pointer (some ⟨b, 0, none⟩), .agg #[.bool v.1, .int .i64 v.2]] w fun e w' => e = .returned (.tuple #[]) ∧ Row w' b t [.int .i64 (if v.1 then n else n + 1), .int .i64 (s + v.2)] ∧ But b w w' := by
  obtain ⟨n', hn'⟩ : ∃ n', (if v.1 then n else n + 1) = n' := ⟨_, rfl⟩
  have HV := Lib.hid ((vcAdd_ok b n t [.int .i64 n, .int .i64 s] v (w.alloc (.cells #[.bool v.1, .int .i64 v.2] 25)).drew (h.alloc _).drew rfl h0 h1).mono (R' := fun e w' => e = .returned (.tuple #[]) ∧ Row w' b t [.int .i64 n', .int .i64 s] ∧ But b (w.alloc (.cells #[.bool v.1, .int .i64 v.2] 25)).drew w') fun e w' ⟨a1, a2, a3⟩ => ⟨a1, a2.of (by rw [← hn']; split <;> rfl), a3⟩)
  rw [hn']
  clear hn'
  have hlt := h.lt
  have HR := Lib.hid (Row.new w 25 #[.bool v.1, .int .i64 v.2])
  clear h
  go_enter Try.func166, Try.ntmps166
  go_wp2_with fail
  go_region_law (go_simp; go_at_call 165; refine HV.out.mono ?_; rintro e w1 ⟨rfl, hr1, hb1⟩; have hl1 := hr1.lt; have f1 := hr1.frozen 1; have c1 : w1.cell? ⟨b, 1, none⟩ = some (.int .i64 s) := hr1.cell 1; have HR1 := Lib.hid hr1; have HB1 := Lib.hid hb1; clear hr1 hb1; have d0 : w1.cell? ⟨w.heap.size, 0, none⟩ = some (.bool v.1) := (HR.out.drew.only HB1.out (by omega)).cell 0; have d1 : w1.cell? ⟨w.heap.size, 1, none⟩ = some (.int .i64 v.2) := (HR.out.drew.only HB1.out (by omega)).cell 1)
  all_goals
    go_wp2
    go_still_tail 9, (by kernel_rfl)
    change wpList _ _ _ _ _ w1.drew
    go_wp2
    go_end0
    exact ⟨rfl, (HR1.out.set 1 _), ((((Only.refl (S := fun k => k = b) w).alloc _).drew.trans HB1.out).drew).set (p := ⟨b, 1, none⟩) (.inl rfl) _⟩

def chS (sg : Int) (a v : Val) : Val := if v.1 then a else if a.1 || decide (sg * iCmp v.2 a.2 < 0) then v else a
theorem chS_low (a v : Val) : chS 1 a v = lowS a v := by
  have : (1 * iCmp v.2 a.2 < 0) = (v.2 < a.2) := propext (by unfold iCmp; split <;> (try split) <;> simp <;> omega)
  unfold chS lowS
  simp only [this]
theorem chS_high (a v : Val) : chS (-1) a v = highS a v := by
  have : (-1 * iCmp v.2 a.2 < 0) = (a.2 < v.2) := propext (by unfold iCmp; split <;> (try split) <;> simp <;> omega)
  unfold chS highS
  simp only [this]

set_option maxRecDepth 20000 in
set_option maxHeartbeats 2000000 in
theorem chAdd_ok (b : Nat) (a v : Val) (sg : Int) (t : TypeId) (w : World) (hsg : sg = 1 ∨ sg = -1) (h : Row w b t [.bool a.1, .int .i64 a.2, .int .i64 sg]) :
    Calls Try.prog 168 #[.pointer (some ⟨b, 0, none⟩), .agg #[.bool v.1, .int .i64 v.2]] w fun e w' => e = .returned (.tuple #[]) ∧ Row w' b t [.bool (chS sg a v).1, .int .i64 (chS sg a v).2, .int .i64 sg] ∧ But b w w' := by
  have hlt := h.lt
  have HR := Lib.hid h
  have h' := h.alloc (.cells #[.bool v.1, .int .i64 v.2] 25)
  have c0 := fun z : Aft (w.alloc (.cells #[.bool v.1, .int .i64 v.2] 25)).heap.size (w.alloc (.cells #[.bool v.1, .int .i64 v.2] 25)) => z.cell h'.lt (show World.cell? _ ⟨b, 0, none⟩ = some (.bool a.1) from h'.cell 0)
  have c1 := fun z : Aft (w.alloc (.cells #[.bool v.1, .int .i64 v.2] 25)).heap.size (w.alloc (.cells #[.bool v.1, .int .i64 v.2] 25)) => z.cell h'.lt (show World.cell? _ ⟨b, 1, none⟩ = some (.int .i64 a.2) from h'.cell 1)
  have c2 := fun z : Aft (w.alloc (.cells #[.bool v.1, .int .i64 v.2] 25)).heap.size (w.alloc (.cells #[.bool v.1, .int .i64 v.2] 25)) => z.cell h'.lt (show World.cell? _ ⟨b, 2, none⟩ = some (.int .i64 sg) from h'.cell 2)
  have hb := Row.new w 25 #[.bool v.1, .int .i64 v.2]
  have d0 := fun z : Aft (w.alloc (.cells #[.bool v.1, .int .i64 v.2] 25)).heap.size (w.alloc (.cells #[.bool v.1, .int .i64 v.2] 25)) => z.cell hb.lt (show World.cell? _ ⟨w.heap.size, 0, none⟩ = some (.bool v.1) from hb.cell 0)
  have d1 := fun z : Aft (w.alloc (.cells #[.bool v.1, .int .i64 v.2] 25)).heap.size (w.alloc (.cells #[.bool v.1, .int .i64 v.2] 25)) => z.cell hb.lt (show World.cell? _ ⟨w.heap.size, 1, none⟩ = some (.int .i64 v.2) from hb.cell 1)
  have HC := Lib.hid (fun z => implCompare_ok v a z)
  have HB := Lib.hid (And.intro h' hb)
  clear h h' hb
  obtain ⟨nv, v⟩ := v
  obtain ⟨na, a⟩ := a
  cases nv
  · cases na
    · have e0 : pCmp (false, v) (false, a) = iCmp v a := rfl
      rw [e0] at HC
      have hm : iCmp v a = -1 ∨ iCmp v a = 0 ∨ iCmp v a = 1 := by unfold iCmp; split <;> (try split) <;> simp
      rcases hm with hm | hm | hm <;> rcases hsg with rfl | rfl
      all_goals
        rw [hm] at HC
        have HM := Lib.hid hm
        clear hm e0
        dsimp only at *
        go_enter Try.func168, Try.ntmps168
        go_wp2_with fail
        refine wp_region_aft (w.alloc (.cells #[.bool false, .int .i64 v] 25)).heap.size (by kernel_rfl) (by kernel_rfl) ?_
        repeat (go_big_quiet_step ((go_at_call 119; exact Calls.aft (Nat.le_refl _) (HC.out _))))
        refine wpQuiet_nil ?_
        intro w1 hw'
        obtain ⟨⟨_, hb1⟩, rfl⟩ := hw'
        have R1 := Lib.hid (HB.out.1.on hb1)
        have R2 := Lib.hid (HB.out.2.on hb1)
        have HB1 := Lib.hid (((only_below (S := fun k => k = b) (balloc (Below.refl _ w) (.cells #[.bool false, .int .i64 v] 25)))).below hb1)
        have q0 := R1.out.lt
        have q1 := R1.out.frozen 0
        have q2 := R1.out.frozen 1
        have q3 : w1.cell? ⟨b, 0, none⟩ = some (.bool false) := R1.out.cell 0
        have q4 : w1.cell? ⟨b, 1, none⟩ = some (.int .i64 a) := R1.out.cell 1
        have q5 : w1.cell? ⟨w.heap.size, 0, none⟩ = some (.bool false) := R2.out.cell 0
        have q6 : w1.cell? ⟨w.heap.size, 1, none⟩ = some (.int .i64 v) := R2.out.cell 1
        clear c0 c1 c2 d0 d1 hb1
        go_wp2
        go_end0
        first | exact ⟨rfl, R1.out.of (by simp [chS, HM.out]), HB1.out⟩ | exact ⟨rfl, ((R1.out.set 0 _).set 1 _).of (by simp [chS, HM.out]), (HB1.out.set (p := ⟨b, 0, none⟩) (.inl rfl) _).set (p := ⟨b, 1, none⟩) (.inl rfl) _⟩
    · dsimp only at *
      go_enter Try.func168, Try.ntmps168
      go_wp2_with fail
      refine wp_region_aft (w.alloc (.cells #[.bool false, .int .i64 v] 25)).heap.size (by kernel_rfl) (by kernel_rfl) ?_
      repeat (go_big_quiet_step (fail))
      refine wpQuiet_nil ?_
      intro w1 hw'
      obtain ⟨⟨_, hb1⟩, rfl⟩ := hw'
      have R1 := Lib.hid (HB.out.1.on hb1)
      have R2 := Lib.hid (HB.out.2.on hb1)
      have HB1 := Lib.hid (((only_below (S := fun k => k = b) (balloc (Below.refl _ w) (.cells #[.bool false, .int .i64 v] 25)))).below hb1)
      have q0 := R1.out.lt
      have q1 := R1.out.frozen 0
      have q2 := R1.out.frozen 1
      have q3 : w1.cell? ⟨b, 0, none⟩ = some (.bool true) := R1.out.cell 0
      have q4 : w1.cell? ⟨b, 1, none⟩ = some (.int .i64 a) := R1.out.cell 1
      have q5 : w1.cell? ⟨w.heap.size, 0, none⟩ = some (.bool false) := R2.out.cell 0
      have q6 : w1.cell? ⟨w.heap.size, 1, none⟩ = some (.int .i64 v) := R2.out.cell 1
      clear c0 c1 c2 d0 d1 hb1
      go_wp2
      go_end0
      exact ⟨rfl, ((R1.out.set 0 _).set 1 _).of (by simp [chS]), (HB1.out.set (p := ⟨b, 0, none⟩) (.inl rfl) _).set (p := ⟨b, 1, none⟩) (.inl rfl) _⟩
  · go_enter Try.func168, Try.ntmps168
    go_wp2_with fail
    refine wp_region_aft (w.alloc (.cells #[.bool true, .int .i64 v] 25)).heap.size (by kernel_rfl) (by kernel_rfl) ?_
    repeat (go_big_quiet_step (fail))
    refine wpQuiet_nil ?_
    intro w1 hw'
    obtain ⟨⟨_, hb1⟩, rfl⟩ := hw'
    go_wp2
    go_end0
    exact ⟨rfl, HB.out.1.on hb1, (only_below (balloc (Below.refl _ w) _)).below hb1⟩

end Go.Proofs.Ytmljhkoabhjiaaa
