import Derived.Test.YtlhonhacehgooaaGreatProg
import Derived.Test.YtlhonhacehgooaaGreatZrEvI
import Derived.Test.YtlhonhacehgooaaGreatZrRnD
import Derived.Shelf.Abstract
/-
  Contracts: has, intersected, restriction, eachConjunct (for any visiting function).
-/
namespace Go.Proofs.YtlhonhacehgooaaGreat
open Go.RowKit Go.Qo
set_option linter.unusedVariables false
set_option linter.unusedSimpArgs false

set_option maxRecDepth 20000 in
set_option maxHeartbeats 2000000 in
theorem has_ok (r : Int × Int) (v : Val) (w : World) :
    Calls Tryz.prog 91 #[.agg #[.int .i64 r.1, .int .i64 r.2], .agg #[.bool v.1, .int .i64 v.2]] w fun e w' => e = .returned (.bool (hasV r v)) ∧ Below w.heap.size w w' := by
  obtain ⟨lo, hi⟩ := r
  obtain ⟨n, m⟩ := v
  have B : Below w.heap.size w ((w.alloc (.cells #[.int .i64 lo, .int .i64 hi] 66)).alloc (.cells #[.bool n, .int .i64 m] 55)) := balloc (balloc (Below.refl _ _) _) _
  have HB := Lib.hid B
  clear B
  cases n
  · by_cases h1 : lo ≤ m
    · have h1' : decide (lo ≤ m) = true := by simpa using h1
      go_enter Tryz.func91, Tryz.ntmps91
      go_wp2
      go_ret
      exact ⟨by unfold hasV; simp [h1], HB.out⟩
    · have h1' : decide (lo ≤ m) = false := by simpa using h1
      go_enter Tryz.func91, Tryz.ntmps91
      go_wp2
      go_ret
      exact ⟨by unfold hasV; simp [h1]; intro; omega, HB.out⟩
  · go_enter Tryz.func91, Tryz.ntmps91
    go_wp2
    go_ret
    exact ⟨by unfold hasV; simp, HB.out⟩

theorem resIntersected {b : Nat} {v0 v1 : Value} (tmps : Array Value) (hp : tmps.getD 4 undef = .pointer (some ⟨b, 0, none⟩)) (w : World) (c0 : w.cell? ⟨b, 0, none⟩ = some v0) (c1 : w.cell? ⟨b, 1, none⟩ = some v1) :
    (results Tryz.f88 tmps).run Tryz.prog w = .ok (.agg #[v0, v1]) w := by
  simp only [Array.getD_eq_getD_getElem?] at hp
  simp [results, Tryz.results88, go_sem, hp, c0, c1]
set_option maxRecDepth 20000 in
set_option maxHeartbeats 2000000 in
theorem intersected_ok (a b : Int × Int) (w : World) (r : Int × Int) (hr : meetR a b = r) :
    Calls Tryz.prog 88 #[.agg #[.int .i64 a.1, .int .i64 a.2], .agg #[.int .i64 b.1, .int .i64 b.2]] w fun e w' => e = .returned (.agg #[.int .i64 r.1, .int .i64 r.2]) ∧ Below w.heap.size w w' := by
  obtain ⟨lo, hi⟩ := a
  obtain ⟨lo', hi'⟩ := b
  obtain ⟨r1, r2⟩ := r
  obtain ⟨W0, hW0⟩ : ∃ z, ((w.alloc (.cells #[.int .i64 lo, .int .i64 hi] 66)).alloc (.cells #[.int .i64 lo', .int .i64 hi'] 66)).alloc (.cells #[.int .i64 0, .int .i64 0] 66) = z := ⟨_, rfl⟩
  have B0 : Below w.heap.size w W0 := by rw [← hW0]; exact balloc (balloc (balloc (Below.refl _ _) _) _) _
  have r0 : Row W0 w.heap.size 66 [.int .i64 lo, .int .i64 hi] := by rw [← hW0]; exact ((Row.new _ _ _).alloc _).alloc _
  have r1' : Row W0 (w.heap.size + 1) 66 [.int .i64 lo', .int .i64 hi'] := by rw [← hW0]; exact (Row.second _ _ _ _).alloc _
  have r2' : Row W0 (w.heap.size + 2) 66 [.int .i64 0, .int .i64 0] := by rw [← hW0]; exact Row.third _ _ _ _ _
  have HW0 := Lib.hid hW0
  have HB0 := Lib.hid B0
  have c0 : W0.cell? ⟨w.heap.size, 0, none⟩ = some (.int .i64 lo) := r0.cell 0
  have c1 : W0.cell? ⟨w.heap.size, 1, none⟩ = some (.int .i64 hi) := r0.cell 1
  have d0 : W0.cell? ⟨w.heap.size + 1, 0, none⟩ = some (.int .i64 lo') := r1'.cell 0
  have d1 : W0.cell? ⟨w.heap.size + 1, 1, none⟩ = some (.int .i64 hi') := r1'.cell 1
  have q0 := r2'.lt
  have q1 := r2'.frozen 0
  have q2 := r2'.frozen 1
  have q3 : W0.cell? ⟨w.heap.size + 2, 0, none⟩ = some (.int .i64 0) := r2'.cell 0
  have q4 : W0.cell? ⟨w.heap.size + 2, 1, none⟩ = some (.int .i64 0) := r2'.cell 1
  have hmm : r1 = max lo lo' ∧ r2 = min hi hi' := by unfold meetR at hr; exact ⟨(congrArg Prod.fst hr).symm, (congrArg Prod.snd hr).symm⟩
  have HE := Lib.hid hmm
  clear r0 r1' r2' B0 hW0 hr hmm
  go_enter Tryz.func88, Tryz.ntmps88
  go_upto_region 1 with fail
  rw [HW0.out]
  go_wp2
  all_goals refine bodyPost_ret (resIntersected (b := w.heap.size + 2) _ rfl _ (v0 := .int .i64 r1) (v1 := .int .i64 r2) (by have := HE.out; simp [go_sem, q0, q1, q2, q3, q4] <;> omega) (by have := HE.out; simp [go_sem, q0, q1, q2, q3, q4] <;> omega)) rfl ⟨rfl, below_put HB0.out (by omega) _ _⟩
end Go.Proofs.YtlhonhacehgooaaGreat

/-
  Contracts: restriction, eachConjunct for any visiting function. (Printed by wip/rnj.py.)
-/
namespace Go.Proofs.YtlhonhacehgooaaGreat
open Go.RowKit Go.Qo
set_option linter.unusedVariables false
set_option linter.unusedSimpArgs false

theorem resRstr {b : Nat} {v0 v1 : Value} {q : Bool} (tmps : Array Value) (hp : tmps.getD 4 undef = .pointer (some ⟨b, 0, none⟩)) (hq : tmps.getD 5 undef = .bool q) (w : World) (c0 : w.cell? ⟨b, 0, none⟩ = some v0) (c1 : w.cell? ⟨b, 1, none⟩ = some v1) :
    (results Tryz.f87 tmps).run Tryz.prog w = .ok (.tuple #[.agg #[v0, v1], .bool q]) w := by
  simp only [Array.getD_eq_getD_getElem?] at hp hq
  simp [results, Tryz.results87, go_sem, hp, hq, c0, c1]
def rsK (col k ka ca : Int) (a : Val) (kb cb : Int) (b : Val) : Option (Int × Int) :=
  if ka = 1 then (if ca = col ∧ kb = 2 then some (if b.1 then (1, 0) else if k = 6 then (b.2, b.2) else (-9999, b.2 - 1)) else none)
  else if kb = 1 ∧ cb = col ∧ ka = 2 then some (if a.1 then (1, 0) else if k = 6 then (a.2, a.2) else (a.2 + 1, 9999)) else none
def RsRes (R : Option (Int × Int)) (w : World) (e : Ending) (w' : World) : Prop :=
  ∃ (q : Bool) (lo hi : Int), e = .returned (.tuple #[.agg #[.int .i64 lo, .int .i64 hi], .bool q]) ∧ (R = if q then some (lo, hi) else none) ∧ Below w.heap.size w w'
set_option maxRecDepth 20000 in
set_option maxHeartbeats 4000000 in
theorem rstr_no (b o : Nat) (k col : Int) (w : World) (hbw : b < w.heap.size) (h0 : w.cell? ⟨b, o, none⟩ = some (.int .i64 k)) (hk6 : ¬ k = 6) (hk7 : ¬ k = 7) : Calls Tryz.prog 87 #[.pointer (some ⟨b, o, none⟩), .int .i64 col] w (RsRes none w) := by
  obtain ⟨W0, hW0⟩ : ∃ z, w.alloc (.cells #[.int .i64 0, .int .i64 0] 66) = z := ⟨_, rfl⟩
  have B0 : Below w.heap.size w W0 := by rw [← hW0]; exact balloc (Below.refl _ _) _
  have r0 : Row W0 w.heap.size 66 [.int .i64 0, .int .i64 0] := by rw [← hW0]; exact Row.new _ _ _
  have c0 := (B0.cell (p := ⟨b, o, none⟩) hbw).trans h0
  have q0 := r0.lt
  have q1 := r0.frozen 0
  have q2 := r0.frozen 1
  have q3 : W0.cell? ⟨w.heap.size, 0, none⟩ = some (.int .i64 0) := r0.cell 0
  have q4 : W0.cell? ⟨w.heap.size, 1, none⟩ = some (.int .i64 0) := r0.cell 1
  have HB0 := Lib.hid B0
  have HW0 := Lib.hid hW0
  have hk6' : (k == 6) = false := (by simpa using hk6); have hk6'' : (k != 6) = true := by simpa using hk6
  have hk7' : (k == 7) = false := (by simpa using hk7); have hk7'' : (k != 7) = true := by simpa using hk7
  clear B0 r0 h0 hW0
  go_enter Tryz.func87, Tryz.ntmps87
  go_upto_region 1 with fail
  rw [HW0.out]
  go_wp2
  exact bodyPost_ret (resRstr (b := w.heap.size) (q := false) _ rfl rfl _ (v0 := .int .i64 0) (v1 := .int .i64 0) (by simp [go_sem, q0, q1, q2, q3, q4]) (by simp [go_sem, q0, q1, q2, q3, q4])) rfl ⟨false, 0, 0, rfl, rfl, below_put HB0.out (Nat.le_refl _) _ _⟩
set_option maxRecDepth 20000 in
set_option maxHeartbeats 40000000 in
theorem rstr_walk (b o b1 o1 c : Nat) (k ka ca va kb cb vb col : Int) (na nb : Bool) (w : World) (hkk : k = 6 ∨ k = 7) (hbw : b < w.heap.size) (hbw1 : b1 < w.heap.size)
    (h0 : w.cell? ⟨b, o, none⟩ = some (.int .i64 k)) (h4 : w.cell? ⟨b, o + 4, none⟩ = some (.slice (some ⟨b1, o1, none⟩) 2 c))
    (f0 : w.cell? ⟨b1, o1, none⟩ = some (.int .i64 ka)) (f1 : w.cell? ⟨b1, o1 + 1, none⟩ = some (.int .i64 ca)) (f2 : w.cell? ⟨b1, o1 + 2, none⟩ = some (.bool na)) (f3 : w.cell? ⟨b1, o1 + 3, none⟩ = some (.int .i64 va))
    (g0 : w.cell? ⟨b1, o1 + 5, none⟩ = some (.int .i64 kb)) (g1 : w.cell? ⟨b1, o1 + 6, none⟩ = some (.int .i64 cb)) (g2 : w.cell? ⟨b1, o1 + 7, none⟩ = some (.bool nb)) (g3 : w.cell? ⟨b1, o1 + 8, none⟩ = some (.int .i64 vb))
    (hva : -9999 ≤ va ∧ va ≤ 9999) (hvb : -9999 ≤ vb ∧ vb ≤ 9999) :
    Calls Tryz.prog 87 #[.pointer (some ⟨b, o, none⟩), .int .i64 col] w (RsRes (rsK col k ka ca (na, va) kb cb (nb, vb)) w) := by
  obtain ⟨W0, hW0⟩ : ∃ z, w.alloc (.cells #[.int .i64 0, .int .i64 0] 66) = z := ⟨_, rfl⟩
  have B0 : Below w.heap.size w W0 := by rw [← hW0]; exact balloc (Below.refl _ _) _
  have r0 : Row W0 w.heap.size 66 [.int .i64 0, .int .i64 0] := by rw [← hW0]; exact Row.new _ _ _
  replace h0 := (B0.cell (p := ⟨b, o, none⟩) hbw).trans h0
  replace h4 := (B0.cell (p := ⟨b, o + 4, none⟩) hbw).trans h4
  replace f0 := (B0.cell (p := ⟨b1, o1, none⟩) hbw1).trans f0
  replace f1 := (B0.cell (p := ⟨b1, o1 + 1, none⟩) hbw1).trans f1
  replace f2 := (B0.cell (p := ⟨b1, o1 + 2, none⟩) hbw1).trans f2
  replace f3 := (B0.cell (p := ⟨b1, o1 + 3, none⟩) hbw1).trans f3
  replace g0 := (B0.cell (p := ⟨b1, o1 + 5, none⟩) hbw1).trans g0
  replace g1 := (B0.cell (p := ⟨b1, o1 + 6, none⟩) hbw1).trans g1
  replace g2 := (B0.cell (p := ⟨b1, o1 + 7, none⟩) hbw1).trans g2
  replace g3 := (B0.cell (p := ⟨b1, o1 + 8, none⟩) hbw1).trans g3
  have q0 := r0.lt
  have q1 := r0.frozen 0
  have q2 := r0.frozen 1
  have q3 : W0.cell? ⟨w.heap.size, 0, none⟩ = some (.int .i64 0) := r0.cell 0
  have q4 : W0.cell? ⟨w.heap.size, 1, none⟩ = some (.int .i64 0) := r0.cell 1
  have HB0 := Lib.hid B0
  have HW0 := Lib.hid hW0
  have hwa : IntKind.i64.wrap (va + 1) = va + 1 := IntWalk.i64_in _ (by omega)
  have hwb : IntKind.i64.wrap (vb - 1) = vb - 1 := IntWalk.i64_in _ (by omega)
  clear B0 r0 hW0 hbw hbw1
  rcases hkk with rfl | rfl
  · by_cases ha1 : ka = 1
    · subst ha1
      by_cases hca : ca = col
      · subst hca
        by_cases hb2 : kb = 2
        · subst hb2
          cases nb
          · have HR := Lib.hid (show rsK ca 6 1 ca (na, va) 2 cb (false, vb) = some (vb, vb) by unfold rsK; simp)
            go_enter Tryz.func87, Tryz.ntmps87
            go_upto_region 1 with fail
            rw [HW0.out]
            go_wp2
            go_quiet (fail)
            go_wp2
            exact bodyPost_ret (resRstr (b := w.heap.size) (q := true) _ rfl rfl _ (v0 := .int .i64 (vb)) (v1 := .int .i64 (vb)) (by simp [go_sem, q0, q1, q2, q3, q4]) (by simp [go_sem, q0, q1, q2, q3, q4])) rfl ⟨true, vb, vb, rfl, HR.out, below_put (bdrewN HB0.out _) (Nat.le_refl _) _ _⟩
          · have HR := Lib.hid (show rsK ca 6 1 ca (na, va) 2 cb (true, vb) = some (1, 0) by unfold rsK; simp)
            go_enter Tryz.func87, Tryz.ntmps87
            go_upto_region 1 with fail
            rw [HW0.out]
            go_wp2
            go_quiet (fail)
            go_wp2
            exact bodyPost_ret (resRstr (b := w.heap.size) (q := true) _ rfl rfl _ (v0 := .int .i64 (1)) (v1 := .int .i64 (0)) (by simp [go_sem, q0, q1, q2, q3, q4]) (by simp [go_sem, q0, q1, q2, q3, q4])) rfl ⟨true, 1, 0, rfl, HR.out, below_put (bdrewN HB0.out _) (Nat.le_refl _) _ _⟩
        · have hb2' : (kb == 2) = false := (by simpa using hb2); have hb2'' : (kb != 2) = true := by simpa using hb2
          have HR := Lib.hid (show rsK ca 6 1 ca (na, va) kb cb (nb, vb) = none by unfold rsK; simp [hb2])
          go_enter Tryz.func87, Tryz.ntmps87
          go_upto_region 1 with fail
          rw [HW0.out]
          go_wp2
          go_quiet (fail)
          go_wp2
          exact bodyPost_ret (resRstr (b := w.heap.size) (q := false) _ rfl rfl _ (v0 := .int .i64 (0)) (v1 := .int .i64 (0)) (by simp [go_sem, q0, q1, q2, q3, q4]) (by simp [go_sem, q0, q1, q2, q3, q4])) rfl ⟨false, 0, 0, rfl, HR.out, below_put (bdrewN HB0.out _) (Nat.le_refl _) _ _⟩
      · have hca' : (ca == col) = false := (by simpa using hca); have hca'' : (ca != col) = true := by simpa using hca
        have HR := Lib.hid (show rsK col 6 1 ca (na, va) kb cb (nb, vb) = none by unfold rsK; simp [hca])
        go_enter Tryz.func87, Tryz.ntmps87
        go_upto_region 1 with fail
        rw [HW0.out]
        go_wp2
        go_quiet (fail)
        go_wp2
        exact bodyPost_ret (resRstr (b := w.heap.size) (q := false) _ rfl rfl _ (v0 := .int .i64 (0)) (v1 := .int .i64 (0)) (by simp [go_sem, q0, q1, q2, q3, q4]) (by simp [go_sem, q0, q1, q2, q3, q4])) rfl ⟨false, 0, 0, rfl, HR.out, below_put (bdrewN HB0.out _) (Nat.le_refl _) _ _⟩
    · have ha1' : (ka == 1) = false := (by simpa using ha1); have ha1'' : (ka != 1) = true := by simpa using ha1
      by_cases hb1 : kb = 1
      · subst hb1
        by_cases hcb : cb = col
        · subst hcb
          by_cases ha2 : ka = 2
          · subst ha2
            cases na
            · have HR := Lib.hid (show rsK cb 6 2 ca (false, va) 1 cb (nb, vb) = some (va, va) by unfold rsK; simp)
              go_enter Tryz.func87, Tryz.ntmps87
              go_upto_region 1 with fail
              rw [HW0.out]
              go_wp2
              go_quiet (fail)
              go_wp2
              exact bodyPost_ret (resRstr (b := w.heap.size) (q := true) _ rfl rfl _ (v0 := .int .i64 (va)) (v1 := .int .i64 (va)) (by simp [go_sem, q0, q1, q2, q3, q4]) (by simp [go_sem, q0, q1, q2, q3, q4])) rfl ⟨true, va, va, rfl, HR.out, below_put (bdrewN HB0.out _) (Nat.le_refl _) _ _⟩
            · have HR := Lib.hid (show rsK cb 6 2 ca (true, va) 1 cb (nb, vb) = some (1, 0) by unfold rsK; simp)
              go_enter Tryz.func87, Tryz.ntmps87
              go_upto_region 1 with fail
              rw [HW0.out]
              go_wp2
              go_quiet (fail)
              go_wp2
              exact bodyPost_ret (resRstr (b := w.heap.size) (q := true) _ rfl rfl _ (v0 := .int .i64 (1)) (v1 := .int .i64 (0)) (by simp [go_sem, q0, q1, q2, q3, q4]) (by simp [go_sem, q0, q1, q2, q3, q4])) rfl ⟨true, 1, 0, rfl, HR.out, below_put (bdrewN HB0.out _) (Nat.le_refl _) _ _⟩
          · have ha2' : (ka == 2) = false := (by simpa using ha2); have ha2'' : (ka != 2) = true := by simpa using ha2
            have HR := Lib.hid (show rsK cb 6 ka ca (na, va) 1 cb (nb, vb) = none by unfold rsK; simp [ha1, ha2])
            go_enter Tryz.func87, Tryz.ntmps87
            go_upto_region 1 with fail
            rw [HW0.out]
            go_wp2
            go_quiet (fail)
            go_wp2
            exact bodyPost_ret (resRstr (b := w.heap.size) (q := false) _ rfl rfl _ (v0 := .int .i64 (0)) (v1 := .int .i64 (0)) (by simp [go_sem, q0, q1, q2, q3, q4]) (by simp [go_sem, q0, q1, q2, q3, q4])) rfl ⟨false, 0, 0, rfl, HR.out, below_put (bdrewN HB0.out _) (Nat.le_refl _) _ _⟩
        · have hcb' : (cb == col) = false := (by simpa using hcb); have hcb'' : (cb != col) = true := by simpa using hcb
          have HR := Lib.hid (show rsK col 6 ka ca (na, va) 1 cb (nb, vb) = none by unfold rsK; simp [ha1, hcb])
          go_enter Tryz.func87, Tryz.ntmps87
          go_upto_region 1 with fail
          rw [HW0.out]
          go_wp2
          go_quiet (fail)
          go_wp2
          exact bodyPost_ret (resRstr (b := w.heap.size) (q := false) _ rfl rfl _ (v0 := .int .i64 (0)) (v1 := .int .i64 (0)) (by simp [go_sem, q0, q1, q2, q3, q4]) (by simp [go_sem, q0, q1, q2, q3, q4])) rfl ⟨false, 0, 0, rfl, HR.out, below_put (bdrewN HB0.out _) (Nat.le_refl _) _ _⟩
      · have hb1' : (kb == 1) = false := (by simpa using hb1); have hb1'' : (kb != 1) = true := by simpa using hb1
        have HR := Lib.hid (show rsK col 6 ka ca (na, va) kb cb (nb, vb) = none by unfold rsK; simp [ha1, hb1])
        go_enter Tryz.func87, Tryz.ntmps87
        go_upto_region 1 with fail
        rw [HW0.out]
        go_wp2
        go_quiet (fail)
        go_wp2
        exact bodyPost_ret (resRstr (b := w.heap.size) (q := false) _ rfl rfl _ (v0 := .int .i64 (0)) (v1 := .int .i64 (0)) (by simp [go_sem, q0, q1, q2, q3, q4]) (by simp [go_sem, q0, q1, q2, q3, q4])) rfl ⟨false, 0, 0, rfl, HR.out, below_put (bdrewN HB0.out _) (Nat.le_refl _) _ _⟩
  · by_cases ha1 : ka = 1
    · subst ha1
      by_cases hca : ca = col
      · subst hca
        by_cases hb2 : kb = 2
        · subst hb2
          cases nb
          · have HR := Lib.hid (show rsK ca 7 1 ca (na, va) 2 cb (false, vb) = some (-9999, vb - 1) by unfold rsK; simp)
            go_enter Tryz.func87, Tryz.ntmps87
            go_upto_region 1 with fail
            rw [HW0.out]
            go_wp2
            go_quiet (fail)
            go_wp2
            exact bodyPost_ret (resRstr (b := w.heap.size) (q := true) _ rfl rfl _ (v0 := .int .i64 (-9999)) (v1 := .int .i64 (vb - 1)) (by simp [go_sem, q0, q1, q2, q3, q4]) (by simp [go_sem, q0, q1, q2, q3, q4])) rfl ⟨true, -9999, vb - 1, rfl, HR.out, below_put (bdrewN HB0.out _) (Nat.le_refl _) _ _⟩
          · have HR := Lib.hid (show rsK ca 7 1 ca (na, va) 2 cb (true, vb) = some (1, 0) by unfold rsK; simp)
            go_enter Tryz.func87, Tryz.ntmps87
            go_upto_region 1 with fail
            rw [HW0.out]
            go_wp2
            go_quiet (fail)
            go_wp2
            exact bodyPost_ret (resRstr (b := w.heap.size) (q := true) _ rfl rfl _ (v0 := .int .i64 (1)) (v1 := .int .i64 (0)) (by simp [go_sem, q0, q1, q2, q3, q4]) (by simp [go_sem, q0, q1, q2, q3, q4])) rfl ⟨true, 1, 0, rfl, HR.out, below_put (bdrewN HB0.out _) (Nat.le_refl _) _ _⟩
        · have hb2' : (kb == 2) = false := (by simpa using hb2); have hb2'' : (kb != 2) = true := by simpa using hb2
          have HR := Lib.hid (show rsK ca 7 1 ca (na, va) kb cb (nb, vb) = none by unfold rsK; simp [hb2])
          go_enter Tryz.func87, Tryz.ntmps87
          go_upto_region 1 with fail
          rw [HW0.out]
          go_wp2
          go_quiet (fail)
          go_wp2
          exact bodyPost_ret (resRstr (b := w.heap.size) (q := false) _ rfl rfl _ (v0 := .int .i64 (0)) (v1 := .int .i64 (0)) (by simp [go_sem, q0, q1, q2, q3, q4]) (by simp [go_sem, q0, q1, q2, q3, q4])) rfl ⟨false, 0, 0, rfl, HR.out, below_put (bdrewN HB0.out _) (Nat.le_refl _) _ _⟩
      · have hca' : (ca == col) = false := (by simpa using hca); have hca'' : (ca != col) = true := by simpa using hca
        have HR := Lib.hid (show rsK col 7 1 ca (na, va) kb cb (nb, vb) = none by unfold rsK; simp [hca])
        go_enter Tryz.func87, Tryz.ntmps87
        go_upto_region 1 with fail
        rw [HW0.out]
        go_wp2
        go_quiet (fail)
        go_wp2
        exact bodyPost_ret (resRstr (b := w.heap.size) (q := false) _ rfl rfl _ (v0 := .int .i64 (0)) (v1 := .int .i64 (0)) (by simp [go_sem, q0, q1, q2, q3, q4]) (by simp [go_sem, q0, q1, q2, q3, q4])) rfl ⟨false, 0, 0, rfl, HR.out, below_put (bdrewN HB0.out _) (Nat.le_refl _) _ _⟩
    · have ha1' : (ka == 1) = false := (by simpa using ha1); have ha1'' : (ka != 1) = true := by simpa using ha1
      by_cases hb1 : kb = 1
      · subst hb1
        by_cases hcb : cb = col
        · subst hcb
          by_cases ha2 : ka = 2
          · subst ha2
            cases na
            · have HR := Lib.hid (show rsK cb 7 2 ca (false, va) 1 cb (nb, vb) = some (va + 1, 9999) by unfold rsK; simp)
              go_enter Tryz.func87, Tryz.ntmps87
              go_upto_region 1 with fail
              rw [HW0.out]
              go_wp2
              go_quiet (fail)
              go_wp2
              exact bodyPost_ret (resRstr (b := w.heap.size) (q := true) _ rfl rfl _ (v0 := .int .i64 (va + 1)) (v1 := .int .i64 (9999)) (by simp [go_sem, q0, q1, q2, q3, q4]) (by simp [go_sem, q0, q1, q2, q3, q4])) rfl ⟨true, va + 1, 9999, rfl, HR.out, below_put (bdrewN HB0.out _) (Nat.le_refl _) _ _⟩
            · have HR := Lib.hid (show rsK cb 7 2 ca (true, va) 1 cb (nb, vb) = some (1, 0) by unfold rsK; simp)
              go_enter Tryz.func87, Tryz.ntmps87
              go_upto_region 1 with fail
              rw [HW0.out]
              go_wp2
              go_quiet (fail)
              go_wp2
              exact bodyPost_ret (resRstr (b := w.heap.size) (q := true) _ rfl rfl _ (v0 := .int .i64 (1)) (v1 := .int .i64 (0)) (by simp [go_sem, q0, q1, q2, q3, q4]) (by simp [go_sem, q0, q1, q2, q3, q4])) rfl ⟨true, 1, 0, rfl, HR.out, below_put (bdrewN HB0.out _) (Nat.le_refl _) _ _⟩
          · have ha2' : (ka == 2) = false := (by simpa using ha2); have ha2'' : (ka != 2) = true := by simpa using ha2
            have HR := Lib.hid (show rsK cb 7 ka ca (na, va) 1 cb (nb, vb) = none by unfold rsK; simp [ha1, ha2])
            go_enter Tryz.func87, Tryz.ntmps87
            go_upto_region 1 with fail
            rw [HW0.out]
            go_wp2
            go_quiet (fail)
            go_wp2
            exact bodyPost_ret (resRstr (b := w.heap.size) (q := false) _ rfl rfl _ (v0 := .int .i64 (0)) (v1 := .int .i64 (0)) (by simp [go_sem, q0, q1, q2, q3, q4]) (by simp [go_sem, q0, q1, q2, q3, q4])) rfl ⟨false, 0, 0, rfl, HR.out, below_put (bdrewN HB0.out _) (Nat.le_refl _) _ _⟩
        · have hcb' : (cb == col) = false := (by simpa using hcb); have hcb'' : (cb != col) = true := by simpa using hcb
          have HR := Lib.hid (show rsK col 7 ka ca (na, va) 1 cb (nb, vb) = none by unfold rsK; simp [ha1, hcb])
          go_enter Tryz.func87, Tryz.ntmps87
          go_upto_region 1 with fail
          rw [HW0.out]
          go_wp2
          go_quiet (fail)
          go_wp2
          exact bodyPost_ret (resRstr (b := w.heap.size) (q := false) _ rfl rfl _ (v0 := .int .i64 (0)) (v1 := .int .i64 (0)) (by simp [go_sem, q0, q1, q2, q3, q4]) (by simp [go_sem, q0, q1, q2, q3, q4])) rfl ⟨false, 0, 0, rfl, HR.out, below_put (bdrewN HB0.out _) (Nat.le_refl _) _ _⟩
      · have hb1' : (kb == 1) = false := (by simpa using hb1); have hb1'' : (kb != 1) = true := by simpa using hb1
        have HR := Lib.hid (show rsK col 7 ka ca (na, va) kb cb (nb, vb) = none by unfold rsK; simp [ha1, hb1])
        go_enter Tryz.func87, Tryz.ntmps87
        go_upto_region 1 with fail
        rw [HW0.out]
        go_wp2
        go_quiet (fail)
        go_wp2
        exact bodyPost_ret (resRstr (b := w.heap.size) (q := false) _ rfl rfl _ (v0 := .int .i64 (0)) (v1 := .int .i64 (0)) (by simp [go_sem, q0, q1, q2, q3, q4]) (by simp [go_sem, q0, q1, q2, q3, q4])) rfl ⟨false, 0, 0, rfl, HR.out, below_put (bdrewN HB0.out _) (Nat.le_refl _) _ _⟩
end Go.Proofs.YtlhonhacehgooaaGreat

/-
  Contracts: restriction of an expression, eachConjunct for any visiting function, RangeOf.
-/
namespace Go.Proofs.YtlhonhacehgooaaGreat
open Go.RowKit Go.Qo
set_option linter.unusedVariables false
set_option linter.unusedSimpArgs false

theorem loc_range {W : Int} {x : Ex} (h : LocOk W x) : -9999 ≤ x.val.2 ∧ x.val.2 ≤ 9999 := by
  unfold LocOk at h
  split at h
  · rw [h.2]; decide
  · split at h
    · exact vValid_range h.2
    · rw [h.2]; decide
theorem rstr_rsK {col : Int} {x : Ex} (hk : x.kind = 6 ∨ x.kind = 7) : rstr col x = rsK col x.kind (kidE x 0).kind (kidE x 0).col (kidE x 0).val (kidE x 1).kind (kidE x 1).col (kidE x 1).val := by
  unfold rstr rsK; rw [if_pos hk]
theorem restriction_ok (x : Ex) (f : FE) (b o : Nat) (col W d : Int) (w : World) (hbw : b < w.heap.size) (hat : FeAt w b o f) (h : ExIn w w.heap.size f x) (hok : ExOk W d x) :
    Calls Tryz.prog 87 #[.pointer (some ⟨b, o, none⟩), .int .i64 col] w (RsRes (rstr col x) w) := by
  obtain ⟨a1, a2, a3, a4, a5, a6⟩ := h.flat
  obtain ⟨ok1, ok2, ok3, ok4⟩ := exOk_iff.1 hok
  obtain ⟨c0, c1, c2, c3, c4⟩ := hat
  rw [a1] at c0
  by_cases hk : x.kind = 6 ∨ x.kind = 7
  · have hl : x.kids.length = 2 := by rcases hk with hk | hk <;> rw [hk] at ok1 <;> simp [kidsK] at ok1 <;> omega
    obtain ⟨b1, o1, g0, e1, e2, e3, e4⟩ := h.kid (i := 0) (by omega)
    obtain ⟨b1', o1', g1, e1', e2', e3', e4'⟩ := h.kid (i := 1) (by omega)
    rw [e1] at e1'
    simp only [Option.some.injEq, Addr.mk.injEq, and_true] at e1'
    obtain ⟨rfl, rfl⟩ := e1'
    obtain ⟨p1, p2, p3, _, _, _⟩ := e4.flat
    obtain ⟨r1, r2, r3, _, _, _⟩ := e4'.flat
    obtain ⟨m0, m1, m2, m3, _⟩ := e3
    obtain ⟨n0, n1, n2, n3, _⟩ := e3'
    rw [a4, hl, e1] at c4
    have k0 : kidE x 0 = x.kids[0] := kidE_at (by omega)
    have k1 : kidE x 1 = x.kids[1] := kidE_at (by omega)
    rw [p1, ← k0] at m0
    rw [p2, ← k0] at m1
    rw [p3, ← k0] at m2 m3
    rw [r1, ← k1] at n0
    rw [r2, ← k1] at n1
    rw [r3, ← k1] at n2 n3
    have l0 := loc_range (exOk_iff.1 (ok3 _ (List.getElem_mem (show 0 < x.kids.length by omega)))).2.2.2
    have l1 := loc_range (exOk_iff.1 (ok3 _ (List.getElem_mem (show 1 < x.kids.length by omega)))).2.2.2
    rw [← k0] at l0
    rw [← k1] at l1
    simp only [Nat.zero_mul, Nat.add_zero, Nat.one_mul, Nat.add_assoc, Nat.reduceAdd] at m0 m1 m2 m3 n0 n1 n2 n3
    rw [rstr_rsK hk]
    exact rstr_walk b o b1 o1 f.sv.c x.kind (kidE x 0).kind (kidE x 0).col (kidE x 0).val.2 (kidE x 1).kind (kidE x 1).col (kidE x 1).val.2 col (kidE x 0).val.1 (kidE x 1).val.1 w hk hbw e2 c0 c4 m0 m1 m2 m3 n0 n1 n2 n3 l0 l1
  · have : rstr col x = none := by unfold rstr; rw [if_neg hk]
    rw [this]
    exact rstr_no b o x.kind col w hbw c0 (by omega) (by omega)

/-- What a visiting function does to a state s, which the memory holds by I; what lies below B does not change. -/
def VisitsE {α : Type} (gf : FuncId) (cap : Array Value) (B : Nat) (W : Int) (I : α → World → Prop) (step : α → Ex → α) : Prop :=
  ∀ (s : α) (x : Ex) (d : Int) (f : FE) (b o : Nat) (z : World), ExIn z B f x → ExOk W d x → b < B → B ≤ z.heap.size → FeAt z b o f → I s z → Calls Tryz.prog gf (#[.pointer (some ⟨b, o, none⟩)] ++ cap) z fun e w' => (∃ v, e = .returned v) ∧ I (step s x) w' ∧ Below B z w'
def EcjOk (x : Ex) : Prop := ∀ {α : Type} (gf : FuncId) (cap : Array Value) (B : Nat) (W : Int) (I : α → World → Prop) (step : α → Ex → α) (eg : ∀ args w, (callFunc gf args).run Tryz.prog w = .ok (.enter gf args) w) (hV : VisitsE gf cap B W I step)
  (s : α) (d : Int) (f : FE) (b o : Nat) (w : World), ExIn w B f x → ExOk W d x → b < B → B ≤ w.heap.size → FeAt w b o f → I s w →
  Calls Tryz.prog 85 #[.pointer (some ⟨b, o, none⟩), .func (.func gf) #[] cap] w fun e w' => (∃ v, e = .returned v) ∧ I ((conj x).foldl step s) w' ∧ Below B w w'
theorem exIn_below {w w' : World} {B : Nat} {f : FE} {x : Ex} (h : ExIn w B f x) (hb : Below B w w') : ExIn w' B f x := h.imp fun _ k => k.below hb
theorem conjs_take {es : List Ex} {i : Nat} (h : i < es.length) : conjs (es.take (i + 1)) = conjs (es.take i) ++ conj es[i] := by
  rw [conjs_flat, conjs_flat, List.take_succ_eq_append_getElem h, List.flatMap_append]; simp
set_option maxRecDepth 20000 in
set_option maxHeartbeats 2000000 in
theorem eachConjunct_ok : ∀ x : Ex, EcjOk x := Ex.ind fun x ih α gf cap B W I step eg hV s d f b o w h hok hb hB hat hI => by
  obtain ⟨a1, a2, a3, a4, a5, a6⟩ := h.flat
  obtain ⟨ok1, ok2, ok3, ok4⟩ := exOk_iff.1 hok
  have HV := Lib.hid (hV s x d f b o w h hok hb hB hat hI)
  have HH := Lib.hid (fun (z : World) (hz : Below B w z) => And.intro (exIn_below h hz) (feAt_belowI hat hz hb))
  have HVV := Lib.hid hV
  have IH := Lib.hid ih
  have HO := Lib.hid ok3
  have Ha := Lib.hid (And.intro a1 a4)
  have HI0 := Lib.hid hI
  have hkl := hok.kids_le
  have hBs := hB
  obtain ⟨c0, c1, c2, c3, c4⟩ := hat
  rw [a1] at c0
  rw [a4] at c4
  clear hV ih h hok hI a1 a2 a3 a4 a5 a6 ok1 ok2 ok3 ok4
  by_cases hk : x.kind = 8
  · rw [hk] at c0
    have Hc := Lib.hid (show conj x = conjs x.kids by rw [conj_eq, if_pos hk])
    clear hk
    go_enter Tryz.func85, Tryz.ntmps85
    go_wp2
    go_loopg [4, 18] x.kids.length (fun g _ iv wr => ∃ i : Nat, i ≤ x.kids.length ∧ g = x.kids.length - i ∧ iv = .int .i64 i ∧ I ((conjs (x.kids.take i)).foldl step s) wr ∧ Below B w wr)
    case atStart => exact ⟨0, by omega, by omega, rfl, by rw [List.take_zero, conjs]; exact HI0.out, Below.refl _ _⟩
    case round =>
      obtain ⟨i, hi, rfl, rfl, hIr, hbr⟩ := hrel
      have HR := Lib.hid (And.intro hIr hbr)
      obtain ⟨d0, d1, d2, d3, d4⟩ := (HH.out _ hbr).2
      rw [Ha.out.2] at d4
      have hsr := hbr.size
      clear hIr hbr
      by_cases hil : i < x.kids.length
      · have hiI : (i : Int) < (x.kids.length : Int) := by omega
        obtain ⟨qi, oi, g, hAi, hqi, hgat, hg⟩ := (HH.out _ HR.out.2).1.kid hil
        rw [hAi] at d4
        have HX := Lib.hid (IH.out _ (List.getElem_mem hil) gf cap B W I step eg HVV.out _ (d - 1) g qi _ wr hg (HO.out _ (List.getElem_mem hil)) hqi (by omega) hgat HR.out.1)
        have Hst := Lib.hid (show (conjs (x.kids.take (i + 1))).foldl step s = (conj x.kids[i]).foldl step ((conjs (x.kids.take i)).foldl step s) by rw [conjs_take hil, List.foldl_append])
        clear hAi hgat hg
        go_wp2_with fail
        refine HX.out.mono ?_
        rintro e w2 ⟨⟨v2, rfl⟩, hI2, hb2⟩
        have H2 := Lib.hid (And.intro hI2 (HR.out.2.trans hb2))
        clear hI2 hb2
        go_wp2
        go_roundg (x.kids.length - (i + 1))
        case measure => omega
        case rel => exact ⟨i + 1, by omega, rfl, by go_num, by rw [Hst.out]; exact H2.out.1, H2.out.2⟩
      · have hiI : ¬ (i : Int) < (x.kids.length : Int) := by omega
        have Hz := Lib.hid (show (conj x).foldl step s = (conjs (x.kids.take i)).foldl step s by rw [List.take_of_length_le (show x.kids.length ≤ i by omega), Hc.out])
        go_wp2
        go_end0
        exact ⟨⟨_, rfl⟩, by rw [Hz.out]; exact HR.out.1, HR.out.2⟩
  · have hk' : (x.kind == 8) = false := by simpa using hk
    have hk'' : (x.kind != 8) = true := by simpa using hk
    have Hc := Lib.hid (show (conj x).foldl step s = step s x by rw [conj_eq, if_neg hk]; rfl)
    clear hk
    go_enter Tryz.func85, Tryz.ntmps85
    go_wp2_with fail
    refine HV.out.mono ?_
    rintro e w1 ⟨⟨v, rfl⟩, hI1, hb1⟩
    have H1 := Lib.hid (And.intro hI1 hb1)
    clear hI1 hb1
    go_wp2
    refine bodyPost_ret (results_none rfl _ _ _) rfl ?_
    exact ⟨⟨_, rfl⟩, by rw [Hc.out]; exact H1.out.1, H1.out.2⟩
end Go.Proofs.YtlhonhacehgooaaGreat

/-
  Contracts: RangeOf's closure and RangeOf.
-/
namespace Go.Proofs.YtlhonhacehgooaaGreat
open Go.RowKit Go.Qo Go.Shelf
set_option linter.unusedVariables false
set_option linter.unusedSimpArgs false

theorem exIn_more {w : World} {B B' : Nat} {f : FE} {x : Ex} (h : ExIn w B f x) (hB : B ≤ B') : ExIn w B' f x := h.imp fun n k => ExAt.map (fun A fs h => h.more hB) n f x k
theorem entersRg1 : ∀ args w, (callFunc 86 args).run Tryz.prog w = .ok (.enter 86 args) w := enters_of Tryz.func86 (by kernel_rfl) rfl
/-- The state of the walk over the parts: what the three captured blocks hold. -/
def RgI (col : Int) (pc pr pf : Nat) (s : (Int × Int) × Bool) (z : World) : Prop := Row z pc 3 [.int .i64 col] ∧ Row z pr 66 [.int .i64 s.1.1, .int .i64 s.1.2] ∧ Row z pf 4 [.bool s.2]
set_option maxRecDepth 20000 in
set_option maxHeartbeats 2000000 in
theorem visitsRg1 (col W : Int) (B pc pr pf : Nat) (hr : B ≤ pr) (hf : B ≤ pf) (n1 : pc ≠ pr) (n2 : pc ≠ pf) (n3 : pr ≠ pf) :
    VisitsE 86 #[.pointer (some ⟨pc, 0, none⟩), .pointer (some ⟨pr, 0, none⟩), .pointer (some ⟨pf, 0, none⟩)] B W (RgI col pc pr pf) (rngS col) := by
  intro s x d f b o z h hok hb hB hat hI
  obtain ⟨⟨lo, hi⟩, fd⟩ := s
  have HR := Lib.hid (restriction_ok x f b o col W d z (by omega) hat (exIn_more h hB) hok)
  have HI := Lib.hid hI
  have c0 := hI.1.cell 0
  show Calls Tryz.prog 86 #[.pointer (some ⟨b, o, none⟩), .pointer (some ⟨pc, 0, none⟩), .pointer (some ⟨pr, 0, none⟩), .pointer (some ⟨pf, 0, none⟩)] z _
  clear hI h hat hok
  go_enter Tryz.func86, Tryz.ntmps86
  go_wp2_with fail
  refine HR.out.mono ?_
  rintro e w1 ⟨q, a, e1, rfl, hq, hb1⟩
  obtain ⟨V1, hV1⟩ : ∃ y, w1.alloc (.cells #[.int .i64 a, .int .i64 e1] 66) = y := ⟨_, rfl⟩
  have bV : Below z.heap.size z V1 := by rw [← hV1]; exact bch hb1 (balloc (Below.refl _ _) _)
  have rV : Row V1 w1.heap.size 66 [.int .i64 a, .int .i64 e1] := by rw [← hV1]; exact Row.new _ _ _
  have i1 := HI.out.1.on bV
  have i2 := HI.out.2.1.on bV
  have i3 := HI.out.2.2.on bV
  have HV1 := Lib.hid hV1
  have HH := Lib.hid (And.intro bV (And.intro i1 (And.intro i2 i3)))
  have HQ := Lib.hid hq
  clear hV1 bV hq hb1 c0
  cases q
  · have hs : rngS col ((lo, hi), fd) x = ((lo, hi), fd) := by
      have := HQ.out
      unfold rngS; rw [this]; rfl
    have HS := Lib.hid hs
    clear hs rV i1 i2 i3
    go_upto_region 1 with fail
    rw [HV1.out]
    go_wp2
    go_end0
    exact ⟨⟨_, rfl⟩, by rw [HS.out]; exact HH.out.2, HH.out.1.mono hB⟩
  · obtain ⟨⟨m1, m2⟩, hm⟩ : ∃ m, meetR (lo, hi) (a, e1) = m := ⟨_, rfl⟩
    have hs : rngS col ((lo, hi), fd) x = ((m1, m2), true) := by
      have := HQ.out
      unfold rngS; rw [this]; show (meetR (lo, hi) (a, e1), true) = _; rw [hm]
    have HS := Lib.hid hs
    have HM := Lib.hid (intersected_ok (lo, hi) (a, e1) V1 (m1, m2) hm)
    have d0 : V1.cell? ⟨w1.heap.size, 0, none⟩ = some (.int .i64 a) := rV.cell 0
    have d1 : V1.cell? ⟨w1.heap.size, 1, none⟩ = some (.int .i64 e1) := rV.cell 1
    have d2 : V1.cell? ⟨pr, 0, none⟩ = some (.int .i64 lo) := i2.cell 0
    have d3 : V1.cell? ⟨pr, 1, none⟩ = some (.int .i64 hi) := i2.cell 1
    clear hs hm rV i1 i2 i3
    go_upto_region 1 with fail
    rw [HV1.out]
    go_wp2_with fail
    refine HM.out.mono ?_
    rintro e w2 ⟨rfl, hb2⟩
    have j1 := HH.out.2.1.on hb2
    have j2 := HH.out.2.2.1.on hb2
    have j3 := HH.out.2.2.2.on hb2
    have HB2 := Lib.hid (bch HH.out.1 hb2)
    have HJ := Lib.hid (And.intro j1 (And.intro j2 j3))
    have l2 := j2.lt
    have l3 := j3.lt
    have f20 := j2.frozen 0
    have f21 := j2.frozen 1
    have f30 := j3.frozen 0
    have e20 : w2.cell? ⟨pr, 0, none⟩ = some (.int .i64 lo) := j2.cell 0
    have e21 : w2.cell? ⟨pr, 1, none⟩ = some (.int .i64 hi) := j2.cell 1
    have e30 : w2.cell? ⟨pf, 0, none⟩ = some (.bool fd) := j3.cell 0
    clear j1 j2 j3 hb2 d0 d1 d2 d3
    go_wp2
    go_end0
    obtain ⟨j1, j2, j3⟩ := HJ.out
    refine ⟨⟨_, rfl⟩, ?_, ?_⟩
    · rw [HS.out]
      have k2 := (j2.set 0 (.int .i64 m1)).set 1 (.int .i64 m2)
      exact ⟨((j1.far n1 _).far n1 _).far n2 _, k2.far n3 _, ((j3.far (Ne.symm n3) _).far (Ne.symm n3) _).set 0 _⟩
    · exact (((HB2.out.mono hB).setCell hr _).setCell hr _).setCell hf _

theorem resRangeOf {b : Nat} {v0 v1 : Value} {q : Bool} (tmps : Array Value) (hp : tmps.getD 6 undef = .pointer (some ⟨b, 0, none⟩)) (hq : tmps.getD 7 undef = .bool q) (w : World) (c0 : w.cell? ⟨b, 0, none⟩ = some v0) (c1 : w.cell? ⟨b, 1, none⟩ = some v1) :
    (results Tryz.f32 tmps).run Tryz.prog w = .ok (.tuple #[.agg #[v0, v1], .bool q]) w := by
  simp only [Array.getD_eq_getD_getElem?] at hp hq
  simp [results, Tryz.results32, go_sem, hp, hq, c0, c1]
/-- What the law needs to know of a range. -/
def RgRes (x : Ex) (width col : Int) (w : World) (e : Ending) (w' : World) : Prop := ∃ (q : Bool) (lo hi : Int), e = .returned (.tuple #[.agg #[.int .i64 lo, .int .i64 hi], .bool q]) ∧ (q = true → ((1 ≤ width ∧ width ≤ 6) ∧ ExOk width 8 x) ∧ (0 ≤ col ∧ col < width) ∧ rngO col x = ((lo, hi), true)) ∧ Below w.heap.size w w'
set_option maxRecDepth 20000 in
set_option maxHeartbeats 4000000 in
theorem rangeOf_ok (x : Ex) (f : FE) (width col : Int) (w : World) (h : ExIn w w.heap.size f x) : Calls Tryz.prog 32 #[feV f, .int .i64 width, .int .i64 col] w (RgRes x width col w) := by
  obtain ⟨r, hr⟩ : ∃ t : Bool, t = true ↔ ((1 ≤ width ∧ width ≤ 6) ∧ ExOk width 8 x) := ⟨_, @decide_eq_true_iff _ (Classical.propDecidable _)⟩
  obtain ⟨W0, hW0⟩ : ∃ z, ((w.alloc (.cells #[.int .i64 f.kind, .int .i64 f.col, .bool f.val.1, .int .i64 f.val.2, .slice f.sv.A f.sv.n f.sv.c] 57)).alloc (.cells #[.int .i64 col] 3)).alloc (.cells #[.int .i64 0, .int .i64 0] 66) = z := ⟨_, rfl⟩
  have B0 : Below w.heap.size w W0 := by rw [← hW0]; exact balloc (balloc (balloc (Below.refl _ _) _) _) _
  have r0 : Row W0 w.heap.size 57 (feC f) := by rw [← hW0]; exact ((Row.new _ _ _).alloc _).alloc _
  have r1 : Row W0 (w.heap.size + 1) 3 [.int .i64 col] := by rw [← hW0]; exact (Row.second _ _ _ _).alloc _
  have r2 : Row W0 (w.heap.size + 2) 66 [.int .i64 0, .int .i64 0] := by rw [← hW0]; exact Row.third _ _ _ _ _
  have hx0 := h.on B0
  have HE := Lib.hid (implValidExpr_ok x f width W0 r hx0 hr)
  have HX := Lib.hid (exIn_more (exIn_below h B0) (show w.heap.size ≤ w.heap.size + 3 by omega))
  have HR := Lib.hid (And.intro r0 (And.intro r1 r2))
  have HW0 := Lib.hid hW0
  have HB0 := Lib.hid B0
  have HQ := Lib.hid hr
  have c0 : W0.cell? ⟨w.heap.size, 0, none⟩ = some (.int .i64 f.kind) := r0.cell 0
  have c1 : W0.cell? ⟨w.heap.size, 1, none⟩ = some (.int .i64 f.col) := r0.cell 1
  have c2 : W0.cell? ⟨w.heap.size, 2, none⟩ = some (.bool f.val.1) := r0.cell 2
  have c3 : W0.cell? ⟨w.heap.size, 3, none⟩ = some (.int .i64 f.val.2) := r0.cell 3
  have c4 : W0.cell? ⟨w.heap.size, 4, none⟩ = some (.slice f.sv.A f.sv.n f.sv.c) := r0.cell 4
  unfold feV
  unfold feV at HE
  clear h r0 r1 r2 B0 hW0 hr hx0
  go_enter Tryz.func32, Tryz.ntmps32
  go_upto_region 1 with fail
  rw [HW0.out]
  go_wp2_with fail
  refine HE.out.mono ?_
  rintro e w1 ⟨rfl, hb1⟩
  have H1 := Lib.hid hb1
  have k0 := HR.out.1.on hb1
  have k1 := HR.out.2.1.on hb1
  have k2 := HR.out.2.2.on hb1
  have q0 := k2.lt
  have q1 := k2.frozen 0
  have q2 := k2.frozen 1
  have q3 : w1.cell? ⟨w.heap.size + 2, 0, none⟩ = some (.int .i64 0) := k2.cell 0
  have q4 : w1.cell? ⟨w.heap.size + 2, 1, none⟩ = some (.int .i64 0) := k2.cell 1
  have p0 : w1.cell? ⟨w.heap.size + 1, 0, none⟩ = some (.int .i64 col) := k1.cell 0
  have HK := Lib.hid (And.intro k0 (And.intro k1 k2))
  have hs1 := hb1.size
  clear c0 c1 c2 c3 c4 k0 k1 k2 hb1 hs1
  have FIN : ∀ z, Below w1.heap.size w1 z → z.heap.size ≤ z.heap.size := fun z _ => Nat.le_refl _
  clear FIN
  cases r
  · go_wp2
    exact bodyPost_ret (resRangeOf (b := w.heap.size + 2) (q := false) _ rfl rfl _ (v0 := .int .i64 0) (v1 := .int .i64 0) (by simp [go_sem, q0, q1, q2, q3, q4]) (by simp [go_sem, q0, q1, q2, q3, q4])) rfl ⟨false, 0, 0, rfl, (fun h => by cases h), below_put (bch HB0.out H1.out) (by omega) _ _⟩
  by_cases hc0 : col < 0
  · go_wp2
    exact bodyPost_ret (resRangeOf (b := w.heap.size + 2) (q := false) _ rfl rfl _ (v0 := .int .i64 0) (v1 := .int .i64 0) (by simp [go_sem, q0, q1, q2, q3, q4]) (by simp [go_sem, q0, q1, q2, q3, q4])) rfl ⟨false, 0, 0, rfl, (fun h => by cases h), below_put (bch HB0.out H1.out) (by omega) _ _⟩
  by_cases hc1 : width ≤ col
  · go_wp2
    exact bodyPost_ret (resRangeOf (b := w.heap.size + 2) (q := false) _ rfl rfl _ (v0 := .int .i64 0) (v1 := .int .i64 0) (by simp [go_sem, q0, q1, q2, q3, q4]) (by simp [go_sem, q0, q1, q2, q3, q4])) rfl ⟨false, 0, 0, rfl, (fun h => by cases h), below_put (bch HB0.out H1.out) (by omega) _ _⟩
  obtain ⟨W2, hW2⟩ : ∃ z, (w1.alloc (.cells #[.int .i64 (-9999), .int .i64 9999] 66)).alloc (.cells #[.bool false] 4) = z := ⟨_, rfl⟩
  have b2 : Below w1.heap.size w1 W2 := by rw [← hW2]; exact balloc (balloc (Below.refl _ _) _) _
  have t0 : Row W2 w1.heap.size 66 [.int .i64 (-9999), .int .i64 9999] := by rw [← hW2]; exact Row.first _ _ _ _
  have t1 : Row W2 (w1.heap.size + 1) 4 [.bool false] := by rw [← hW2]; exact Row.second _ _ _ _
  have b02 : Below W0.heap.size W0 W2 := bch H1.out b2
  have s1 := H1.out.size
  have s0 := HR.out.2.2.lt
  have kE := HR.out.1.on b02
  have hev := eachConjunct_ok x 86 #[.pointer (some ⟨w.heap.size + 1, 0, none⟩), .pointer (some ⟨w1.heap.size, 0, none⟩), .pointer (some ⟨w1.heap.size + 1, 0, none⟩)] (w.heap.size + 3) width (RgI col (w.heap.size + 1) w1.heap.size (w1.heap.size + 1)) (rngS col) entersRg1
    (visitsRg1 col width (w.heap.size + 3) (w.heap.size + 1) w1.heap.size (w1.heap.size + 1) (by omega) (by omega) (by omega) (by omega) (by omega)) ((-9999, 9999), false) 8 f w.heap.size 0 W2 (exIn_below HX.out (b02.mono (by omega))) (HQ.out.1 rfl).2 (by omega) (by have := b02.size; omega)
    ⟨kE.cell 0, kE.cell 1, kE.cell 2, kE.cell 3, kE.cell 4⟩ ⟨HR.out.2.1.on b02, t0, t1⟩
  have HEV := Lib.hid hev
  have HW2 := Lib.hid hW2
  have H2 := Lib.hid (And.intro b02 (And.intro s0 s1))
  have k2' := HR.out.2.2.on b02
  have HK2 := Lib.hid k2'
  clear b2 t0 t1 b02 s1 s0 kE hev hW2 k2'
  go_upto_region 5 with fail
  rw [HW2.out]
  go_wp2_with fail
  refine HEV.out.mono ?_
  rintro e w3 ⟨⟨v, rfl⟩, ⟨i1, i2, i3⟩, hb3⟩
  obtain ⟨⟨⟨lo, hi⟩, fd⟩, hst⟩ : ∃ s, (conj x).foldl (rngS col) ((-9999, 9999), false) = s := ⟨_, rfl⟩
  rw [hst] at i2 i3
  have HST := Lib.hid (show rngO col x = ((lo, hi), fd) from hst)
  have e0 : w3.cell? ⟨w1.heap.size + 1, 0, none⟩ = some (.bool fd) := i3.cell 0
  have e1 : w3.cell? ⟨w1.heap.size, 0, none⟩ = some (.int .i64 lo) := i2.cell 0
  have e2 : w3.cell? ⟨w1.heap.size, 1, none⟩ = some (.int .i64 hi) := i2.cell 1
  have kk := HK2.out.below hb3 (by omega)
  have q0 := kk.lt
  have q1 := kk.frozen 0
  have q2 := kk.frozen 1
  have q3 : w3.cell? ⟨w.heap.size + 2, 0, none⟩ = some (.int .i64 0) := kk.cell 0
  have q4 : w3.cell? ⟨w.heap.size + 2, 1, none⟩ = some (.int .i64 0) := kk.cell 1
  have HBF := Lib.hid (show Below w.heap.size w w3 from (bch HB0.out H2.out.1).trans (hb3.mono (by omega)))
  have HCC := Lib.hid (show 0 ≤ col ∧ col < width from ⟨by omega, by omega⟩)
  clear i1 i2 i3 hst hb3 kk p0
  cases fd
  · go_wp2
    exact bodyPost_ret (resRangeOf (b := w.heap.size + 2) (q := false) _ rfl rfl _ (v0 := .int .i64 0) (v1 := .int .i64 0) (by simp [go_sem, q0, q1, q2, q3, q4]) (by simp [go_sem, q0, q1, q2, q3, q4])) rfl ⟨false, 0, 0, rfl, (fun h => by cases h), below_put HBF.out (by omega) _ _⟩
  · go_wp2
    exact bodyPost_ret (resRangeOf (b := w.heap.size + 2) (q := true) _ rfl rfl _ (v0 := .int .i64 lo) (v1 := .int .i64 hi) (by simp [go_sem, q0, q1, q2, q3, q4]) (by simp [go_sem, q0, q1, q2, q3, q4])) rfl ⟨true, lo, hi, rfl, (fun _ => ⟨by simpa using HQ.out, HCC.out, HST.out⟩), below_put HBF.out (by omega) _ _⟩
end Go.Proofs.YtlhonhacehgooaaGreat
