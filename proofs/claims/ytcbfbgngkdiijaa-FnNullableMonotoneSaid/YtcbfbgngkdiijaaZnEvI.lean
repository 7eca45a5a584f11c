/-
  Contracts: the values of expressions for a row, as the program computes them. (Printed by wip/evi.py.)
-/
import Derived.Test.YtcbfbgngkdiijaaProg
import Derived.Test.YtcbfbgngkdiijaaZnGa
import Derived.Test.YtcbfbgngkdiijaaZnGb
import Derived.Test.YtcbfbgngkdiijaaZnGd
import Derived.Test.YtcbfbgngkdiijaaZnRgG
namespace Go.Proofs.Ytcbfbgngkdiijaa
open Go.RowKit Go.Qo
set_option linter.unusedVariables false
set_option linter.unusedSimpArgs false

theorem truthOf_ok (v : Val) (w : World) : Calls Try.prog 79 #[.agg #[.bool v.1, .int .i64 v.2]] w fun e w' => e = .returned (.int .i64 (trI v)) ∧ Below w.heap.size w w' := by
  obtain ⟨n, v⟩ := v
  cases n
  · by_cases h : v = 0
    · subst h
      go_enter Try.func79, Try.ntmps79
      go_wp2
      go_ret
      exact ⟨rfl, balloc (Below.refl _ _) _⟩
    · have hb : (v == 0) = false := by simpa using h
      have Hz := Lib.hid (show trI (false, v) = 2 by simp [trI, h])
      clear h
      go_enter Try.func79, Try.ntmps79
      go_wp2
      go_ret
      exact ⟨ret_int Hz.out.symm, balloc (Below.refl _ _) _⟩
  · go_enter Try.func79, Try.ntmps79
    go_wp2
    go_ret
    exact ⟨rfl, balloc (Below.refl _ _) _⟩
/-- What a result box of a value holds, for a walk. -/
theorem vbox {w1 : World} {b : Nat} {x y : Value} (h : Row w1 b 64 [x, y]) : b < w1.heap.size ∧ w1.frozen? ⟨b, 0, none⟩ = false ∧ w1.frozen? ⟨b, 1, none⟩ = false ∧ w1.cell? ⟨b, 0, none⟩ = some x ∧ w1.cell? ⟨b, 1, none⟩ = some y := ⟨h.lt, h.frozen 0, h.frozen 1, h.cell 0, h.cell 1⟩
theorem flag_ok (t : Bool) (w : World) : Calls Try.prog 82 #[.bool t] w fun e w' => e = .returned (.agg #[.bool (flagV t).1, .int .i64 (flagV t).2]) ∧ Below w.heap.size w w' := by
  obtain ⟨n, hn⟩ : ∃ n, (flagV t).2 = n := ⟨_, rfl⟩
  have hf : (flagV t).1 = false := rfl
  have hn2 : n = if t then 1 else 0 := by rw [← hn]; rfl
  rw [hn, hf]
  have HN := Lib.hid (fun m z => implNumber_ok m z)
  have HR0 := Lib.hid (Row.new w 64 #[.bool false, .int .i64 0])
  have B0 := Lib.hid (balloc (Below.refl w.heap.size w) (.cells #[.bool false, .int .i64 0] 64))
  clear hn hf
  cases t
  · simp only [if_true, if_false, Bool.false_eq_true] at hn2
    subst hn2
    go_enter Try.func82, Try.ntmps82
    go_wp2_with fail
    refine (HN.out _ _).mono ?_
    rintro e w1 ⟨rfl, hb1⟩
    obtain ⟨q0, q1, q2, q3, q4⟩ := vbox (HR0.out.on hb1)
    have H1 := Lib.hid (bch B0.out hb1)
    clear hb1
    go_wp2
    exact bodyPost_ret (v := .agg #[.bool false, .int .i64 0]) (by simp [results, Try.results82, go_sem, q0, q1, q2, q3, q4]) rfl ⟨rfl, below_put H1.out (Nat.le_refl _) _ _⟩
  · simp only [if_true, if_false, Bool.false_eq_true] at hn2
    subst hn2
    go_enter Try.func82, Try.ntmps82
    go_wp2_with fail
    refine (HN.out _ _).mono ?_
    rintro e w1 ⟨rfl, hb1⟩
    obtain ⟨q0, q1, q2, q3, q4⟩ := vbox (HR0.out.on hb1)
    have H1 := Lib.hid (bch B0.out hb1)
    clear hb1
    go_wp2
    exact bodyPost_ret (v := .agg #[.bool false, .int .i64 1]) (by simp [results, Try.results82, go_sem, q0, q1, q2, q3, q4]) rfl ⟨rfl, below_put H1.out (Nat.le_refl _) _ _⟩
theorem truthValue_ok (t : Int) (ht : 0 ≤ t ∧ t ≤ 2) (w : World) : Calls Try.prog 80 #[.int .i64 t] w fun e w' => e = .returned (.agg #[.bool (ofTr t).1, .int .i64 (ofTr t).2]) ∧ Below w.heap.size w w' := by
  have HN := Lib.hid (fun z => implNull_ok z)
  have HF := Lib.hid (fun m z => flag_ok m z)
  have HR0 := Lib.hid (Row.new w 64 #[.bool false, .int .i64 0])
  have B0 := Lib.hid (balloc (Below.refl w.heap.size w) (.cells #[.bool false, .int .i64 0] 64))
  have : t = 0 ∨ t = 1 ∨ t = 2 := by omega
  clear ht
  rcases this with rfl | rfl | rfl
  · go_enter Try.func80, Try.ntmps80
    go_wp2_with fail
    refine (HF.out _ _).mono ?_
    rintro e w1 ⟨rfl, hb1⟩
    obtain ⟨q0, q1, q2, q3, q4⟩ := vbox (HR0.out.on hb1)
    have H1 := Lib.hid (bch B0.out hb1)
    clear hb1
    go_wp2
    exact bodyPost_ret (v := .agg #[.bool false, .int .i64 0]) (by simp [results, Try.results80, go_sem, q0, q1, q2, q3, q4, flagV]) rfl ⟨rfl, below_put H1.out (Nat.le_refl _) _ _⟩
  · go_enter Try.func80, Try.ntmps80
    go_wp2_with fail
    refine (HN.out _).mono ?_
    rintro e w1 ⟨rfl, hb1⟩
    obtain ⟨q0, q1, q2, q3, q4⟩ := vbox (HR0.out.on hb1)
    have H1 := Lib.hid (bch B0.out hb1)
    clear hb1
    go_wp2
    exact bodyPost_ret (v := .agg #[.bool true, .int .i64 0]) (by simp [results, Try.results80, go_sem, q0, q1, q2, q3, q4]) rfl ⟨rfl, below_put H1.out (Nat.le_refl _) _ _⟩
  · go_enter Try.func80, Try.ntmps80
    go_wp2_with fail
    refine (HF.out _ _).mono ?_
    rintro e w1 ⟨rfl, hb1⟩
    obtain ⟨q0, q1, q2, q3, q4⟩ := vbox (HR0.out.on hb1)
    have H1 := Lib.hid (bch B0.out hb1)
    clear hb1
    go_wp2
    exact bodyPost_ret (v := .agg #[.bool false, .int .i64 1]) (by simp [results, Try.results80, go_sem, q0, q1, q2, q3, q4, flagV]) rfl ⟨rfl, below_put H1.out (Nat.le_refl _) _ _⟩

theorem mul_bd {a b : Int} (ha : -9999 ≤ a ∧ a ≤ 9999) (hb : -9999 ≤ b ∧ b ≤ 9999) : -100000000 ≤ a * b ∧ a * b ≤ 100000000 := by
  have h := Int.natAbs_mul a b
  have h1 : a.natAbs ≤ 9999 := by omega
  have h2 : b.natAbs ≤ 9999 := by omega
  have h3 := Nat.mul_le_mul h1 h2
  rw [← h] at h3
  omega
set_option maxRecDepth 20000 in
set_option maxHeartbeats 4000000 in
theorem combined_ok (k : Int) (a b : Val) (w : World) (hk : 3 ≤ k ∧ k ≤ 9) (ha : vValid a = true) (hb : vValid b = true) :
    Calls Try.prog 68 #[.int .i64 k, .agg #[.bool a.1, .int .i64 a.2], .agg #[.bool b.1, .int .i64 b.2]] w fun e w' => e = .returned (.agg #[.bool (combV k a b).1, .int .i64 (combV k a b).2]) ∧ Below w.heap.size w w' := by
  obtain ⟨⟨rn, rm⟩, hr⟩ : ∃ v, combV k a b = v := ⟨_, rfl⟩
  rw [hr]
  have hra := vValid_range ha
  have hrb := vValid_range hb
  have hta := trI_range a
  have htb := trI_range b
  have TA := fun z => truthOf_ok a z
  have TB := fun z => truthOf_ok b z
  have HC : combV k a b = if k = 8 then ofTr (min (trI a) (trI b)) else if k = 9 then ofTr (max (trI a) (trI b)) else if a.1 || b.1 then (true, 0) else if k = 3 then numV (a.2 + b.2) else if k = 4 then numV (a.2 - b.2) else if k = 5 then numV (a.2 * b.2) else if k = 6 then flagV (decide (a.2 = b.2)) else flagV (decide (a.2 < b.2)) := rfl
  rw [hr] at HC
  obtain ⟨ta, hTa⟩ : ∃ t, trI a = t := ⟨_, rfl⟩
  obtain ⟨tb, hTb⟩ : ∃ t, trI b = t := ⟨_, rfl⟩
  rw [hTa] at hta TA HC
  rw [hTb] at htb TB HC
  clear hr ha hb hTa hTb
  obtain ⟨an, av⟩ := a
  obtain ⟨bn, bv⟩ := b
  dsimp only at *
  have HTA := Lib.hid TA
  have HTB := Lib.hid TB
  obtain ⟨W0, hW0⟩ : ∃ z, ((w.alloc (.cells #[.bool an, .int .i64 av] 64)).alloc (.cells #[.bool bn, .int .i64 bv] 64)).alloc (.cells #[.bool false, .int .i64 0] 64) = z := ⟨_, rfl⟩
  have B0 : Below w.heap.size w W0 := by rw [← hW0]; exact balloc (balloc (balloc (Below.refl _ _) _) _) _
  have r0 : Row W0 w.heap.size 64 [.bool an, .int .i64 av] := by rw [← hW0]; exact ((Row.new _ _ _).alloc _).alloc _
  have r1 : Row W0 (w.heap.size + 1) 64 [.bool bn, .int .i64 bv] := by rw [← hW0]; exact (Row.second _ _ _ _).alloc _
  have r2 : Row W0 (w.heap.size + 2) 64 [.bool false, .int .i64 0] := by rw [← hW0]; exact Row.third _ _ _ _ _
  have BX := Lib.hid (fun (z : World) (hz : Below W0.heap.size W0 z) => show (z.cell? ⟨w.heap.size, 0, none⟩ = some (.bool an) ∧ z.cell? ⟨w.heap.size, 1, none⟩ = some (.int .i64 av) ∧ z.cell? ⟨w.heap.size + 1, 0, none⟩ = some (.bool bn) ∧ z.cell? ⟨w.heap.size + 1, 1, none⟩ = some (.int .i64 bv)) ∧ Row z (w.heap.size + 2) 64 [.bool false, .int .i64 0] from ⟨⟨(r0.on hz).cell 0, (r0.on hz).cell 1, (r1.on hz).cell 0, (r1.on hz).cell 1⟩, r2.on hz⟩)
  have HW0 := Lib.hid hW0
  have HB0 := Lib.hid B0
  have HCH := Lib.hid HC
  obtain ⟨a0, a1, b0, b1⟩ := (BX.out _ (Below.refl _ _)).1
  clear TA TB r0 r1 r2 B0 hW0 HC
  have Hk := Lib.hid hk
  have hcase : k = 8 ∨ k = 9 ∨ (¬ k = 8 ∧ ¬ k = 9) := by omega
  clear hk
  rcases hcase with rfl | rfl | ⟨hk8, hk9⟩
  · have HTV := Lib.hid (fun z => show Calls Try.prog 80 #[.int .i64 (if tb < ta then tb else ta)] z fun e w' => e = .returned (.agg #[.bool rn, .int .i64 rm]) ∧ Below z.heap.size z w' from by
      have e : (if tb < ta then tb else ta) = min ta tb := by split <;> omega
      have := truthValue_ok (min ta tb) (by omega) z
      have h := HCH.out
      rw [if_pos rfl] at h
      rw [← h] at this
      rw [e]
      exact this)
    go_enter Try.func68, Try.ntmps68
    go_upto_region 2 with fail
    rw [HW0.out]
    obtain ⟨u0, hu0⟩ : ∃ z, W0.drew = z := ⟨_, rfl⟩
    have Bu0 := Lib.hid (show Below W0.heap.size W0 u0 from hu0 ▸ (Below.refl _ _).drew)
    have Hu0 := Lib.hid hu0
    clear hu0
    refine wp_region_g 6 (fun z => z.cell? ⟨w.heap.size, 0, none⟩ = some (.bool an) ∧ z.cell? ⟨w.heap.size, 1, none⟩ = some (.int .i64 av) ∧ z.cell? ⟨w.heap.size + 1, 0, none⟩ = some (.bool bn) ∧ z.cell? ⟨w.heap.size + 1, 1, none⟩ = some (.int .i64 bv)) (by kernel_rfl) ?_ (fun hHeld => ?_)
    · exact (BX.out _ (Below.refl _ _).drew).1
    rw [Hu0.out] at hHeld ⊢
    refine takeG (i := 0) (v := ?v1) rfl (by kernel_rfl) (by kernel_rfl) (by kernel_rfl) (by kernel_rfl) (fun _ _ _ h => h) (Or.inl ⟨by rfl, ?hy1⟩) (by assumption) ?_
    case hy1 => ((intro w' hSw; (try dsimp only at hSw); go_simp) <;> with_reducible rfl)
    try simp only [Act.put, List.setIfInBounds_toArray, List.set_cons_zero, List.set_cons_succ]
    refine takeG (i := 2) (v := ?v2) rfl (by kernel_rfl) (by kernel_rfl) (by kernel_rfl) (by kernel_rfl) (fun _ _ _ h => h) (Or.inl ⟨by rfl, ?hy2⟩) (by assumption) ?_
    case hy2 => ((intro w' hSw; (try dsimp only at hSw); go_simp) <;> with_reducible rfl)
    try simp only [Act.put, List.setIfInBounds_toArray, List.set_cons_zero, List.set_cons_succ]
    refine wpAnyG_ready (rs := [1]) (by kernel_rfl) (by simp) ?_
    refine readyG rfl (fun K hK => ?_) AllReadyG.nil
    go_simp
    go_at_call 79
    refine (HTA.out u0).mono ?_
    rintro e y1 ⟨rfl, hb⟩
    have By1 := Lib.hid (bch Bu0.out hb)
    clear hb
    refine hK.out _ _ ?hS3 (fun hHeld => ?_)
    case hS3 => exact fun _ => (BX.out _ By1.out).1
    replace hHeld := hHeld (by decide)
    clear hK K
    try simp only [Act.put, List.setIfInBounds_toArray, List.set_cons_zero, List.set_cons_succ]
    refine wpAnyG_ready (rs := [3]) (by kernel_rfl) (by simp) ?_
    refine readyG rfl (fun K hK => ?_) AllReadyG.nil
    go_simp
    go_at_call 79
    refine (HTB.out y1).mono ?_
    rintro e y2 ⟨rfl, hb⟩
    have By2 := Lib.hid (bch By1.out hb)
    clear hb
    refine hK.out _ _ ?hS4 (fun hHeld => ?_)
    case hS4 => exact fun _ => (BX.out _ By2.out).1
    replace hHeld := hHeld (by decide)
    clear hK K
    try simp only [Act.put, List.setIfInBounds_toArray, List.set_cons_zero, List.set_cons_succ]
    refine wpAnyG_ready (rs := [4]) (by kernel_rfl) (by simp) ?_
    refine readyG rfl (fun K hK => ?_) AllReadyG.nil
    go_simp
    refine hK.out _ _ ?hS5 (fun hHeld => ?_)
    case hS5 => exact fun _ => (BX.out _ By2.out).1
    replace hHeld := hHeld (by decide)
    clear hK K
    try simp only [Act.put, List.setIfInBounds_toArray, List.set_cons_zero, List.set_cons_succ]
    refine wpAnyG_ready (rs := [5]) (by kernel_rfl) (by simp) ?_
    refine readyG rfl (fun K hK => ?_) AllReadyG.nil
    go_simp
    go_at_call 80
    refine (HTV.out y2).mono ?_
    rintro e y3 ⟨rfl, hb⟩
    have By3 := Lib.hid (bch By2.out hb)
    clear hb
    refine hK.out _ _ ?hS6 (fun hHeld => ?_)
    case hS6 => exact fun _ => (BX.out _ By3.out).1
    replace hHeld := hHeld (by decide)
    clear hK K
    try simp only [Act.put, List.setIfInBounds_toArray, List.set_cons_zero, List.set_cons_succ]
    refine wpAnyG_ready (rs := [6]) (by kernel_rfl) (by simp) ?_
    refine readyG rfl (fun K hK => ?_) AllReadyG.nil
    obtain ⟨q0, q1, q2, q3, q4⟩ := vbox ((BX.out _ By3.out).2)
    go_simp
    refine hK.out _ _ ?hS7 (fun hHeld => ?_)
    case hS7 => exact fun h => absurd rfl h
    clear hK K
    try simp only [Act.put, List.setIfInBounds_toArray, List.set_cons_zero, List.set_cons_succ]
    refine wpAnyG_done (by kernel_rfl) ?_ _
    go_wp2
    all_goals exact bodyPost_ret (v := .agg #[.bool rn, .int .i64 rm]) (by simp [results, Try.results68, go_sem, q0, q1, q2, q3, q4]) rfl ⟨rfl, below_put (bch HB0.out By3.out) (by omega) _ _⟩
  · have HTV := Lib.hid (fun z => show Calls Try.prog 80 #[.int .i64 (if ta < tb then tb else ta)] z fun e w' => e = .returned (.agg #[.bool rn, .int .i64 rm]) ∧ Below z.heap.size z w' from by
      have e : (if ta < tb then tb else ta) = max ta tb := by split <;> omega
      have := truthValue_ok (max ta tb) (by omega) z
      have h := HCH.out
      rw [if_neg (by decide), if_pos rfl] at h
      rw [← h] at this
      rw [e]
      exact this)
    go_enter Try.func68, Try.ntmps68
    go_upto_region 4 with fail
    rw [HW0.out]
    obtain ⟨u0, hu0⟩ : ∃ z, W0.drew = z := ⟨_, rfl⟩
    have Bu0 := Lib.hid (show Below W0.heap.size W0 u0 from hu0 ▸ (Below.refl _ _).drew)
    have Hu0 := Lib.hid hu0
    clear hu0
    refine wp_region_g 6 (fun z => z.cell? ⟨w.heap.size, 0, none⟩ = some (.bool an) ∧ z.cell? ⟨w.heap.size, 1, none⟩ = some (.int .i64 av) ∧ z.cell? ⟨w.heap.size + 1, 0, none⟩ = some (.bool bn) ∧ z.cell? ⟨w.heap.size + 1, 1, none⟩ = some (.int .i64 bv)) (by kernel_rfl) ?_ (fun hHeld => ?_)
    · exact (BX.out _ (Below.refl _ _).drew).1
    rw [Hu0.out] at hHeld ⊢
    refine takeG (i := 0) (v := ?v8) rfl (by kernel_rfl) (by kernel_rfl) (by kernel_rfl) (by kernel_rfl) (fun _ _ _ h => h) (Or.inl ⟨by rfl, ?hy8⟩) (by assumption) ?_
    case hy8 => ((intro w' hSw; (try dsimp only at hSw); go_simp) <;> with_reducible rfl)
    try simp only [Act.put, List.setIfInBounds_toArray, List.set_cons_zero, List.set_cons_succ]
    refine takeG (i := 2) (v := ?v9) rfl (by kernel_rfl) (by kernel_rfl) (by kernel_rfl) (by kernel_rfl) (fun _ _ _ h => h) (Or.inl ⟨by rfl, ?hy9⟩) (by assumption) ?_
    case hy9 => ((intro w' hSw; (try dsimp only at hSw); go_simp) <;> with_reducible rfl)
    try simp only [Act.put, List.setIfInBounds_toArray, List.set_cons_zero, List.set_cons_succ]
    refine wpAnyG_ready (rs := [1]) (by kernel_rfl) (by simp) ?_
    refine readyG rfl (fun K hK => ?_) AllReadyG.nil
    go_simp
    go_at_call 79
    refine (HTA.out u0).mono ?_
    rintro e y1 ⟨rfl, hb⟩
    have By1 := Lib.hid (bch Bu0.out hb)
    clear hb
    refine hK.out _ _ ?hS10 (fun hHeld => ?_)
    case hS10 => exact fun _ => (BX.out _ By1.out).1
    replace hHeld := hHeld (by decide)
    clear hK K
    try simp only [Act.put, List.setIfInBounds_toArray, List.set_cons_zero, List.set_cons_succ]
    refine wpAnyG_ready (rs := [3]) (by kernel_rfl) (by simp) ?_
    refine readyG rfl (fun K hK => ?_) AllReadyG.nil
    go_simp
    go_at_call 79
    refine (HTB.out y1).mono ?_
    rintro e y2 ⟨rfl, hb⟩
    have By2 := Lib.hid (bch By1.out hb)
    clear hb
    refine hK.out _ _ ?hS11 (fun hHeld => ?_)
    case hS11 => exact fun _ => (BX.out _ By2.out).1
    replace hHeld := hHeld (by decide)
    clear hK K
    try simp only [Act.put, List.setIfInBounds_toArray, List.set_cons_zero, List.set_cons_succ]
    refine wpAnyG_ready (rs := [4]) (by kernel_rfl) (by simp) ?_
    refine readyG rfl (fun K hK => ?_) AllReadyG.nil
    go_simp
    refine hK.out _ _ ?hS12 (fun hHeld => ?_)
    case hS12 => exact fun _ => (BX.out _ By2.out).1
    replace hHeld := hHeld (by decide)
    clear hK K
    try simp only [Act.put, List.setIfInBounds_toArray, List.set_cons_zero, List.set_cons_succ]
    refine wpAnyG_ready (rs := [5]) (by kernel_rfl) (by simp) ?_
    refine readyG rfl (fun K hK => ?_) AllReadyG.nil
    go_simp
    go_at_call 80
    refine (HTV.out y2).mono ?_
    rintro e y3 ⟨rfl, hb⟩
    have By3 := Lib.hid (bch By2.out hb)
    clear hb
    refine hK.out _ _ ?hS13 (fun hHeld => ?_)
    case hS13 => exact fun _ => (BX.out _ By3.out).1
    replace hHeld := hHeld (by decide)
    clear hK K
    try simp only [Act.put, List.setIfInBounds_toArray, List.set_cons_zero, List.set_cons_succ]
    refine wpAnyG_ready (rs := [6]) (by kernel_rfl) (by simp) ?_
    refine readyG rfl (fun K hK => ?_) AllReadyG.nil
    obtain ⟨q0, q1, q2, q3, q4⟩ := vbox ((BX.out _ By3.out).2)
    go_simp
    refine hK.out _ _ ?hS14 (fun hHeld => ?_)
    case hS14 => exact fun h => absurd rfl h
    clear hK K
    try simp only [Act.put, List.setIfInBounds_toArray, List.set_cons_zero, List.set_cons_succ]
    refine wpAnyG_done (by kernel_rfl) ?_ _
    go_wp2
    all_goals exact bodyPost_ret (v := .agg #[.bool rn, .int .i64 rm]) (by simp [results, Try.results68, go_sem, q0, q1, q2, q3, q4]) rfl ⟨rfl, below_put (bch HB0.out By3.out) (by omega) _ _⟩
  · have HCH2 := HCH.out
    rw [if_neg hk8, if_neg hk9] at HCH2
    have hk8' : (k == 8) = false := by simpa using hk8
    have hk9' : (k == 9) = false := by simpa using hk9
    have HNUL := Lib.hid (fun z => implNull_ok z)
    have hnul : (an || bn) = true ∨ (an = false ∧ bn = false) := by cases an <;> cases bn <;> simp
    rcases hnul with hnul | ⟨rfl, rfl⟩
    · rw [if_pos hnul] at HCH2
      injection HCH2 with hrn hrm
      subst hrn
      subst hrm
      cases an
      · have hb : bn = true := by simpa using hnul
        subst hb
        clear a0 a1 b0 b1
        obtain ⟨a0, a1, b0, b1⟩ := (BX.out _ (Below.refl _ _)).1
        go_enter Try.func68, Try.ntmps68
        go_upto_region 1 with fail
        rw [HW0.out]
        go_wp2_with fail
        refine (HNUL.out _).mono ?_
        rintro e y3 ⟨rfl, hb⟩
        have By3 := Lib.hid hb
        clear hb
        obtain ⟨q0, q1, q2, q3, q4⟩ := vbox ((BX.out _ By3.out).2)
        go_wp2
        exact bodyPost_ret (v := .agg #[.bool true, .int .i64 0]) (by simp [results, Try.results68, go_sem, q0, q1, q2, q3, q4]) rfl ⟨rfl, below_put (bch HB0.out By3.out) (by omega) _ _⟩
      · clear hnul
        clear a0 a1 b0 b1
        obtain ⟨a0, a1, b0, b1⟩ := (BX.out _ (Below.refl _ _)).1
        go_enter Try.func68, Try.ntmps68
        go_upto_region 1 with fail
        rw [HW0.out]
        go_wp2_with fail
        refine (HNUL.out _).mono ?_
        rintro e y3 ⟨rfl, hb⟩
        have By3 := Lib.hid hb
        clear hb
        obtain ⟨q0, q1, q2, q3, q4⟩ := vbox ((BX.out _ By3.out).2)
        go_wp2
        exact bodyPost_ret (v := .agg #[.bool true, .int .i64 0]) (by simp [results, Try.results68, go_sem, q0, q1, q2, q3, q4]) rfl ⟨rfl, below_put (bch HB0.out By3.out) (by omega) _ _⟩
    · simp only [Bool.or_self, Bool.false_eq_true, if_false] at HCH2
      have hkk : k = 3 ∨ k = 4 ∨ k = 5 ∨ k = 6 ∨ k = 7 := by have := Hk.out; omega
      clear hk8 hk9 hk8' hk9' HTA HTB
      rcases hkk with rfl | rfl | rfl | rfl | rfl
      · skip
        have hww : IntKind.i64.wrap (av + bv) = av + bv := IntWalk.i64_in _ (by omega)
        have HTN := Lib.hid (fun z => show Calls Try.prog 81 #[.int .i64 (av + bv)] z fun e w' => e = .returned (.agg #[.bool rn, .int .i64 rm]) ∧ Below z.heap.size z w' from by
          have := numberOrNull_ok (av + bv) z
          have h := HCH2
          simp only [show ((3 : Int) = 3) = True from by simp, show ((3 : Int) = 4) = False from by simp, show ((3 : Int) = 5) = False from by simp, show ((3 : Int) = 6) = False from by simp, if_true, if_false] at h
          rw [← h] at this
          exact this)
        clear HCH2
        go_enter Try.func68, Try.ntmps68
        go_upto_region 1 with fail
        rw [HW0.out]
        go_wp2_with fail
        refine (HTN.out _).mono ?_
        rintro e y3 ⟨rfl, hb⟩
        have By3 := Lib.hid hb
        clear hb
        obtain ⟨q0, q1, q2, q3, q4⟩ := vbox ((BX.out _ By3.out).2)
        go_wp2
        exact bodyPost_ret (v := .agg #[.bool rn, .int .i64 rm]) (by simp [results, Try.results68, go_sem, q0, q1, q2, q3, q4]) rfl ⟨rfl, below_put (bch HB0.out By3.out) (by omega) _ _⟩
      · skip
        have hww : IntKind.i64.wrap (av - bv) = av - bv := IntWalk.i64_in _ (by omega)
        have HTN := Lib.hid (fun z => show Calls Try.prog 81 #[.int .i64 (av - bv)] z fun e w' => e = .returned (.agg #[.bool rn, .int .i64 rm]) ∧ Below z.heap.size z w' from by
          have := numberOrNull_ok (av - bv) z
          have h := HCH2
          simp only [show ((4 : Int) = 3) = False from by simp, show ((4 : Int) = 4) = True from by simp, show ((4 : Int) = 5) = False from by simp, show ((4 : Int) = 6) = False from by simp, if_true, if_false] at h
          rw [← h] at this
          exact this)
        clear HCH2
        go_enter Try.func68, Try.ntmps68
        go_upto_region 1 with fail
        rw [HW0.out]
        go_wp2_with fail
        refine (HTN.out _).mono ?_
        rintro e y3 ⟨rfl, hb⟩
        have By3 := Lib.hid hb
        clear hb
        obtain ⟨q0, q1, q2, q3, q4⟩ := vbox ((BX.out _ By3.out).2)
        go_wp2
        exact bodyPost_ret (v := .agg #[.bool rn, .int .i64 rm]) (by simp [results, Try.results68, go_sem, q0, q1, q2, q3, q4]) rfl ⟨rfl, below_put (bch HB0.out By3.out) (by omega) _ _⟩
      · skip
        have hpr := mul_bd hra hrb
        have hww : IntKind.i64.wrap (av * bv) = av * bv := IntWalk.i64_in _ (by omega)
        have HTN := Lib.hid (fun z => show Calls Try.prog 81 #[.int .i64 (av * bv)] z fun e w' => e = .returned (.agg #[.bool rn, .int .i64 rm]) ∧ Below z.heap.size z w' from by
          have := numberOrNull_ok (av * bv) z
          have h := HCH2
          simp only [show ((5 : Int) = 3) = False from by simp, show ((5 : Int) = 4) = False from by simp, show ((5 : Int) = 5) = True from by simp, show ((5 : Int) = 6) = False from by simp, if_true, if_false] at h
          rw [← h] at this
          exact this)
        clear HCH2
        go_enter Try.func68, Try.ntmps68
        go_upto_region 1 with fail
        rw [HW0.out]
        go_wp2_with fail
        refine (HTN.out _).mono ?_
        rintro e y3 ⟨rfl, hb⟩
        have By3 := Lib.hid hb
        clear hb
        obtain ⟨q0, q1, q2, q3, q4⟩ := vbox ((BX.out _ By3.out).2)
        go_wp2
        exact bodyPost_ret (v := .agg #[.bool rn, .int .i64 rm]) (by simp [results, Try.results68, go_sem, q0, q1, q2, q3, q4]) rfl ⟨rfl, below_put (bch HB0.out By3.out) (by omega) _ _⟩
      · skip
        obtain ⟨t, ht⟩ : ∃ t, (av == bv) = t := ⟨_, rfl⟩
        have HTN := Lib.hid (fun z => show Calls Try.prog 82 #[.bool t] z fun e w' => e = .returned (.agg #[.bool rn, .int .i64 rm]) ∧ Below z.heap.size z w' from by
          have := flag_ok t z
          have h := HCH2
          simp only [show ((6 : Int) = 3) = False from by simp, show ((6 : Int) = 4) = False from by simp, show ((6 : Int) = 5) = False from by simp, show ((6 : Int) = 6) = True from by simp, if_true, if_false] at h
          have e2 : (decide (av = bv)) = t := by rw [← ht]; try rfl
          rw [e2] at h
          rw [← h] at this
          exact this)
        clear HCH2
        go_enter Try.func68, Try.ntmps68
        go_upto_region 1 with fail
        rw [HW0.out]
        go_wp2_with fail
        refine (HTN.out _).mono ?_
        rintro e y3 ⟨rfl, hb⟩
        have By3 := Lib.hid hb
        clear hb
        obtain ⟨q0, q1, q2, q3, q4⟩ := vbox ((BX.out _ By3.out).2)
        go_wp2
        exact bodyPost_ret (v := .agg #[.bool rn, .int .i64 rm]) (by simp [results, Try.results68, go_sem, q0, q1, q2, q3, q4]) rfl ⟨rfl, below_put (bch HB0.out By3.out) (by omega) _ _⟩
      · skip
        obtain ⟨t, ht⟩ : ∃ t, (decide (av < bv)) = t := ⟨_, rfl⟩
        have HTN := Lib.hid (fun z => show Calls Try.prog 82 #[.bool t] z fun e w' => e = .returned (.agg #[.bool rn, .int .i64 rm]) ∧ Below z.heap.size z w' from by
          have := flag_ok t z
          have h := HCH2
          simp only [show ((7 : Int) = 3) = False from by simp, show ((7 : Int) = 4) = False from by simp, show ((7 : Int) = 5) = False from by simp, show ((7 : Int) = 6) = False from by simp, if_true, if_false] at h
          have e2 : (decide (av < bv)) = t := by rw [← ht]; try rfl
          rw [e2] at h
          rw [← h] at this
          exact this)
        clear HCH2
        go_enter Try.func68, Try.ntmps68
        go_upto_region 1 with fail
        rw [HW0.out]
        go_wp2_with fail
        refine (HTN.out _).mono ?_
        rintro e y3 ⟨rfl, hb⟩
        have By3 := Lib.hid hb
        clear hb
        obtain ⟨q0, q1, q2, q3, q4⟩ := vbox ((BX.out _ By3.out).2)
        go_wp2
        exact bodyPost_ret (v := .agg #[.bool rn, .int .i64 rm]) (by simp [results, Try.results68, go_sem, q0, q1, q2, q3, q4]) rfl ⟨rfl, below_put (bch HB0.out By3.out) (by omega) _ _⟩
theorem feAt_belowI {w w' : World} {B b o : Nat} {f : FE} (h : FeAt w b o f) (hb : Below B w w') (hB : b < B) : FeAt w' b o f :=
  ⟨(hb.cell (p := ⟨_, _, none⟩) hB).trans h.1, (hb.cell (p := ⟨_, _, none⟩) hB).trans h.2.1, (hb.cell (p := ⟨_, _, none⟩) hB).trans h.2.2.1, (hb.cell (p := ⟨_, _, none⟩) hB).trans h.2.2.2.1, (hb.cell (p := ⟨_, _, none⟩) hB).trans h.2.2.2.2⟩
theorem exOk_kind {W d : Int} {x : Ex} (h : ExOk W d x) : 1 ≤ x.kind ∧ x.kind ≤ 11 := by
  have h1 := (exOk_iff.1 h).1
  unfold kidsK at h1
  split at h1
  · omega
  · split at h1
    · omega
    · split at h1 <;> omega
end Go.Proofs.Ytcbfbgngkdiijaa
