/-
  Contracts of the drawing of values and rows: randomValue, anyValue, randomRow, anyRow.
-/
import Derived.Test.YtcbfbgngkdiijaaProg
import Derived.Test.YtcbfbgngkdiijaaRd
import Derived.Test.YtcbfbgngkdiijaaVal
namespace Go.Proofs.Ytcbfbgngkdiijaa
open Go.RowKit Go.Qo
set_option linter.unusedVariables false
set_option linter.unusedSimpArgs false

theorem ints5 (w : World) (xs : List Int) (t : TypeId) : Sl 1 intC (w.alloc (.cells (xs.map (Value.int .i64)).toArray t)) (w.alloc (.cells (xs.map (Value.int .i64)).toArray t)).heap.size (some ⟨w.heap.size, 0, none⟩) xs := by
  refine Row.sl' intC_length (t := t) ((Row.new w t _).of ?_)
  induction xs with
  | nil => rfl
  | cons x xs ih => simp_all [intC]

set_option maxHeartbeats 1000000 in
theorem randomValue_ok (b p : Nat) (w : World) (h : Rd w b p) (hp : p + 2 ≤ 1099511627776) :
    Calls Try.prog 74 #[.pointer (some ⟨b, 0, none⟩)] w fun e w' => ∃ v : Val, e = .returned (.agg #[.bool v.1, .int .i64 v.2]) ∧ vValid v = true ∧ But b w w' ∧ Rd w' b (p + 2) := by
  have hlt := h.lt
  have HP := Lib.hid (fun (z : World) (hz : Below w.heap.size w z) => pick_ok b p 5 z (h.on hz) (by omega))
  have HR := Lib.hid h
  clear h
  go_enter Try.func74, Try.ntmps74
  go_wp2_with fail
  refine (HP.out _ (balloc (Below.refl _ _) _)).mono ?_
  rintro e w1 ⟨r, rfl, hr, hb1, hsz, hR1⟩
  have hrow := ((Row.new w 64 #[.bool false, .int .i64 0]).only hb1 (by omega))
  have hl1 := hrow.lt
  have c0 : w1.cell? ⟨w.heap.size, 0, none⟩ = some (.bool false) := hrow.cell 0
  have c1 : w1.cell? ⟨w.heap.size, 1, none⟩ = some (.int .i64 0) := hrow.cell 1
  have f0 := hrow.frozen 0
  have f1 := hrow.frozen 1
  have HB := Lib.hid ((Only.refl w).alloc _ |>.trans hb1)
  have HR1 := Lib.hid hR1
  have HW := Lib.hid hrow
  clear hb1 hsz hR1 hrow hr
  by_cases h0 : r = 0
  · subst h0
    go_wp2
    refine bodyPost_ret (v := .agg #[.bool true, .int .i64 0]) (by simp [results, Try.results74, go_sem, c0, c1]) rfl ⟨(true, 0), rfl, rfl, ?_, ?_⟩
    · exact (HB.out.set (.inr (Nat.le_refl _)) _).set (.inr (Nat.le_refl _)) _
    · exact ((HR1.out.set (show b < w.heap.size from hlt) _).set (show b < w.heap.size from hlt) _).mono (by omega)
  · have HO := Lib.hid (one_ok b (p + 1) (some ⟨w1.heap.size, 0, none⟩) 5 [0, 1, 2, 3, -1] _ (HR1.out.on (balloc (Below.refl _ _) _)) (by omega) (by decide) (by decide) (ints5 w1 [0, 1, 2, 3, -1] 3) (by rintro a ha; cases ha; exact (show w1.heap.size ≠ b by omega)))
    go_wp2_with fail
    refine HO.out.mono ?_
    rintro e w2 ⟨r2, rfl, hr2, hb2, hsz, hR2⟩
    have hrow2 := (HW.out.alloc (.cells ([0, 1, 2, 3, -1].map (Value.int .i64)).toArray 3)).only hb2 (by omega)
    have c0 : w2.cell? ⟨w.heap.size, 0, none⟩ = some (.bool false) := hrow2.cell 0
    have c1 : w2.cell? ⟨w.heap.size, 1, none⟩ = some (.int .i64 0) := hrow2.cell 1
    have f0 := hrow2.frozen 0
    have f1 := hrow2.frozen 1
    have HB2 := Lib.hid ((HB.out.alloc (.cells ([0, 1, 2, 3, -1].map (Value.int .i64)).toArray 3)).trans hb2)
    have HR2 := Lib.hid hR2
    have Hr2 := Lib.hid hr2
    clear hb2 hsz hR2 hrow2 hr2
    go_wp2
    refine bodyPost_ret (v := .agg #[.bool false, .int .i64 r2]) (by simp [results, Try.results74, go_sem, c0, c1]) rfl ⟨(false, r2), rfl, ?_, ?_, ?_⟩
    · have := Hr2.out
      simp at this
      simp [vValid]; omega
    · exact (HB2.out.set (.inr (Nat.le_refl _)) _).set (.inr (Nat.le_refl _)) _
    · exact ((HR2.out.set (show b < w.heap.size from hlt) _).set (show b < w.heap.size from hlt) _)

set_option maxHeartbeats 1000000 in
theorem anyValue_ok (b p : Nat) (w : World) (h : Rd w b p) (hp : p + 4 ≤ 1099511627776) :
    Calls Try.prog 64 #[.pointer (some ⟨b, 0, none⟩)] w fun e w' => ∃ v : Val, e = .returned (.agg #[.bool v.1, .int .i64 v.2]) ∧ (-10000 ≤ v.2 ∧ v.2 ≤ 10000) ∧ But b w w' ∧ Rd w' b (p + 4) := by
  have hlt := h.lt
  have HV := Lib.hid (fun (z : World) (hz : Below w.heap.size w z) => randomValue_ok b p z (h.on hz) (by omega))
  clear h
  go_enter Try.func64, Try.ntmps64
  go_wp2_with fail
  refine (HV.out _ (balloc (Below.refl _ _) _)).mono ?_
  rintro e w1 ⟨⟨v1, v2⟩, rfl, hv, hb1, hR1⟩
  have hrow := ((Row.new w 64 #[.bool false, .int .i64 0]).only hb1 (by omega))
  have hl1 := hrow.lt
  have HB := Lib.hid ((Only.refl w).alloc _ |>.trans hb1)
  have HP := Lib.hid (fun (z : World) (hz : Below w1.heap.size w1 z) => pick_ok b (p + 2) 14 z (hR1.on hz) (by omega))
  have HW := Lib.hid hrow
  have hvb : -9999 ≤ v2 ∧ v2 ≤ 9999 := by
    simp [vValid] at hv
    split at hv <;> omega
  have Hv := Lib.hid hvb
  clear hb1 hR1 hrow hv hvb
  dsimp only
  go_wp2_with fail
  refine (HP.out _ (balloc (Below.refl _ _) _)).mono ?_
  rintro e w2 ⟨r, rfl, hr, hb2, hsz, hR2⟩
  have hrow2 := (HW.out.alloc (.cells #[.bool v1, .int .i64 v2] 64)).only hb2 (by omega)
  have hrow3 := (Row.new w1 64 #[.bool v1, .int .i64 v2]).only hb2 (by omega)
  have HW2 := Lib.hid hrow2
  have c0 : w2.cell? ⟨w.heap.size, 0, none⟩ = some (.bool false) := hrow2.cell 0
  have c1 : w2.cell? ⟨w.heap.size, 1, none⟩ = some (.int .i64 0) := hrow2.cell 1
  have f0 := hrow2.frozen 0
  have f1 := hrow2.frozen 1
  have d0 : w2.cell? ⟨w1.heap.size, 0, none⟩ = some (.bool v1) := hrow3.cell 0
  have d1 : w2.cell? ⟨w1.heap.size, 1, none⟩ = some (.int .i64 v2) := hrow3.cell 1
  have hl2 := hrow3.lt
  have HB2 := Lib.hid ((HB.out.alloc (.cells #[.bool v1, .int .i64 v2] 64)).trans hb2)
  have HR2 := Lib.hid hR2
  clear hb2 hsz hR2 hrow2 hrow3 hr
  by_cases h0 : r = 0
  · subst h0
    go_wp2
    refine bodyPost_ret (v := .agg #[.bool true, .int .i64 1]) (by simp [results, Try.results64, go_sem, c0, c1]) rfl ⟨(true, 1), rfl, by decide, ?_, ?_⟩
    · exact (HB2.out.set (.inr (Nat.le_refl _)) _).set (.inr (Nat.le_refl _)) _
    · exact ((HR2.out.set (show b < w.heap.size from hlt) _).set (show b < w.heap.size from hlt) _).mono (by omega)
  · by_cases h1 : r = 1
    · subst h1
      have HO := Lib.hid (one_ok b (p + 3) (some ⟨w2.heap.size, 0, none⟩) 4 [10000, -10000, 9999, -9999] _ (HR2.out.on (balloc (Below.refl _ _) _)) (by omega) (by decide) (by decide) (ints5 w2 [10000, -10000, 9999, -9999] 3) (by rintro a ha; cases ha; exact (show w2.heap.size ≠ b by omega)))
      clear c0 c1 f0 f1
      go_wp2_with fail
      refine HO.out.mono ?_
      rintro e w3 ⟨r2, rfl, hr2, hb3, hsz, hR3⟩
      have hrow2 := (HW2.out.alloc (.cells ([10000, -10000, 9999, -9999].map (Value.int .i64)).toArray 3)).only hb3 (by omega)
      have c0 : w3.cell? ⟨w.heap.size, 0, none⟩ = some (.bool false) := hrow2.cell 0
      have c1 : w3.cell? ⟨w.heap.size, 1, none⟩ = some (.int .i64 0) := hrow2.cell 1
      have f0 := hrow2.frozen 0
      have f1 := hrow2.frozen 1
      have HB3 := Lib.hid ((HB2.out.alloc (.cells ([10000, -10000, 9999, -9999].map (Value.int .i64)).toArray 3)).trans hb3)
      have HR3 := Lib.hid hR3
      have Hr2 := Lib.hid hr2
      clear hb3 hsz hR3 hrow2 hr2
      go_wp2
      refine bodyPost_ret (v := .agg #[.bool false, .int .i64 r2]) (by simp [results, Try.results64, go_sem, c0, c1]) rfl ⟨(false, r2), rfl, ?_, ?_, ?_⟩
      · have := Hr2.out
        simp at this
        show -10000 ≤ r2 ∧ r2 ≤ 10000
        omega
      · exact (HB3.out.set (.inr (Nat.le_refl _)) _).set (.inr (Nat.le_refl _)) _
      · exact ((HR3.out.set (show b < w.heap.size from hlt) _).set (show b < w.heap.size from hlt) _)
    · go_wp2
      refine bodyPost_ret (v := .agg #[.bool v1, .int .i64 v2]) (by simp [results, Try.results64, go_sem, c0, c1]) rfl ⟨(v1, v2), rfl, ?_, ?_, ?_⟩
      · have := Hv.out
        show -10000 ≤ v2 ∧ v2 ≤ 10000
        omega
      · exact (HB2.out.set (.inr (Nat.le_refl _)) _).set (.inr (Nat.le_refl _)) _
      · exact ((HR2.out.set (show b < w.heap.size from hlt) _).set (show b < w.heap.size from hlt) _).mono (by omega)

/-- A row of the call's own, of n values, each of them so. -/
def GotRow (n : Nat → Prop) (ok : Val → Prop) (b p : Nat) (w : World) (e : Ending) (w' : World) : Prop :=
  ∃ (v : Value) (xs : List Val), e = .returned v ∧ n xs.length ∧ (∀ x ∈ xs, ok x) ∧ Ow w.heap.size 64 2 valC w' v xs ∧ But b w w' ∧ Rd w' b p
def Small (x : Val) : Prop := -10000 ≤ x.2 ∧ x.2 ≤ 10000
theorem small_of {x : Val} (h : vValid x = true) : Small x := by
  unfold Small
  simp only [vValid] at h
  split at h
  · have : x.2 = 0 := by simpa using h
    omega
  · simp only [Bool.and_eq_true, decide_eq_true_eq] at h; omega



end Go.Proofs.Ytcbfbgngkdiijaa
