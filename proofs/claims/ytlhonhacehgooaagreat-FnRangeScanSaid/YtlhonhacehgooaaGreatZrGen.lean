/-
  Contracts of the drawing of values and rows: randomValue, anyValue, randomRow, anyRow.
-/
import Derived.Test.YtlhonhacehgooaaGreatProg
import Derived.Test.YtlhonhacehgooaaGreatZrRd
import Derived.Test.YtlhonhacehgooaaGreatZrVal
namespace Go.Proofs.YtlhonhacehgooaaGreat
open Go.RowKit Go.Qo
set_option linter.unusedVariables false
set_option linter.unusedSimpArgs false

theorem ints5 (w : World) (xs : List Int) (t : TypeId) : Sl 1 intC (w.alloc (.cells (xs.map (Value.int .i64)).toArray t)) (w.alloc (.cells (xs.map (Value.int .i64)).toArray t)).heap.size (some ⟨w.heap.size, 0, none⟩) xs := by
  refine Row.sl' intC_length (t := t) ((Row.new w t _).of ?_)
  induction xs with
  | nil => rfl
  | cons x xs ih => simp_all [intC]

set_option maxHeartbeats 1000000 in
theorem randomValue_ok (b p : Nat) (w : World) (h : Rd w b p) (hp : p + 2 ≤ 1099511627776) :
    Calls Tryz.prog 207 #[.pointer (some ⟨b, 0, none⟩)] w fun e w' => ∃ v : Val, e = .returned (.agg #[.bool v.1, .int .i64 v.2]) ∧ vValid v = true ∧ But b w w' ∧ Rd w' b (p + 2) := by
  have hlt := h.lt
  have HP := Lib.hid (fun (z : World) (hz : Below w.heap.size w z) => pick_ok b p 5 z (h.on hz) (by omega))
  have HR := Lib.hid h
  clear h
  go_enter Tryz.func207, Tryz.ntmps207
  go_wp2_with fail
  refine (HP.out _ (balloc (Below.refl _ _) _)).mono ?_
  rintro e w1 ⟨r, rfl, hr, hb1, hsz, hR1⟩
  have hrow := ((Row.new w 55 #[.bool false, .int .i64 0]).only hb1 (by omega))
  have hl1 := hrow.lt
  have c0 : w1.cell? ⟨w.heap.size, 0, none⟩ = some (.bool false) := hrow.cell 0
  have c1 : w1.cell? ⟨w.heap.size, 1, none⟩ = some (.int .i64 0) := hrow.cell 1
  have f0 := hrow.frozen 0
  have f1 := hrow.frozen 1
  have HB := Lib.hid ((Only.refl w).alloc _ |>.trans hb1)
  have HR1 := Lib.hid hR1
  have HW := Lib.hid hrow
  clear hb1 hsz hR1 hrow hr
  by_cases h0 : r = 0
  · subst h0
    go_wp2
    refine bodyPost_ret (v := .agg #[.bool true, .int .i64 0]) (by simp [results, Tryz.results207, go_sem, c0, c1]) rfl ⟨(true, 0), rfl, rfl, ?_, ?_⟩
    · exact (HB.out.set (.inr (Nat.le_refl _)) _).set (.inr (Nat.le_refl _)) _
    · exact ((HR1.out.set (show b < w.heap.size from hlt) _).set (show b < w.heap.size from hlt) _).mono (by omega)
  · have HO := Lib.hid (one_ok b (p + 1) (some ⟨w1.heap.size, 0, none⟩) 5 [0, 1, 2, 3, -1] _ (HR1.out.on (balloc (Below.refl _ _) _)) (by omega) (by decide) (by decide) (ints5 w1 [0, 1, 2, 3, -1] 3) (by rintro a ha; cases ha; exact (show w1.heap.size ≠ b by omega)))
    go_wp2_with fail
    refine HO.out.mono ?_
    rintro e w2 ⟨r2, rfl, hr2, hb2, hsz, hR2⟩
    have hrow2 := (HW.out.alloc (.cells ([0, 1, 2, 3, -1].map (Value.int .i64)).toArray 3)).only hb2 (by omega)
    have c0 : w2.cell? ⟨w.heap.size, 0, none⟩ = some (.bool false) := hrow2.cell 0
    have c1 : w2.cell? ⟨w.heap.size, 1, none⟩ = some (.int .i64 0) := hrow2.cell 1
    have f0 := hrow2.frozen 0
    have f1 := hrow2.frozen 1
    have HB2 := Lib.hid ((HB.out.alloc (.cells ([0, 1, 2, 3, -1].map (Value.int .i64)).toArray 3)).trans hb2)
    have HR2 := Lib.hid hR2
    have Hr2 := Lib.hid hr2
    clear hb2 hsz hR2 hrow2 hr2
    go_wp2
    refine bodyPost_ret (v := .agg #[.bool false, .int .i64 r2]) (by simp [results, Tryz.results207, go_sem, c0, c1]) rfl ⟨(false, r2), rfl, ?_, ?_, ?_⟩
    · have := Hr2.out
      simp at this
      simp [vValid]; omega
    · exact (HB2.out.set (.inr (Nat.le_refl _)) _).set (.inr (Nat.le_refl _)) _
    · exact ((HR2.out.set (show b < w.heap.size from hlt) _).set (show b < w.heap.size from hlt) _)

set_option maxHeartbeats 1000000 in
theorem anyValue_ok (b p : Nat) (w : World) (h : Rd w b p) (hp : p + 4 ≤ 1099511627776) :
    Calls Tryz.prog 166 #[.pointer (some ⟨b, 0, none⟩)] w fun e w' => ∃ v : Val, e = .returned (.agg #[.bool v.1, .int .i64 v.2]) ∧ (-10000 ≤ v.2 ∧ v.2 ≤ 10000) ∧ But b w w' ∧ Rd w' b (p + 4) := by
  have hlt := h.lt
  have HV := Lib.hid (fun (z : World) (hz : Below w.heap.size w z) => randomValue_ok b p z (h.on hz) (by omega))
  clear h
  go_enter Tryz.func166, Tryz.ntmps166
  go_wp2_with fail
  refine (HV.out _ (balloc (Below.refl _ _) _)).mono ?_
  rintro e w1 ⟨⟨v1, v2⟩, rfl, hv, hb1, hR1⟩
  have hrow := ((Row.new w 55 #[.bool false, .int .i64 0]).only hb1 (by omega))
  have hl1 := hrow.lt
  have HB := Lib.hid ((Only.refl w).alloc _ |>.trans hb1)
  have HP := Lib.hid (fun (z : World) (hz : Below w1.heap.size w1 z) => pick_ok b (p + 2) 14 z (hR1.on hz) (by omega))
  have HW := Lib.hid hrow
  have hvb : -9999 ≤ v2 ∧ v2 ≤ 9999 := by
    simp [vValid] at hv
    split at hv <;> omega
  have Hv := Lib.hid hvb
  clear hb1 hR1 hrow hv hvb
  dsimp only
  go_wp2_with fail
  refine (HP.out _ (balloc (Below.refl _ _) _)).mono ?_
  rintro e w2 ⟨r, rfl, hr, hb2, hsz, hR2⟩
  have hrow2 := (HW.out.alloc (.cells #[.bool v1, .int .i64 v2] 55)).only hb2 (by omega)
  have hrow3 := (Row.new w1 55 #[.bool v1, .int .i64 v2]).only hb2 (by omega)
  have HW2 := Lib.hid hrow2
  have c0 : w2.cell? ⟨w.heap.size, 0, none⟩ = some (.bool false) := hrow2.cell 0
  have c1 : w2.cell? ⟨w.heap.size, 1, none⟩ = some (.int .i64 0) := hrow2.cell 1
  have f0 := hrow2.frozen 0
  have f1 := hrow2.frozen 1
  have d0 : w2.cell? ⟨w1.heap.size, 0, none⟩ = some (.bool v1) := hrow3.cell 0
  have d1 : w2.cell? ⟨w1.heap.size, 1, none⟩ = some (.int .i64 v2) := hrow3.cell 1
  have hl2 := hrow3.lt
  have HB2 := Lib.hid ((HB.out.alloc (.cells #[.bool v1, .int .i64 v2] 55)).trans hb2)
  have HR2 := Lib.hid hR2
  clear hb2 hsz hR2 hrow2 hrow3 hr
  by_cases h0 : r = 0
  · subst h0
    go_wp2
    refine bodyPost_ret (v := .agg #[.bool true, .int .i64 1]) (by simp [results, Tryz.results166, go_sem, c0, c1]) rfl ⟨(true, 1), rfl, by decide, ?_, ?_⟩
    · exact (HB2.out.set (.inr (Nat.le_refl _)) _).set (.inr (Nat.le_refl _)) _
    · exact ((HR2.out.set (show b < w.heap.size from hlt) _).set (show b < w.heap.size from hlt) _).mono (by omega)
  · by_cases h1 : r = 1
    · subst h1
      have HO := Lib.hid (one_ok b (p + 3) (some ⟨w2.heap.size, 0, none⟩) 4 [10000, -10000, 9999, -9999] _ (HR2.out.on (balloc (Below.refl _ _) _)) (by omega) (by decide) (by decide) (ints5 w2 [10000, -10000, 9999, -9999] 3) (by rintro a ha; cases ha; exact (show w2.heap.size ≠ b by omega)))
      clear c0 c1 f0 f1
      go_wp2_with fail
      refine HO.out.mono ?_
      rintro e w3 ⟨r2, rfl, hr2, hb3, hsz, hR3⟩
      have hrow2 := (HW2.out.alloc (.cells ([10000, -10000, 9999, -9999].map (Value.int .i64)).toArray 3)).only hb3 (by omega)
      have c0 : w3.cell? ⟨w.heap.size, 0, none⟩ = some (.bool false) := hrow2.cell 0
      have c1 : w3.cell? ⟨w.heap.size, 1, none⟩ = some (.int .i64 0) := hrow2.cell 1
      have f0 := hrow2.frozen 0
      have f1 := hrow2.frozen 1
      have HB3 := Lib.hid ((HB2.out.alloc (.cells ([10000, -10000, 9999, -9999].map (Value.int .i64)).toArray 3)).trans hb3)
      have HR3 := Lib.hid hR3
      have Hr2 := Lib.hid hr2
      clear hb3 hsz hR3 hrow2 hr2
      go_wp2
      refine bodyPost_ret (v := .agg #[.bool false, .int .i64 r2]) (by simp [results, Tryz.results166, go_sem, c0, c1]) rfl ⟨(false, r2), rfl, ?_, ?_, ?_⟩
      · have := Hr2.out
        simp at this
        show -10000 ≤ r2 ∧ r2 ≤ 10000
        omega
      · exact (HB3.out.set (.inr (Nat.le_refl _)) _).set (.inr (Nat.le_refl _)) _
      · exact ((HR3.out.set (show b < w.heap.size from hlt) _).set (show b < w.heap.size from hlt) _)
    · go_wp2
      refine bodyPost_ret (v := .agg #[.bool v1, .int .i64 v2]) (by simp [results, Tryz.results166, go_sem, c0, c1]) rfl ⟨(v1, v2), rfl, ?_, ?_, ?_⟩
      · have := Hv.out
        show -10000 ≤ v2 ∧ v2 ≤ 10000
        omega
      · exact (HB2.out.set (.inr (Nat.le_refl _)) _).set (.inr (Nat.le_refl _)) _
      · exact ((HR2.out.set (show b < w.heap.size from hlt) _).set (show b < w.heap.size from hlt) _).mono (by omega)

/-- A row of the call's own, of n values, each of them so. -/
def GotRow (n : Nat → Prop) (ok : Val → Prop) (b p : Nat) (w : World) (e : Ending) (w' : World) : Prop :=
  ∃ (v : Value) (xs : List Val), e = .returned v ∧ n xs.length ∧ (∀ x ∈ xs, ok x) ∧ Ow w.heap.size 55 2 valC w' v xs ∧ But b w w' ∧ Rd w' b p
def Small (x : Val) : Prop := -10000 ≤ x.2 ∧ x.2 ≤ 10000
theorem small_of {x : Val} (h : vValid x = true) : Small x := by
  unfold Small
  simp only [vValid] at h
  split at h
  · have : x.2 = 0 := by simpa using h
    omega
  · simp only [Bool.and_eq_true, decide_eq_true_eq] at h; omega

set_option maxHeartbeats 1000000 in
theorem randomRow_ok (b p : Nat) (n : Int) (w : World) (h : Rd w b p) (hp : p + 40 ≤ 1099511627776) (hn : n ≤ 16) :
    Calls Tryz.prog 165 #[.pointer (some ⟨b, 0, none⟩), .int .i64 n] w (GotRow (· = n.toNat) (vValid · = true) b (p + 32) w) := by
  have hlt := h.lt
  have HR := Lib.hid h
  clear h
  go_enter Tryz.func165, Tryz.ntmps165
  go_wp2
  go_loopg [5, 6] n.toNat (fun g v i wr => ∃ xs : List Val, g = n.toNat - xs.length ∧ xs.length ≤ n.toNat ∧ i = .int .i64 xs.length ∧ (∀ x ∈ xs, vValid x = true) ∧ Ow w.heap.size 55 2 valC wr v xs ∧ But b w wr ∧ Rd wr b (p + 2 * xs.length))
  case atStart =>
    exact ⟨[], by simp, by simp, rfl, by simp, Ow.lit (xs := ([] : List Val)) rfl rfl (Nat.le_refl _) (by decide), (Only.refl w).alloc _, HR.out.on (balloc (Below.refl _ _) _)⟩
  case round =>
    obtain ⟨xs, rfl, hk, rfl, hv, how, hb, hR⟩ := hrel
    have HO := Lib.hid how
    have HB := Lib.hid hb
    have Hv := Lib.hid hv
    have HRr := Lib.hid hR
    have HV := Lib.hid (randomValue_ok b (p + 2 * xs.length) wr hR (by omega))
    have hsz := hb.size
    have hk16 : xs.length ≤ 16 := by omega
    clear hv how hb hR
    by_cases hlt2 : (xs.length : Int) < n
    · go_wp2_with fail
      refine HV.out.mono ?_
      rintro e w1 ⟨⟨v1, v2⟩, rfl, hv, hb1, hR1⟩
      have hz1 := hb1.size
      have HO1 := Lib.hid (((HO.out.only hb1 (by intro k hk; left; omega)).on (balloc (Below.refl _ _) (.cells #[.bool v1, .int .i64 v2] 55))))
      have HS := Lib.hid (Row.sl' (w := w1.alloc (.cells #[.bool v1, .int .i64 v2] 55)) (t := 55) (xs := [(v1, v2)]) valC_length ((Row.new w1 _ _).of rfl))
      have hsz2 : w.heap.size ≤ (w1.alloc (.cells #[.bool v1, .int .i64 v2] 55)).heap.size := by simp; omega
      dsimp only
      go_wp2_with (at_builtin; refine wpList_app rfl (.tmp 13) (.tmp 16) 104 rfl w.heap.size 55 _ 2 16 valC Tryz.underlying104 zeroVal rfl (by decide) (by decide) valC_length valC_one _ xs rfl HO1.out (some ⟨w1.heap.size, 0, none⟩) 1 1 [(v1, v2)] rfl rfl HS.out (by simp; omega) hsz2 ?_; intro v' w' hown hgr)
      go_roundg (n.toNat - (xs.length + 1))
      case measure => omega
      case rel =>
        refine ⟨xs ++ [(v1, v2)], by simp, by simp; omega, by simp, ?_, hown, ?_, ?_⟩
        · intro x hx
          rcases List.mem_append.1 hx with hx | hx
          · exact Hv.out x hx
          · simp at hx; subst hx; exact hv
        · exact ((HB.out.trans hb1).alloc _).grown hgr fun k hk => .inr (HO1.out.ty k hk).1
        · exact (((hR1.on (balloc (Below.refl _ _) _)).grown hgr fun k hk => by have := (HO1.out.ty k hk).1; omega)).mono (by simp; omega)
    · go_wp2
      go_ret
      exact ⟨_, xs, rfl, by omega, Hv.out, HO.out, HB.out, HRr.out.mono (by omega)⟩

set_option maxHeartbeats 1000000 in
theorem anyRow_ok (b p : Nat) (n : Int) (w : World) (h : Rd w b p) (hp : p + 80 ≤ 1099511627776) (hn : n ≤ 16) (hn0 : 1 ≤ n) :
    Calls Tryz.prog 124 #[.pointer (some ⟨b, 0, none⟩), .int .i64 n] w (GotRow (· ≤ 16) Small b (p + 72) w) := by
  have hlt := h.lt
  have HV := Lib.hid (randomRow_ok b p n w h (by omega) hn)
  clear h
  go_enter Tryz.func124, Tryz.ntmps124
  go_wp2_with fail
  refine HV.out.mono ?_
  rintro e w1 ⟨v, xs, rfl, hl, hv, how, hb1, hR1⟩
  obtain ⟨A, c, rfl, hc1, hc2, hs⟩ := how.shape valC_length
  have HP := Lib.hid (pick_ok b (p + 32) 18 w1 hR1 (by omega))
  have HO := Lib.hid how
  have HB := Lib.hid hb1
  have Hv := Lib.hid (fun x (hx : x ∈ xs) => small_of (hv x hx))
  have hz1 := hb1.size
  have hxl : xs.length ≤ 16 := by omega
  have hx0 : 0 < xs.length := by omega
  clear how hb1 hR1 hv hs hl
  go_wp2_with fail
  refine HP.out.mono ?_
  rintro e w2 ⟨r, rfl, hr, hb2, hsz2, hR2⟩
  have HB2 := Lib.hid (HB.out.trans hb2)
  have HR2 := Lib.hid hR2
  have HO2 := Lib.hid (HO.out.only hb2 (by intro k hk; left; omega))
  clear hb2 hR2 hr
  by_cases h0 : r = 0
  · subst h0
    go_wp2
    go_ret
    exact ⟨_, [], rfl, by simp, by simp, Ow.lit (xs := ([] : List Val)) rfl rfl (by omega) (by decide), HB2.out.alloc _, (HR2.out.on (balloc (Below.refl _ _) _)).mono (by omega)⟩
  · by_cases h1 : r = 1
    · subst h1
      have HW := Lib.hid (randomRow_ok b (p + 33) 7 w2 HR2.out (by omega) (by omega))
      go_wp2_with fail
      refine HW.out.mono ?_
      rintro e w3 ⟨v, ys, rfl, hl, hv, how, hb3, hR3⟩
      go_wp2
      go_ret
      exact ⟨_, ys, rfl, by omega, fun x hx => small_of (hv x hx), how.low (by omega), HB2.out.trans hb3, hR3.mono (by omega)⟩
    · by_cases h2 : r = 2
      · subst h2
        have HP3 := Lib.hid (pick_ok b (p + 33) xs.length w2 HR2.out (by omega))
        go_wp2_with fail
        refine HP3.out.mono ?_
        rintro e w3 ⟨k, rfl, hk, hb3, hsz3, hR3⟩
        have HB3 := Lib.hid (HB2.out.trans hb3)
        have HO3 := Lib.hid (HO2.out.only hb3 (by intro k hk; left; omega))
        have HV3 := Lib.hid (anyValue_ok b (p + 34) w3 hR3 (by omega))
        have k0 := hk.1
        have k1 := hk.2.1 (by omega)
        obtain ⟨j, rfl⟩ := Int.eq_ofNat_of_zero_le k0
        clear hb3 hR3 hk
        go_wp2_with fail
        refine HV3.out.mono ?_
        rintro e w4 ⟨⟨v1, v2⟩, rfl, hv4, hb4, hR4⟩
        have HB4 := Lib.hid (HB3.out.trans hb4)
        have HO4 := Lib.hid (HO3.out.only hb4 (by intro k hk; left; omega))
        have HR4 := Lib.hid hR4
        clear hb4 hR4
        obtain ⟨g, rfl, hn', hg, hgl, _, hf, hcs⟩ := HO4.out.head valC_length hx0
        have hjl : j < xs.length := by omega
        have hx := List.getElem?_eq_getElem hjl
        have hfl := flat_length 2 valC valC_length xs
        obtain ⟨y1, hy1⟩ : ∃ y, (xs.flatMap valC)[j * 2]? = some y := ⟨_, List.getElem?_eq_getElem (by omega)⟩
        obtain ⟨y2, hy2⟩ : ∃ y, (xs.flatMap valC)[j * 2 + 1]? = some y := ⟨_, List.getElem?_eq_getElem (by omega)⟩
        have c0 := hcs _ _ hy1
        have c1 := hcs _ _ hy2
        have f0 := hf (j * 2)
        have f1 := hf (j * 2 + 1)
        clear hcs hf hy1 hy2 hx hn'
        dsimp only
        go_wp2
        go_ret
        have hst := (World.ownsRow.stored (HO4.out.put (j * 2) (.bool v1)) (j * 2 + 1) (.int .i64 v2)).1
        rw [flat_setV xs j (v1, v2) hjl] at hst
        refine ⟨_, xs.set j (v1, v2), rfl, by simpa using hxl, ?_, by unfold Ow; rw [List.length_set]; exact hst, ?_, ?_⟩
        · intro x hx
          rcases List.mem_or_eq_of_mem_set hx with h1 | h1
          · exact Hv.out x h1
          · subst h1; exact hv4
        · exact (HB4.out.set (.inr hg) _).set (.inr hg) _
        · exact (HR4.out.set (show b < g by omega) _ |>.set (show b < g by omega) _).mono (by omega)
      · go_wp2
        go_ret
        exact ⟨_, xs, rfl, hxl, Hv.out, HO2.out, HB2.out, HR2.out.mono (by omega)⟩

end Go.Proofs.YtlhonhacehgooaaGreat
