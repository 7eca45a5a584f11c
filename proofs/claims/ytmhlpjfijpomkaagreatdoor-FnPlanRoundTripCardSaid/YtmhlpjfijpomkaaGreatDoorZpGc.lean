import Derived.Test.YtmhlpjfijpomkaaGreatDoorProg
import Derived.Test.YtmhlpjfijpomkaaGreatDoorZpGa
import Derived.Test.YtmhlpjfijpomkaaGreatDoorZpGb
import Derived.Deep.DeepCutAuto
import Derived.Test.YtmhlpjfijpomkaaGreatDoorZpPln
/-
  Contracts of the drawing of values and rows: randomValue, anyValue, randomRow, anyRow.
-/
namespace Go.Proofs.YtmhlpjfijpomkaaGreatDoor
open Go.RowKit Go.Qo
set_option linter.unusedVariables false
set_option linter.unusedSimpArgs false

theorem ints5 (w : World) (xs : List Int) (t : TypeId) : Sl 1 intC (w.alloc (.cells (xs.map (Value.int .i64)).toArray t)) (w.alloc (.cells (xs.map (Value.int .i64)).toArray t)).heap.size (some ⟨w.heap.size, 0, none⟩) xs := by
  refine Row.sl' intC_length (t := t) ((Row.new w t _).of ?_)
  induction xs with
  | nil => rfl
  | cons x xs ih => simp_all [intC]

set_option maxHeartbeats 1000000 in
theorem randomValue_ok (b p : Nat) (w : World) (h : Rd w b p) (hp : p + 2 ≤ 1099511627776) :
    Calls Tryz.prog 105 #[.pointer (some ⟨b, 0, none⟩)] w fun e w' => ∃ v : Val, e = .returned (.agg #[.bool v.1, .int .i64 v.2]) ∧ vValid v = true ∧ But b w w' ∧ Rd w' b (p + 2) := by
  have hlt := h.lt
  have HP := Lib.hid (fun (z : World) (hz : Below w.heap.size w z) => pick_ok b p 5 z (h.on hz) (by omega))
  have HR := Lib.hid h
  clear h
  go_enter Tryz.func105, Tryz.ntmps105
  go_wp2_with fail
  refine (HP.out _ (balloc (Below.refl _ _) _)).mono ?_
  rintro e w1 ⟨r, rfl, hr, hb1, hsz, hR1⟩
  have hrow := ((Row.new w 38 #[.bool false, .int .i64 0]).only hb1 (by omega))
  have hl1 := hrow.lt
  have c0 : w1.cell? ⟨w.heap.size, 0, none⟩ = some (.bool false) := hrow.cell 0
  have c1 : w1.cell? ⟨w.heap.size, 1, none⟩ = some (.int .i64 0) := hrow.cell 1
  have f0 := hrow.frozen 0
  have f1 := hrow.frozen 1
  have HB := Lib.hid ((Only.refl w).alloc _ |>.trans hb1)
  have HR1 := Lib.hid hR1
  have HW := Lib.hid hrow
  clear hb1 hsz hR1 hrow hr
  by_cases h0 : r = 0
  · subst h0
    go_wp2
    refine bodyPost_ret (v := .agg #[.bool true, .int .i64 0]) (by simp [results, Tryz.results105, go_sem, c0, c1]) rfl ⟨(true, 0), rfl, rfl, ?_, ?_⟩
    · exact (HB.out.set (.inr (Nat.le_refl _)) _).set (.inr (Nat.le_refl _)) _
    · exact ((HR1.out.set (show b < w.heap.size from hlt) _).set (show b < w.heap.size from hlt) _).mono (by omega)
  · have HO := Lib.hid (one_ok b (p + 1) (some ⟨w1.heap.size, 0, none⟩) 5 [0, 1, 2, 3, -1] _ (HR1.out.on (balloc (Below.refl _ _) _)) (by omega) (by decide) (by decide) (ints5 w1 [0, 1, 2, 3, -1] 3) (by rintro a ha; cases ha; exact (show w1.heap.size ≠ b by omega)))
    go_wp2_with fail
    refine HO.out.mono ?_
    rintro e w2 ⟨r2, rfl, hr2, hb2, hsz, hR2⟩
    have hrow2 := (HW.out.alloc (.cells ([0, 1, 2, 3, -1].map (Value.int .i64)).toArray 3)).only hb2 (by omega)
    have c0 : w2.cell? ⟨w.heap.size, 0, none⟩ = some (.bool false) := hrow2.cell 0
    have c1 : w2.cell? ⟨w.heap.size, 1, none⟩ = some (.int .i64 0) := hrow2.cell 1
    have f0 := hrow2.frozen 0
    have f1 := hrow2.frozen 1
    have HB2 := Lib.hid ((HB.out.alloc (.cells ([0, 1, 2, 3, -1].map (Value.int .i64)).toArray 3)).trans hb2)
    have HR2 := Lib.hid hR2
    have Hr2 := Lib.hid hr2
    clear hb2 hsz hR2 hrow2 hr2
    go_wp2
    refine bodyPost_ret (v := .agg #[.bool false, .int .i64 r2]) (by simp [results, Tryz.results105, go_sem, c0, c1]) rfl ⟨(false, r2), rfl, ?_, ?_, ?_⟩
    · have := Hr2.out
      simp at this
      simp [vValid]; omega
    · exact (HB2.out.set (.inr (Nat.le_refl _)) _).set (.inr (Nat.le_refl _)) _
    · exact ((HR2.out.set (show b < w.heap.size from hlt) _).set (show b < w.heap.size from hlt) _)

set_option maxHeartbeats 1000000 in
theorem anyValue_ok (b p : Nat) (w : World) (h : Rd w b p) (hp : p + 4 ≤ 1099511627776) :
    Calls Tryz.prog 77 #[.pointer (some ⟨b, 0, none⟩)] w fun e w' => ∃ v : Val, e = .returned (.agg #[.bool v.1, .int .i64 v.2]) ∧ (-10000 ≤ v.2 ∧ v.2 ≤ 10000) ∧ But b w w' ∧ Rd w' b (p + 4) := by
  have hlt := h.lt
  have HV := Lib.hid (fun (z : World) (hz : Below w.heap.size w z) => randomValue_ok b p z (h.on hz) (by omega))
  clear h
  go_enter Tryz.func77, Tryz.ntmps77
  go_wp2_with fail
  refine (HV.out _ (balloc (Below.refl _ _) _)).mono ?_
  rintro e w1 ⟨⟨v1, v2⟩, rfl, hv, hb1, hR1⟩
  have hrow := ((Row.new w 38 #[.bool false, .int .i64 0]).only hb1 (by omega))
  have hl1 := hrow.lt
  have HB := Lib.hid ((Only.refl w).alloc _ |>.trans hb1)
  have HP := Lib.hid (fun (z : World) (hz : Below w1.heap.size w1 z) => pick_ok b (p + 2) 14 z (hR1.on hz) (by omega))
  have HW := Lib.hid hrow
  have hvb : -9999 ≤ v2 ∧ v2 ≤ 9999 := by
    simp [vValid] at hv
    split at hv <;> omega
  have Hv := Lib.hid hvb
  clear hb1 hR1 hrow hv hvb
  dsimp only
  go_wp2_with fail
  refine (HP.out _ (balloc (Below.refl _ _) _)).mono ?_
  rintro e w2 ⟨r, rfl, hr, hb2, hsz, hR2⟩
  have hrow2 := (HW.out.alloc (.cells #[.bool v1, .int .i64 v2] 38)).only hb2 (by omega)
  have hrow3 := (Row.new w1 38 #[.bool v1, .int .i64 v2]).only hb2 (by omega)
  have HW2 := Lib.hid hrow2
  have c0 : w2.cell? ⟨w.heap.size, 0, none⟩ = some (.bool false) := hrow2.cell 0
  have c1 : w2.cell? ⟨w.heap.size, 1, none⟩ = some (.int .i64 0) := hrow2.cell 1
  have f0 := hrow2.frozen 0
  have f1 := hrow2.frozen 1
  have d0 : w2.cell? ⟨w1.heap.size, 0, none⟩ = some (.bool v1) := hrow3.cell 0
  have d1 : w2.cell? ⟨w1.heap.size, 1, none⟩ = some (.int .i64 v2) := hrow3.cell 1
  have hl2 := hrow3.lt
  have HB2 := Lib.hid ((HB.out.alloc (.cells #[.bool v1, .int .i64 v2] 38)).trans hb2)
  have HR2 := Lib.hid hR2
  clear hb2 hsz hR2 hrow2 hrow3 hr
  by_cases h0 : r = 0
  · subst h0
    go_wp2
    refine bodyPost_ret (v := .agg #[.bool true, .int .i64 1]) (by simp [results, Tryz.results77, go_sem, c0, c1]) rfl ⟨(true, 1), rfl, by decide, ?_, ?_⟩
    · exact (HB2.out.set (.inr (Nat.le_refl _)) _).set (.inr (Nat.le_refl _)) _
    · exact ((HR2.out.set (show b < w.heap.size from hlt) _).set (show b < w.heap.size from hlt) _).mono (by omega)
  · by_cases h1 : r = 1
    · subst h1
      have HO := Lib.hid (one_ok b (p + 3) (some ⟨w2.heap.size, 0, none⟩) 4 [10000, -10000, 9999, -9999] _ (HR2.out.on (balloc (Below.refl _ _) _)) (by omega) (by decide) (by decide) (ints5 w2 [10000, -10000, 9999, -9999] 3) (by rintro a ha; cases ha; exact (show w2.heap.size ≠ b by omega)))
      clear c0 c1 f0 f1
      go_wp2_with fail
      refine HO.out.mono ?_
      rintro e w3 ⟨r2, rfl, hr2, hb3, hsz, hR3⟩
      have hrow2 := (HW2.out.alloc (.cells ([10000, -10000, 9999, -9999].map (Value.int .i64)).toArray 3)).only hb3 (by omega)
      have c0 : w3.cell? ⟨w.heap.size, 0, none⟩ = some (.bool false) := hrow2.cell 0
      have c1 : w3.cell? ⟨w.heap.size, 1, none⟩ = some (.int .i64 0) := hrow2.cell 1
      have f0 := hrow2.frozen 0
      have f1 := hrow2.frozen 1
      have HB3 := Lib.hid ((HB2.out.alloc (.cells ([10000, -10000, 9999, -9999].map (Value.int .i64)).toArray 3)).trans hb3)
      have HR3 := Lib.hid hR3
      have Hr2 := Lib.hid hr2
      clear hb3 hsz hR3 hrow2 hr2
      go_wp2
      refine bodyPost_ret (v := .agg #[.bool false, .int .i64 r2]) (by simp [results, Tryz.results77, go_sem, c0, c1]) rfl ⟨(false, r2), rfl, ?_, ?_, ?_⟩
      · have := Hr2.out
        simp at this
        show -10000 ≤ r2 ∧ r2 ≤ 10000
        omega
      · exact (HB3.out.set (.inr (Nat.le_refl _)) _).set (.inr (Nat.le_refl _)) _
      · exact ((HR3.out.set (show b < w.heap.size from hlt) _).set (show b < w.heap.size from hlt) _)
    · go_wp2
      refine bodyPost_ret (v := .agg #[.bool v1, .int .i64 v2]) (by simp [results, Tryz.results77, go_sem, c0, c1]) rfl ⟨(v1, v2), rfl, ?_, ?_, ?_⟩
      · have := Hv.out
        show -10000 ≤ v2 ∧ v2 ≤ 10000
        omega
      · exact (HB2.out.set (.inr (Nat.le_refl _)) _).set (.inr (Nat.le_refl _)) _
      · exact ((HR2.out.set (show b < w.heap.size from hlt) _).set (show b < w.heap.size from hlt) _).mono (by omega)

def Small (x : Val) : Prop := -10000 ≤ x.2 ∧ x.2 ≤ 10000
end Go.Proofs.YtmhlpjfijpomkaaGreatDoor

/-
  Which expressions are valid: in plain Lean.
-/
namespace Go.Qo
set_option linter.unusedVariables false
set_option linter.unusedSimpArgs false

/-- The number of kids of a kind (as XKids says of both programs). -/
def kidsK (k : Int) : Int := if k = 1 ∨ k = 2 then 0 else if k = 10 ∨ k = 11 then 1 else if 3 ≤ k ∧ k ≤ 9 then 2 else -1
/-- What is asked of an expression's own cells. -/
def LocOk (width : Int) (e : Ex) : Prop :=
  if e.kind = 1 then (0 ≤ e.col ∧ e.col ≤ width - 1) ∧ e.val = (false, 0) else if e.kind = 2 then e.col = 0 ∧ vValid e.val = true else e.col = 0 ∧ e.val = (false, 0)
/-- Valid for rows of a width, with at most deep levels of kids. -/
inductive ExOk (width : Int) : Int → Ex → Prop where
  | mk {deep : Int} {e : Ex} (hk : (e.kids.length : Int) = kidsK e.kind) (hd : 0 < e.kids.length → deep ≠ 0) (hx : ∀ x, x ∈ e.kids → ExOk width (deep - 1) x) (hl : LocOk width e) : ExOk width deep e
theorem exOk_iff {width deep : Int} {e : Ex} : ExOk width deep e ↔ (e.kids.length : Int) = kidsK e.kind ∧ (0 < e.kids.length → deep ≠ 0) ∧ (∀ x ∈ e.kids, ExOk width (deep - 1) x) ∧ LocOk width e :=
  ⟨fun h => by cases h with | mk hk hd hx hl => exact ⟨hk, hd, hx, hl⟩, fun ⟨h1, h2, h3, h4⟩ => .mk h1 h2 h3 h4⟩
theorem ExOk.kids_le {width deep : Int} {e : Ex} (h : ExOk width deep e) : e.kids.length ≤ 2 := by
  have h1 := (exOk_iff.1 h).1
  unfold kidsK at h1
  split at h1
  · omega
  · split at h1
    · omega
    · split at h1 <;> omega
end Go.Qo

/-
  Contracts: how many kids a kind of expression has (reference's and program's).
-/
namespace Go.Proofs.YtmhlpjfijpomkaaGreatDoor
open Go.RowKit Go.Qo
set_option linter.unusedVariables false
set_option linter.unusedSimpArgs false

theorem kinds (k : Int) : k = 1 ∨ k = 2 ∨ k = 3 ∨ k = 4 ∨ k = 5 ∨ k = 6 ∨ k = 7 ∨ k = 8 ∨ k = 9 ∨ k = 10 ∨ k = 11 ∨ (¬ k = 1 ∧ ¬ k = 2 ∧ ¬ k = 3 ∧ ¬ k = 4 ∧ ¬ k = 5 ∧ ¬ k = 6 ∧ ¬ k = 7 ∧ ¬ k = 8 ∧ ¬ k = 9 ∧ ¬ k = 10 ∧ ¬ k = 11) := by omega
theorem kidsK_no {k : Int} (h : ¬ k = 1 ∧ ¬ k = 2 ∧ ¬ k = 3 ∧ ¬ k = 4 ∧ ¬ k = 5 ∧ ¬ k = 6 ∧ ¬ k = 7 ∧ ¬ k = 8 ∧ ¬ k = 9 ∧ ¬ k = 10 ∧ ¬ k = 11) : kidsK k = -1 := by
  unfold kidsK
  rw [if_neg (by omega), if_neg (by omega), if_neg (by omega)]

set_option maxHeartbeats 1000000 in
theorem kidsOf_ok (k : Int) (w : World) : Calls Tryz.prog 87 #[.int .i64 k] w fun e w' => e = .returned (.int .i64 (kidsK k)) ∧ w = w' := by
  rcases kinds k with rfl | rfl | rfl | rfl | rfl | rfl | rfl | rfl | rfl | rfl | rfl | h
  case inr.inr.inr.inr.inr.inr.inr.inr.inr.inr.inr =>
    rw [kidsK_no h]
    obtain ⟨h1, h2, h3, h4, h5, h6, h7, h8, h9, h10, h11⟩ := h
    go_enter Tryz.func87, Tryz.ntmps87
    go_wp2
    go_ret
    exact ⟨rfl, rfl⟩
  all_goals
    go_enter Tryz.func87, Tryz.ntmps87
    go_wp2
    go_ret
    exact ⟨rfl, rfl⟩
set_option maxHeartbeats 1000000 in
theorem kidsOfKind_ok (k : Int) (w : World) : Calls Tryz.prog 84 #[.int .i64 k] w fun e w' => e = .returned (.int .i64 (kidsK k)) ∧ w = w' := by
  rcases kinds k with rfl | rfl | rfl | rfl | rfl | rfl | rfl | rfl | rfl | rfl | rfl | h
  case inr.inr.inr.inr.inr.inr.inr.inr.inr.inr.inr =>
    rw [kidsK_no h]
    obtain ⟨h1, h2, h3, h4, h5, h6, h7, h8, h9, h10, h11⟩ := h
    go_enter Tryz.func84, Tryz.ntmps84
    go_wp2
    go_ret
    exact ⟨rfl, rfl⟩
  all_goals
    go_enter Tryz.func84, Tryz.ntmps84
    go_wp2
    go_ret
    exact ⟨rfl, rfl⟩
end Go.Proofs.YtmhlpjfijpomkaaGreatDoor

/-
  Contracts of the drawing of expressions: constant, randomExpr. (Printed by wip/gee.py.)
-/
namespace Go.Proofs.YtmhlpjfijpomkaaGreatDoor
open Go.RowKit Go.Qo
set_option linter.unusedVariables false
set_option linter.unusedSimpArgs false

theorem zeroExT : (Tryz.prog.info? 40).map (fun i => (i.zero, i.size, i.bytes)) = some (some (.agg #[.int .i64 0, .int .i64 0, .bool false, .int .i64 0, .slice none 0 0]), 5, 56) := by kernel_rfl

set_option maxHeartbeats 1000000 in
theorem constant_ok (v : Val) (w : World) : Calls Tryz.prog 104 #[.agg #[.bool v.1, .int .i64 v.2]] w fun e w' => e = .returned (feV ⟨2, 0, v, ⟨none, 0, 0⟩⟩) ∧ Below w.heap.size w w' := by
  unfold feV
  go_enter Tryz.func104, Tryz.ntmps104
  go_wp2
  refine bodyPost_ret (v := .agg #[.int .i64 2, .int .i64 0, .bool v.1, .int .i64 v.2, .slice none 0 0]) (by simp [results, Tryz.results104, go_sem]) rfl ⟨rfl, ?_⟩
  exact balloc (balloc (Below.refl _ _) _) _

def reC (d : Nat) : Nat := 6 * 2 ^ d - 1
def RE (d : Nat) : Prop := ∀ (b p : Nat) (width : Int) (w : World), Rd w b p → p + reC d ≤ 1099511627776 →
  Calls Tryz.prog 75 #[.pointer (some ⟨b, 0, none⟩), .int .i64 width, .int .i64 d] w (GotEx b (p + reC d) w)

set_option maxRecDepth 20000 in
set_option maxHeartbeats 4000000 in
/-- The walk, the kids' contract given. -/
theorem randomExpr_of (d : Nat) (hd : d ≤ 8) (ih : ∀ d', d = d' + 1 → RE d') : RE d := fun b p width w hR hp => by
  have hlt := hR.lt
  have hc5 : 5 ≤ reC d := by unfold reC; have := Nat.one_le_two_pow (n := d); omega
  have IH := Lib.hid ih
  have HP := Lib.hid (fun (z : World) (q : Nat) (n : Int) (hz : Rd z b q) (hq : q ≤ 1099511627776) => pick_ok b q n z hz hq)
  obtain ⟨W0, hW0⟩ : ∃ z, w.alloc (.cells #[.int .i64 0, .int .i64 0, .bool false, .int .i64 0, .slice none 0 0] 40) = z := ⟨_, rfl⟩
  have B0 : But b w W0 := by rw [← hW0]; exact (Only.refl w).alloc _
  have R0 : Rd W0 b p := by rw [← hW0]; exact hR.on (balloc (Below.refl _ _) _)
  have r0 : Row W0 w.heap.size 40 [.int .i64 0, .int .i64 0, .bool false, .int .i64 0, .slice none 0 0] := by rw [← hW0]; exact Row.new _ _ _
  have hsz0 : W0.heap.size = w.heap.size + 1 := by rw [← hW0]; simp
  have HW0 := Lib.hid hW0
  have HB0 := Lib.hid B0
  have HR0 := Lib.hid R0
  have Hr0 := Lib.hid r0
  have Hsz0 := Lib.hid hsz0
  clear hR ih hW0 B0 R0 r0 hsz0
  go_enter Tryz.func75, Tryz.ntmps75
  go_upto_region 1 with fail
  rw [HW0.out]
  go_wp2_with fail
  refine (HP.out W0 p 13 HR0.out (by omega)).mono ?_
  rintro e w1 ⟨k, rfl, hk, hb1, hsz1, hR1⟩
  have Hr1 := Lib.hid (Hr0.out.only hb1 (by omega))
  have HB1 := Lib.hid (HB0.out.trans hb1)
  have HR1 := Lib.hid hR1
  have Hs1 := Lib.hid (show w1.heap.size = w.heap.size + 1 by rw [← hsz1]; exact Hsz0.out)
  have hk0 := hk.1
  have hk13 := hk.2.1 (by omega)
  clear hb1 hsz1 hR1 hk
  by_cases hleaf : d = 0 ∨ 10 < k
  · have hcase : ((d : Int) == 0) = true ∨ (((d : Int) == 0) = false ∧ 10 < k) := by
      by_cases h0 : d = 0
      · exact .inl (by simp [h0])
      · exact .inr ⟨by simpa using h0, by omega⟩
    clear hleaf
    rcases hcase with hc | ⟨hc, hk10⟩
    all_goals
      go_wp2_with fail
      refine (HP.out w1 (p + 1) 3 HR1.out (by omega)).mono ?_
      rintro e w2 ⟨k2, rfl, hk2, hb2, hsz2, hR2⟩
      have Hr2 := Lib.hid (Hr1.out.only hb2 (by omega))
      have HB2 := Lib.hid (HB1.out.trans hb2)
      have HR2 := Lib.hid hR2
      have Hs2 := Lib.hid (show w2.heap.size = w.heap.size + 1 by rw [← hsz2]; exact Hs1.out)
      clear hb2 hsz2 hR2 hk2
      by_cases hk2 : 0 < k2
      · go_wp2_with fail
        refine (HP.out w2 (p + 2) width HR2.out (by omega)).mono ?_
        rintro e w3 ⟨k3, rfl, hk3, hb3, hsz3, hR3⟩
        have hr3 := Hr2.out.only hb3 (by omega)
        have HB3 := Lib.hid (HB2.out.trans hb3)
        have HR3 := Lib.hid hR3
        have hl3 := hr3.lt
        have c0 := hr3.cell 0
        have c1 := hr3.cell 1
        have c2 := hr3.cell 2
        have c3 := hr3.cell 3
        have c4 := hr3.cell 4
        have f0 := hr3.frozen 0
        have f1 := hr3.frozen 1
        have f2 := hr3.frozen 2
        have f3 := hr3.frozen 3
        have f4 := hr3.frozen 4
        clear hb3 hsz3 hR3 hk3 hr3
        go_wp2
        refine bodyPost_ret (v := feV ⟨1, k3, (false, 0), ⟨none, 0, 0⟩⟩) (by simp [results, Tryz.results75, go_sem, feV, c0, c1, c2, c3, c4]) rfl ⟨_, .mk 1 k3 (false, 0) [], rfl, ExT.leaf, ?_, ?_⟩
        · exact (HB3.out.step (set5 w3 w.heap.size _ _ _ _ _) fun i hi => .inr (by omega))
        · exact (HR3.out.apart (set5 w3 w.heap.size _ _ _ _ _) fun i hi => by omega).mono (by omega)
      · go_wp2_with fail
        refine (randomValue_ok b (p + 2) w2 HR2.out (by omega)).mono ?_
        rintro e w3 ⟨v, rfl, hv, hb3, hR3⟩
        have Hr3 := Lib.hid (Hr2.out.only hb3 (by omega))
        have HB3 := Lib.hid (HB2.out.trans hb3)
        have HR3 := Lib.hid hR3
        clear hb3 hR3 hv
        go_wp2_with fail
        refine (constant_ok v w3).mono ?_
        rintro e w4 ⟨rfl, hb4⟩
        have hr4 := Hr3.out.on hb4
        have HB4 := Lib.hid (HB3.out.below hb4)
        have HR4 := Lib.hid (HR3.out.on hb4)
        have hl4 := hr4.lt
        have c0 := hr4.cell 0
        have c1 := hr4.cell 1
        have c2 := hr4.cell 2
        have c3 := hr4.cell 3
        have c4 := hr4.cell 4
        have f0 := hr4.frozen 0
        have f1 := hr4.frozen 1
        have f2 := hr4.frozen 2
        have f3 := hr4.frozen 3
        have f4 := hr4.frozen 4
        unfold feV
        clear hb4 hr4
        go_wp2
        refine bodyPost_ret (v := feV ⟨2, 0, v, ⟨none, 0, 0⟩⟩) (by simp [results, Tryz.results75, go_sem, feV, c0, c1, c2, c3, c4]) rfl ⟨_, .mk 2 0 v [], rfl, ExT.leaf, ?_, ?_⟩
        · exact (HB4.out.step (set5 w4 w.heap.size _ _ _ _ _) fun i hi => .inr (by omega))
        · exact (HR4.out.apart (set5 w4 w.heap.size _ _ _ _ _) fun i hi => by omega).mono (by omega)
  · obtain ⟨d, rfl⟩ : ∃ d', d = d' + 1 := ⟨d - 1, by omega⟩
    have hc : ((d : Int) + 1 == 0) = false := by
      rw [beq_eq_false_iff_ne]
      omega
    have hk10 : ¬ 10 < k := by omega
    have IHd := Lib.hid (IH.out d rfl)
    obtain ⟨kd, hkd⟩ : ∃ kd : Int, 3 + k % 9 = kd := ⟨_, rfl⟩
    have hkr : 3 ≤ kd ∧ kd ≤ 11 := by omega
    have Hkd := Lib.hid hkd
    obtain ⟨n, hn, hn2⟩ : ∃ n : Nat, kidsK kd = n ∧ n ≤ 2 := by
      unfold kidsK
      rw [if_neg (by omega)]
      by_cases h1 : kd = 10 ∨ kd = 11
      · exact ⟨1, by rw [if_pos h1]; rfl, by omega⟩
      · exact ⟨2, by rw [if_neg h1, if_pos (by omega)]; rfl, by omega⟩
    have HKid := Lib.hid (fun z => kidsOf_ok kd z)
    rw [hn] at HKid
    obtain ⟨W2, hW2⟩ : ∃ z, w1.alloc (.cells #[.int .i64 kd, .int .i64 0, .bool false, .int .i64 0, .slice none 0 0] 40) = z := ⟨_, rfl⟩
    have r2 : Row W2 w1.heap.size 40 [.int .i64 kd, .int .i64 0, .bool false, .int .i64 0, .slice none 0 0] := by rw [← hW2]; exact Row.new _ _ _
    have Hr2 := Lib.hid r2
    have HB2 := Lib.hid (show But b w W2 by rw [← hW2]; exact HB1.out.alloc _)
    have HR2 := Lib.hid (show Rd W2 b (p + 1) by rw [← hW2]; exact HR1.out.on (balloc (Below.refl _ _) _))
    have Hr02 := Lib.hid (show Row W2 w.heap.size 40 [.int .i64 0, .int .i64 0, .bool false, .int .i64 0, .slice none 0 0] by rw [← hW2]; exact Hr1.out.alloc _)
    have HW2 := Lib.hid hW2
    have hrc : reC (d + 1) = 2 * reC d + 1 := by unfold reC; have := Nat.one_le_two_pow (n := d); rw [Nat.pow_succ]; omega
    have Hrc := Lib.hid hrc
    have hob : w1.heap.size = w.heap.size + 1 := Hs1.out
    obtain ⟨ob, hobe⟩ : ∃ ob, w1.heap.size = ob := ⟨_, rfl⟩
    rw [hobe] at hob Hr2
    have Hobe := Lib.hid hobe
    have hob1 : w.heap.size < ob := by omega
    have hob2 : ob < w.heap.size + 2 := by omega
    have Hob := Lib.hid (And.intro hob1 hob2)
    clear hleaf IH hkd hn r2 hW2 hrc hobe hob
    go_upto_region 7 with fail
    rw [Hkd.out]
    go_wp2
    rw [HW2.out, Hobe.out]
    go_loopg [10] n (fun g iv wr => ∃ (es : List Ex) (A : Option Addr) (c : Nat), g = n - es.length ∧ iv = .int .i64 es.length ∧ es.length ≤ n ∧ Kds (w.heap.size + 2) wr (.slice A es.length c) es ∧ Row wr ob 40 [.int .i64 kd, .int .i64 0, .bool false, .int .i64 0, .slice A es.length c] ∧ Row wr w.heap.size 40 [.int .i64 0, .int .i64 0, .bool false, .int .i64 0, .slice none 0 0] ∧ But b w wr ∧ Rd wr b (p + 1 + es.length * reC d))
    case atStart => exact ⟨[], none, 0, by simp, rfl, by simp, Kds.nil, Hr2.out, Hr02.out, HB2.out, by simpa using HR2.out⟩
    case round =>
      obtain ⟨es, A, c, rfl, rfl, hel, hkds, hrow, hrow0, hb, hR⟩ := hrel
      have HKd := Lib.hid hkds
      have Hrow := Lib.hid hrow
      have Hrow0 := Lib.hid hrow0
      have HB := Lib.hid hb
      have HRd := Lib.hid hR
      have hlo := hrow.lt
      have c4 : wr.cell? ⟨ob, 4, none⟩ = some (.slice A es.length c) := hrow.cell 4
      clear hkds hrow hrow0 hb hR
      by_cases hlt : es.length < n
      · have hltI : (es.length : Int) < (n : Int) := by omega
        have hpq : p + 1 + es.length * reC d + reC d ≤ 1099511627776 := by
          have h1 := Hrc.out
          have h2 : es.length * reC d ≤ 1 * reC d := Nat.mul_le_mul_right _ (by omega)
          omega
        go_wp2_with fail
        refine (HKid.out wr).mono ?_
        rintro e w' ⟨rfl, rfl⟩
        go_wp2
        have hbo : b ≠ ob := by omega
        have hdw : IntKind.i64.wrap (d : Int) = d := IntWalk.i64_in _ (by omega)
        have SB := Lib.hid (fun (z : World) (hz : But b wr z) => show z.cell? ⟨ob, 4, none⟩ = some (.slice A es.length c) from (Hrow.out.only hz (by omega)).cell 4)
        obtain ⟨u, hu⟩ : ∃ u, wr.drew = u := ⟨_, rfl⟩
        have Bu := Lib.hid (show But b wr u from hu ▸ (Only.refl wr).drew)
        have Ru := Lib.hid (show Rd u b (p + 1 + es.length * reC d) from hu ▸ HRd.out.on (Below.refl _ _).drew)
        have Hu := Lib.hid hu
        clear hu
        refine wp_region_g 10 (fun z => z.cell? ⟨ob, 4, none⟩ = some (.slice A es.length c)) (by kernel_rfl) ?_ (fun hHeld => ?_)
        · exact SB.out _ (Only.refl wr).drew
        rw [Hu.out] at hHeld ⊢
        refine takeG (i := 0) (v := ?v1) rfl (by kernel_rfl) (by kernel_rfl) (by kernel_rfl) (by kernel_rfl) (fun _ _ _ h => h) (Or.inl ⟨by rfl, ?hy1⟩) (by assumption) ?_
        case hy1 => ((intro w' hSw; (try dsimp only at hSw); go_simp) <;> with_reducible rfl)
        try simp only [Act.put, List.setIfInBounds_toArray, List.set_cons_zero, List.set_cons_succ]
        refine takeG (i := 1) (v := ?v2) rfl (by kernel_rfl) (by kernel_rfl) (by kernel_rfl) (by kernel_rfl) (fun _ _ _ h => h) (Or.inl ⟨by rfl, ?hy2⟩) (by assumption) ?_
        case hy2 => ((intro w' hSw; (try dsimp only at hSw); go_simp) <;> with_reducible rfl)
        try simp only [Act.put, List.setIfInBounds_toArray, List.set_cons_zero, List.set_cons_succ]
        refine takeG (i := 2) (v := ?v3) rfl (by kernel_rfl) (by kernel_rfl) (by kernel_rfl) (by kernel_rfl) (fun _ _ _ h => h) (Or.inl ⟨by rfl, ?hy3⟩) (by assumption) ?_
        case hy3 => ((intro w' hSw; (try dsimp only at hSw); go_simp) <;> with_reducible rfl)
        try simp only [Act.put, List.setIfInBounds_toArray, List.set_cons_zero, List.set_cons_succ]
        refine takeG (i := 3) (v := ?v4) rfl (by kernel_rfl) (by kernel_rfl) (by kernel_rfl) (by kernel_rfl) (fun _ _ _ h => h) (Or.inl ⟨by rfl, ?hy4⟩) (by assumption) ?_
        case hy4 => ((intro w' hSw; (try dsimp only at hSw); go_simp) <;> with_reducible rfl)
        try simp only [Act.put, List.setIfInBounds_toArray, List.set_cons_zero, List.set_cons_succ]
        refine takeG (i := 4) (v := ?v5) rfl (by kernel_rfl) (by kernel_rfl) (by kernel_rfl) (by kernel_rfl) (fun _ _ _ h => h) (Or.inl ⟨by rfl, ?hy5⟩) (by assumption) ?_
        case hy5 => ((intro w' hSw; (try dsimp only at hSw); go_simp) <;> with_reducible rfl)
        try simp only [Act.put, List.setIfInBounds_toArray, List.set_cons_zero, List.set_cons_succ]
        refine takeG (i := 5) (v := ?v6) rfl (by kernel_rfl) (by kernel_rfl) (by kernel_rfl) (by kernel_rfl) (fun _ _ _ h => h) (Or.inl ⟨by rfl, ?hy6⟩) (by assumption) ?_
        case hy6 => ((intro w' hSw; (try dsimp only at hSw); go_simp) <;> with_reducible rfl)
        try simp only [Act.put, List.setIfInBounds_toArray, List.set_cons_zero, List.set_cons_succ]
        refine wpAnyG_ready (rs := [6]) (by kernel_rfl) (by simp) ?_
        refine readyG rfl (fun K hK => ?_) AllReadyG.nil
        go_simp
        go_at_call 75
        refine (IHd.out b _ width u Ru.out hpq).mono ?_
        rintro e u1 ⟨f, x, rfl, hx, hb1, hR1⟩
        have B1 := Lib.hid (Bu.out.trans hb1)
        have R1 := Lib.hid hR1
        have X1 := Lib.hid hx
        have hz0 := Bu.out.size
        have hz1 := hb1.size
        unfold feV
        clear hb1 hR1 hx
        refine hK.out _ _ ?hS7 (fun hHeld => ?_)
        case hS7 => exact fun _ => SB.out _ B1.out
        replace hHeld := hHeld (by decide)
        clear hK K
        try simp only [Act.put, List.setIfInBounds_toArray, List.set_cons_zero, List.set_cons_succ]
        refine wpAnyG_ready (rs := [7]) (by kernel_rfl) (by simp) ?_
        refine readyG rfl (fun K hK => ?_) AllReadyG.nil
        obtain ⟨u2, hu2⟩ : ∃ z, u1.alloc (.cells #[.int .i64 f.kind, .int .i64 f.col, .bool f.val.1, .int .i64 f.val.2, .slice f.sv.A f.sv.n f.sv.c] 40) = z := ⟨_, rfl⟩
        have hb2 : Below u1.heap.size u1 u2 := by rw [← hu2]; exact balloc (Below.refl _ _) _
        have hz2 : u2.heap.size = u1.heap.size + 1 := by rw [← hu2]; simp
        have S2 := Lib.hid (show Sl 5 feC u2 u2.heap.size (some ⟨u1.heap.size, 0, none⟩) [f] by rw [← hu2]; exact Row.sl' (t := 40) feC_length ((Row.new u1 _ _).of rfl))
        have B2 := Lib.hid (B1.out.below hb2)
        have R2 := Lib.hid (R1.out.on hb2)
        have X2 := Lib.hid (X1.out.keep hb2.size fun k _ hl => hb2.block k hl)
        go_simp
        try rw [hu2]
        have Hu2 := Lib.hid hu2
        clear hu2 hb2
        refine hK.out _ _ ?hS8 (fun hHeld => ?_)
        case hS8 => exact fun _ => SB.out _ B2.out
        replace hHeld := hHeld (by decide)
        clear hK K
        try simp only [Act.put, List.setIfInBounds_toArray, List.set_cons_zero, List.set_cons_succ]
        refine wpAnyG_ready (rs := [8]) (by kernel_rfl) (by simp) ?_
        refine readyG rfl (fun K hK => ?_) AllReadyG.nil
        obtain ⟨fs, hfl, how, hfx⟩ := HKd.out.only B2.out (fun i hi => by omega)
        rw [← hfl]
        have hfl2 : fs.length ≤ 2 := by omega
        rw [← hfl] at how
        have X3 := Lib.hid (X2.out.mono (T := fun k => w.heap.size + 2 ≤ k ∧ (Value.slice A fs.length c).ownBlock ≠ some k) fun k hk1 hk => by
          refine ⟨by omega, fun e => ?_⟩
          obtain ⟨fs', hfl', how', _⟩ := HKd.out
          rw [hfl] at e
          have := (how'.ty k e).2.1
          omega)
        refine step_app2 rfl (.tmp 41) (.tmp 47) 23 rfl (w.heap.size + 2) 40 _ 5 56 feC Tryz.underlying23 zeroExT rfl (by decide) (by decide) feC_length feC_one _ fs rfl how (some ⟨u1.heap.size, 0, none⟩) 1 1 [f] rfl rfl S2.out (by simp; omega) (by omega) ?_
        intro v' u3 hown hgr hob3
        have K3 := Kds.snoc hfl (fun i g y hg hy => by rw [hfl]; exact hfx i g y hg hy) X3.out hown hgr hob3
        obtain ⟨A3, c3, rfl, hc31, hc32⟩ := K3.shape
        have hgo : ∀ k, (Value.slice A fs.length c).ownBlock = some k → w.heap.size + 2 ≤ k := fun k hk => (how.ty k hk).1
        have rr := Hrow.out.only B2.out (show ob ≠ b by omega)
        have hkob : u3.heap[ob]? = u2.heap[ob]? := hgr.block ob rr.lt fun e => by have := hgo ob e.symm; omega
        have r3 := rr.keep hkob
        have rr0 := Hrow0.out.only B2.out (show w.heap.size ≠ b by omega)
        have hkrb : u3.heap[w.heap.size]? = u2.heap[w.heap.size]? := hgr.block w.heap.size rr0.lt fun e => by have := hgo w.heap.size e.symm; omega
        have r03 := Lib.hid (rr0.keep hkrb)
        have C3 : u3.cell? ⟨ob, 4, none⟩ = some (.slice A es.length c) := r3.cell 4
        have F3 := r3.frozen 4
        have R3 := Lib.hid (R2.out.grown hgr fun k hk => by have := hgo k hk; omega)
        have B3 := Lib.hid ((HB.out.trans B2.out).grown hgr fun k hk => .inr (by have := hgo k hk; omega))
        have Hr3 := Lib.hid r3
        have K3' := Lib.hid K3
        have hl3 := r3.lt
        clear K3 hown hgr hob3 hgo rr hkob r3 rr0 hkrb how hfx
        refine hK.out _ _ ?hS9 (fun hHeld => ?_)
        case hS9 => exact fun _ => C3
        replace hHeld := hHeld (by decide)
        clear hK K
        try simp only [Act.put, List.setIfInBounds_toArray, List.set_cons_zero, List.set_cons_succ]
        refine takeG (i := 9) (v := ?v10) rfl (by kernel_rfl) (by kernel_rfl) (by kernel_rfl) (by kernel_rfl) (fun _ _ _ h => h) (Or.inl ⟨by rfl, ?hy10⟩) (by assumption) ?_
        case hy10 => ((intro w' hSw; (try dsimp only at hSw); go_simp) <;> with_reducible rfl)
        try simp only [Act.put, List.setIfInBounds_toArray, List.set_cons_zero, List.set_cons_succ]
        refine wpAnyG_ready (rs := [10]) (by kernel_rfl) (by simp) ?_
        refine readyG rfl (fun K hK => ?_) AllReadyG.nil
        go_simp
        refine hK.out _ _ ?hS11 (fun hHeld => ?_)
        case hS11 => exact fun h => absurd rfl h
        clear hK K
        try simp only [Act.put, List.setIfInBounds_toArray, List.set_cons_zero, List.set_cons_succ]
        refine wpAnyG_done (by kernel_rfl) ?_ _
        go_wp2
        go_roundg (n - (es.length + 1))
        case measure => omega
        case rel =>
          obtain ⟨hob1, hob2⟩ := Hob.out
          have hso := Only.set (S := fun k => k = ob) (p := ⟨ob, 4, none⟩) (Only.refl u3) (.inl rfl) (.slice A3 (es.length + 1) c3)
          have k4 := K3'.out
          have K4 := k4.only hso (fun i (hi : i = ob) => show i < w.heap.size + 2 by subst hi; exact hob2)
          refine ⟨es ++ [x], A3, c3, by simp, by simp, by simp; omega, K4, (Hr3.out.set 4 _).of (by simp), r03.out.only hso (show ¬ w.heap.size = ob by omega), B3.out.set (.inr (by show w.heap.size ≤ ob; omega)) _, ?_⟩
          have h1 := R3.out.set (a := ⟨ob, 4, none⟩) (show b < ob by omega) (.slice A3 (es.length + 1) c3)
          refine h1.mono ?_
          simp [Nat.add_mul]
          omega
      · go_wp2_with fail
        refine (HKid.out wr).mono ?_
        rintro e w' ⟨rfl, rfl⟩
        have hr := Hrow.out
        have hr0 := Hrow0.out
        have a0 := hr.cell 0
        have a1 := hr.cell 1
        have a2 := hr.cell 2
        have a3 := hr.cell 3
        have hl0 := hr0.lt
        have c0 := hr0.cell 0
        have c1 := hr0.cell 1
        have c2 := hr0.cell 2
        have c3 := hr0.cell 3
        have c4' := hr0.cell 4
        have f0 := hr0.frozen 0
        have f1 := hr0.frozen 1
        have f2 := hr0.frozen 2
        have f3 := hr0.frozen 3
        have f4 := hr0.frozen 4
        have hltI : ¬ (es.length : Int) < (n : Int) := by omega
        clear hr hr0
        go_wp2
        refine bodyPost_ret (v := feV ⟨kd, 0, (false, 0), ⟨A, es.length, c⟩⟩) (by simp [results, Tryz.results75, go_sem, feV, c0, c1, c2, c3, c4']) rfl ⟨_, .mk kd 0 (false, 0) es, rfl, ?_, ?_, ?_⟩
        · obtain ⟨A', c', hv, hc1, hc2⟩ := HKd.out.shape
          cases hv
          refine (ExT.make (HKd.out.exs.mono fun k _ hk => show w.heap.size < k by omega) rfl hc1 hc2 |>.keep (set5 wr w.heap.size _ _ _ _ _).size fun k hk hl => (set5 wr w.heap.size _ _ _ _ _).block k hl (by omega)).mono fun k _ hk => by omega
        · exact (HB.out.step (set5 wr w.heap.size _ _ _ _ _) fun i hi => .inr (by omega))
        · refine (HRd.out.apart (set5 wr w.heap.size _ _ _ _ _) fun i hi => by omega).mono ?_
          have h1 := Hrc.out
          have h2 : es.length * reC d ≤ 2 * reC d := Nat.mul_le_mul_right _ (by omega)
          omega

theorem randomExpr_ok : ∀ d : Nat, d ≤ 8 → RE d := fun d => by
  induction d with
  | zero => exact fun h => randomExpr_of 0 h fun d' e => by cases e
  | succ d ih => exact fun h => randomExpr_of (d + 1) h fun d' e => by cases e; exact ih (by omega)
end Go.Proofs.YtmhlpjfijpomkaaGreatDoor

/-
  Contracts of the drawing of conditions: condition, randomCondition. (Printed by wip/gec.py.)
-/
namespace Go.Proofs.YtmhlpjfijpomkaaGreatDoor
open Go.RowKit Go.Qo
set_option linter.unusedVariables false
set_option linter.unusedSimpArgs false

theorem exs_lit1 {S : Nat → Prop} {w : World} {f : FE} {x : Ex} (hx : ExT S w f x) (cs : Array Value) (hcs : cs.toList = feC f) (hS : S w.heap.size) (t : TypeId) : ExsT S (w.alloc (.cells cs t)) (some ⟨w.heap.size, 0, none⟩) [x] := by
  have hb := balloc (Below.refl w.heap.size w) (.cells cs t)
  refine ⟨[f], rfl, Row.slS (t := t) feC_length ((Row.new w t cs).of (by rw [hcs]; simp)) hS, fun i g y hg hy => ?_⟩
  have hk : ExT S (w.alloc (.cells cs t)) f x := hx.keep hb.size fun b _ hl => hb.block b hl
  cases i with
  | zero => simp at hg hy; subst hg hy; exact hk
  | succ i => simp at hg
theorem exs_lit2 {S : Nat → Prop} {w : World} {f f' : FE} {x x' : Ex} (hx : ExT S w f x) (hx' : ExT S w f' x') (cs : Array Value) (hcs : cs.toList = feC f ++ feC f') (hS : S w.heap.size) (t : TypeId) : ExsT S (w.alloc (.cells cs t)) (some ⟨w.heap.size, 0, none⟩) [x, x'] := by
  have hb := balloc (Below.refl w.heap.size w) (.cells cs t)
  refine ⟨[f, f'], rfl, Row.slS (t := t) feC_length ((Row.new w t cs).of (by rw [hcs]; simp)) hS, fun i g y hg hy => ?_⟩
  have hk : ExT S (w.alloc (.cells cs t)) f x := hx.keep hb.size fun b _ hl => hb.block b hl
  have hk' : ExT S (w.alloc (.cells cs t)) f' x' := hx'.keep hb.size fun b _ hl => hb.block b hl
  cases i with
  | zero => simp at hg hy; subst hg hy; exact hk
  | succ i => cases i with
    | zero => simp at hg hy; subst hg hy; exact hk'
    | succ i => simp at hg
/-- What is handed back from a box of the call's own: the tree beside the box. -/
theorem gotEx_of {b p : Nat} {w wx : World} {f : FE} {x : Ex} (hx : ExT (fun k => w.heap.size < k) wx f x) (hb : But b w wx) (hR : Rd wx b p) (hlt : b < w.heap.size) (v0 v1 v2 v3 v4 : Value) {e : Ending} (he : e = .returned (feV f)) :
    GotEx b p w e (((((wx.setCell ⟨w.heap.size, 0, none⟩ v0).setCell ⟨w.heap.size, 1, none⟩ v1).setCell ⟨w.heap.size, 2, none⟩ v2).setCell ⟨w.heap.size, 3, none⟩ v3).setCell ⟨w.heap.size, 4, none⟩ v4) := by
  have hs := set5 wx w.heap.size v0 v1 v2 v3 v4
  exact ⟨f, x, he, (hx.keep hs.size fun k hk hl => hs.block k hl (by omega)).mono fun k _ hk => Nat.le_of_lt hk, hb.step hs fun i hi => .inr (by omega), hR.apart hs fun i hi => by omega⟩

def coC (d : Nat) : Nat := 30 * (d + 1)
def CO (d : Nat) : Prop := ∀ (b p : Nat) (width : Int) (w : World), Rd w b p → p + coC d ≤ 1099511627776 →
  Calls Tryz.prog 138 #[.pointer (some ⟨b, 0, none⟩), .int .i64 width, .int .i64 d] w (GotEx b (p + coC d) w)

set_option maxRecDepth 20000 in
set_option maxHeartbeats 8000000 in
theorem condition_of (d : Nat) (hd : d ≤ 8) (ih : ∀ d', d = d' + 1 → CO d') : CO d := fun b p width w hR hp => by
  have hlt := hR.lt
  have hcd : 30 ≤ coC d := by unfold coC; omega
  have IH := Lib.hid ih
  have HP := Lib.hid (fun (z : World) (q : Nat) (n : Int) (hz : Rd z b q) (hq : q ≤ 1099511627776) => pick_ok b q n z hz hq)
  obtain ⟨W0, hW0⟩ : ∃ z, w.alloc (.cells #[.int .i64 0, .int .i64 0, .bool false, .int .i64 0, .slice none 0 0] 40) = z := ⟨_, rfl⟩
  have B0 : But b w W0 := by rw [← hW0]; exact (Only.refl w).alloc _
  have R0 : Rd W0 b p := by rw [← hW0]; exact hR.on (balloc (Below.refl _ _) _)
  have r0 : Row W0 w.heap.size 40 [.int .i64 0, .int .i64 0, .bool false, .int .i64 0, .slice none 0 0] := by rw [← hW0]; exact Row.new _ _ _
  have HW0 := Lib.hid hW0
  have HB0 := Lib.hid B0
  have HR0 := Lib.hid R0
  have Hr0 := Lib.hid r0
  clear hR ih hW0 B0 R0 r0
  go_enter Tryz.func138, Tryz.ntmps138
  go_upto_region 1 with fail
  rw [HW0.out]
  go_wp2_with fail
  refine (HP.out W0 p width HR0.out (by omega)).mono ?_
  rintro e w1 ⟨k1, rfl, hk1, hb1, hsz1, hR1⟩
  have hr1 := Hr0.out.only hb1 (by omega)
  have hl1 := hr1.lt
  obtain ⟨W2, hW2⟩ : ∃ z, w1.alloc (.cells #[.int .i64 1, .int .i64 k1, .bool false, .int .i64 0, .slice none 0 0] 40) = z := ⟨_, rfl⟩
  obtain ⟨cb, hcb⟩ : ∃ n, w1.heap.size = n := ⟨_, rfl⟩
  have Hc2 := Lib.hid (show Row W2 cb 40 (feC ⟨1, k1, (false, 0), ⟨none, 0, 0⟩⟩) by rw [← hW2, ← hcb]; exact Row.new _ _ _)
  have Hr2 := Lib.hid (show Row W2 w.heap.size 40 [.int .i64 0, .int .i64 0, .bool false, .int .i64 0, .slice none 0 0] by rw [← hW2]; exact hr1.alloc _)
  have HB2 := Lib.hid (show But b w W2 by rw [← hW2]; exact (HB0.out.trans hb1).alloc _)
  have HR2 := Lib.hid (show Rd W2 b (p + 1) by rw [← hW2]; exact hR1.on (balloc (Below.refl _ _) _))
  have hcb1 : w.heap.size < cb := by omega
  have HW2 := Lib.hid hW2
  have Hcb := Lib.hid hcb
  clear hk1 hb1 hsz1 hR1 hr1 hW2 hcb
  go_upto_region 2 with fail
  rw [HW2.out, Hcb.out]
  go_wp2_with fail
  refine (HP.out W2 (p + 1) 4 HR2.out (by omega)).mono ?_
  rintro e w3 ⟨k2, rfl, hk2, hb3, hsz3, hR3⟩
  go_wp2_with fail
  refine (constant_ok (false, k2) w3).mono ?_
  rintro e w4 ⟨rfl, hb4⟩
  have hc4 := (Hc2.out.only hb3 (by omega)).on hb4
  have hr4 := (Hr2.out.only hb3 (by omega)).on hb4
  have hl4 := hc4.lt
  unfold feV
  obtain ⟨W5, hW5⟩ : ∃ z, w4.alloc (.cells #[.int .i64 2, .int .i64 0, .bool false, .int .i64 k2, .slice none 0 0] 40) = z := ⟨_, rfl⟩
  obtain ⟨ob, hob⟩ : ∃ n, w4.heap.size = n := ⟨_, rfl⟩
  have Ho5 := Lib.hid (show Row W5 ob 40 (feC ⟨2, 0, (false, k2), ⟨none, 0, 0⟩⟩) by rw [← hW5, ← hob]; exact Row.new _ _ _)
  have Hc5 := Lib.hid (show Row W5 cb 40 (feC ⟨1, k1, (false, 0), ⟨none, 0, 0⟩⟩) by rw [← hW5]; exact hc4.alloc _)
  have Hr5 := Lib.hid (show Row W5 w.heap.size 40 [.int .i64 0, .int .i64 0, .bool false, .int .i64 0, .slice none 0 0] by rw [← hW5]; exact hr4.alloc _)
  have HB5 := Lib.hid (show But b w W5 by rw [← hW5]; exact ((HB2.out.trans hb3).below hb4).alloc _)
  have HR5 := Lib.hid (show Rd W5 b (p + 2) by rw [← hW5]; exact (hR3.on hb4).on (balloc (Below.refl _ _) _))
  have hob1 : cb < ob := by omega
  have HW5 := Lib.hid hW5
  have Hob := Lib.hid hob
  clear hk2 hb3 hsz3 hR3 hb4 hc4 hr4 hW5 hob hl4
  go_upto_region 3 with fail
  rw [HW5.out, Hob.out]
  go_wp2_with fail
  refine (HP.out W5 (p + 2) 3 HR5.out (by omega)).mono ?_
  rintro e w6 ⟨k3, rfl, hk3, hb6, hsz6, hR6⟩
  have Ho6 := Lib.hid (Ho5.out.only hb6 (by omega))
  have Hc6 := Lib.hid (Hc5.out.only hb6 (by omega))
  have Hr6 := Lib.hid (Hr5.out.only hb6 (by omega))
  have HB6 := Lib.hid (HB5.out.trans hb6)
  have HR6 := Lib.hid hR6
  have Hnum := Lib.hid (And.intro hlt (And.intro hcb1 hob1))
  clear hk3 hb6 hsz6 hR6
  go_upto_if 20 with fail
  go_cut [] (fun wx => ∃ f2 : FE, f2.sv = ⟨none, 0, 0⟩ ∧ Row wx ob 40 (feC f2) ∧ Row wx cb 40 (feC ⟨1, k1, (false, 0), ⟨none, 0, 0⟩⟩) ∧ Row wx w.heap.size 40 [.int .i64 0, .int .i64 0, .bool false, .int .i64 0, .slice none 0 0] ∧ But b w wx ∧ Rd wx b (p + 4))
  case first =>
    by_cases h3 : k3 = 0
    · subst h3
      go_wp2_with fail
      refine (HP.out w6 (p + 3) width HR6.out (by omega)).mono ?_
      rintro e w7 ⟨k5, rfl, hk5, hb7, hsz7, hR7⟩
      have ho7 := Ho6.out.only hb7 (by omega)
      have Hc7 := Lib.hid (Hc6.out.only hb7 (by omega))
      have Hr7 := Lib.hid (Hr6.out.only hb7 (by omega))
      have HB7 := Lib.hid (HB6.out.trans hb7)
      have HR7 := Lib.hid hR7
      have HO7 := Lib.hid ho7
      have hl7 := ho7.lt
      have c0 : w7.cell? ⟨ob, 0, none⟩ = some (.int .i64 2) := ho7.cell 0
      have c1 : w7.cell? ⟨ob, 1, none⟩ = some (.int .i64 0) := ho7.cell 1
      have c2 : w7.cell? ⟨ob, 2, none⟩ = some (.bool false) := ho7.cell 2
      have c3 : w7.cell? ⟨ob, 3, none⟩ = some (.int .i64 k2) := ho7.cell 3
      have c4 : w7.cell? ⟨ob, 4, none⟩ = some (.slice none 0 0) := ho7.cell 4
      have f0 := ho7.frozen 0
      have f1 := ho7.frozen 1
      have f2 := ho7.frozen 2
      have f3 := ho7.frozen 3
      have f4 := ho7.frozen 4
      clear hk5 hb7 hsz7 hR7 ho7
      go_wp2
      go_meet
      have hs := set5 w7 ob (.int .i64 1) (.int .i64 k5) (.bool false) (.int .i64 0) (.slice none 0 0)
      obtain ⟨n1, n2, n3⟩ := Hnum.out
      refine ⟨⟨1, k5, (false, 0), ⟨none, 0, 0⟩⟩, rfl, ((((HO7.out.set 0 _).set 1 _).set 2 _).set 3 _).set 4 _, Hc7.out.only hs (show ¬ cb = ob by omega), Hr7.out.only hs (show ¬ w.heap.size = ob by omega), HB7.out.step hs (fun i (hi : i = ob) => .inr (by omega)), HR7.out.apart hs (fun i (hi : i = ob) => by omega)⟩
    · have h3' : (k3 == 0) = false := by simpa using h3
      clear h3
      go_wp2
      go_meet
      exact ⟨⟨2, 0, (false, k2), ⟨none, 0, 0⟩⟩, rfl, Ho6.out, Hc6.out, Hr6.out, HB6.out, HR6.out.mono (by omega)⟩
  case rest =>
    obtain ⟨f2, hf2, hox, hcx, hrx, hbx, hRx⟩ := hcut
    have Hox := Lib.hid hox
    have Hcx := Lib.hid hcx
    have Hrx := Lib.hid hrx
    have HBx := Lib.hid hbx
    have HRx := Lib.hid hRx
    have Hf2 := Lib.hid hf2
    clear hox hcx hrx hbx hRx hf2
    have HPc := Lib.hid (HP.out wc (p + 4) 8 HRx.out (by omega))
    go_wp2_with fail
    refine HPc.out.mono ?_
    rintro e w9 ⟨k, rfl, hk, hb9, hsz9, hR9⟩
    have ho9 := Hox.out.only hb9 (by have := Hnum.out; omega)
    have hc9 := Hcx.out.only hb9 (by have := Hnum.out; omega)
    have hr9 := Hrx.out.only hb9 (by omega)
    have HB9 := Lib.hid (HBx.out.trans hb9)
    have HR9 := Lib.hid hR9
    have hlo := ho9.lt
    have hlc := hc9.lt
    have hlr := hr9.lt
    have hf2 := Hf2.out
    obtain ⟨fk, fc, fv, fs⟩ := f2
    obtain rfl : fs = ⟨none, 0, 0⟩ := hf2
    have Ho9 := Lib.hid ho9
    have Hc9 := Lib.hid hc9
    have Hr9 := Lib.hid hr9
    have o0 : w9.cell? ⟨ob, 0, none⟩ = some (.int .i64 fk) := ho9.cell 0
    have o1 : w9.cell? ⟨ob, 1, none⟩ = some (.int .i64 fc) := ho9.cell 1
    have o2 : w9.cell? ⟨ob, 2, none⟩ = some (.bool fv.1) := ho9.cell 2
    have o3 : w9.cell? ⟨ob, 3, none⟩ = some (.int .i64 fv.2) := ho9.cell 3
    have o4 : w9.cell? ⟨ob, 4, none⟩ = some (.slice none 0 0) := ho9.cell 4
    have d0 : w9.cell? ⟨cb, 0, none⟩ = some (.int .i64 1) := hc9.cell 0
    have d1 : w9.cell? ⟨cb, 1, none⟩ = some (.int .i64 k1) := hc9.cell 1
    have d2 : w9.cell? ⟨cb, 2, none⟩ = some (.bool false) := hc9.cell 2
    have d3 : w9.cell? ⟨cb, 3, none⟩ = some (.int .i64 0) := hc9.cell 3
    have d4 : w9.cell? ⟨cb, 4, none⟩ = some (.slice none 0 0) := hc9.cell 4
    have c0 : w9.cell? ⟨w.heap.size, 0, none⟩ = some (.int .i64 0) := hr9.cell 0
    have c1 : w9.cell? ⟨w.heap.size, 1, none⟩ = some (.int .i64 0) := hr9.cell 1
    have c2 : w9.cell? ⟨w.heap.size, 2, none⟩ = some (.bool false) := hr9.cell 2
    have c3 : w9.cell? ⟨w.heap.size, 3, none⟩ = some (.int .i64 0) := hr9.cell 3
    have c4 : w9.cell? ⟨w.heap.size, 4, none⟩ = some (.slice none 0 0) := hr9.cell 4
    have f0 := hr9.frozen 0
    have f1 := hr9.frozen 1
    have f2 := hr9.frozen 2
    have f3 := hr9.frozen 3
    have f4 := hr9.frozen 4
    have hk0 := hk.1
    have hk8 := hk.2.1 (by omega)
    have XC := Lib.hid (fun (z : World) => show ExT (fun k => w.heap.size < k) z ⟨1, k1, (false, 0), ⟨none, 0, 0⟩⟩ (.mk 1 k1 (false, 0) []) from ExT.leaf)
    have XO := Lib.hid (fun (z : World) => show ExT (fun k => w.heap.size < k) z ⟨fk, fc, fv, ⟨none, 0, 0⟩⟩ (.mk fk fc fv []) from ExT.leaf)
    have hp5 : p + 4 + 1 ≤ p + coC d := by omega
    clear hk hb9 hsz9 hR9 ho9 hc9 hr9
    have h7 : k = 0 ∨ k = 1 ∨ (k = 2 ∧ 0 < d) ∨ (k = 2 ∧ d = 0) ∨ k = 3 ∨ k = 4 ∨ k = 5 ∨ (¬ k = 0 ∧ ¬ k = 1 ∧ ¬ k = 2 ∧ ¬ k = 3 ∧ ¬ k = 4 ∧ ¬ k = 5) := by omega
    clear hk0 hk8
    rcases h7 with rfl | rfl | ⟨rfl, hdp⟩ | ⟨rfl, rfl⟩ | rfl | rfl | rfl | ⟨n0, n1, n2, n3, n4, n5⟩
    · have HRE := Lib.hid (randomExpr_ok 2 (by omega) b (p + 4 + 1) width w9 HR9.out (by unfold reC; omega))
      have e2 : ((2 : Nat) : Int) = 2 := rfl
      rw [e2] at HRE
      clear e2
      go_wp2_with fail
      refine HRE.out.mono ?_
      rintro e w10 ⟨f, x, rfl, hx, hb10, hR10⟩
      have hr10 := Hr9.out.only hb10 (by omega)
      have hl10 := hr10.lt
      have c0 := hr10.cell 0
      have c1 := hr10.cell 1
      have c2 := hr10.cell 2
      have c3 := hr10.cell 3
      have c4 := hr10.cell 4
      have f0 := hr10.frozen 0
      have f1 := hr10.frozen 1
      have f2 := hr10.frozen 2
      have f3 := hr10.frozen 3
      have f4 := hr10.frozen 4
      have H10 := Lib.hid (And.intro hx (And.intro hb10 hR10))
      clear hx hb10 hR10 hr10
      unfold feV
      go_wp2
      refine bodyPost_ret (v := feV f) (by simp [results, Tryz.results138, go_sem, feV, c0, c1, c2, c3, c4]) rfl ?_
      exact gotEx_of (H10.out.1.mono fun k _ hk => by omega) (HB9.out.trans H10.out.2.1) (H10.out.2.2.mono (by unfold reC; omega)) hlt _ _ _ _ _ rfl
    · obtain ⟨Z, hZ⟩ : ∃ z, (((((w9.setCell ⟨w.heap.size, 0, none⟩ (.int .i64 10)).setCell ⟨w.heap.size, 1, none⟩ (.int .i64 0)).setCell ⟨w.heap.size, 2, none⟩ (.bool false)).setCell ⟨w.heap.size, 3, none⟩ (.int .i64 0)).setCell ⟨w.heap.size, 4, none⟩ (.slice (some ⟨w9.heap.size + 1, 0, none⟩) 1 1)) = z := ⟨_, rfl⟩
      have hZs : Only (fun k => k = w.heap.size) w9 Z := by rw [← hZ]; exact set5 _ _ _ _ _ _ _
      have v0r : Row Z w.heap.size 40 [.int .i64 10, .int .i64 0, .bool false, .int .i64 0, .slice (some ⟨w9.heap.size + 1, 0, none⟩) 1 1] := by rw [← hZ]; exact ((((Hr9.out.set 0 _).set 1 _).set 2 _).set 3 _).set 4 _
      have zs : Z.heap.size = w9.heap.size := by rw [← hZ]; simp [World.setCell]
      obtain ⟨V1, hV1⟩ : ∃ z, Z.alloc (.cells #[.int .i64 1, .int .i64 k1, .bool false, .int .i64 0, .slice none 0 0] 40) = z := ⟨_, rfl⟩
      have v1b : Below Z.heap.size Z V1 := by rw [← hV1]; exact balloc (Below.refl _ _) _
      have v1s : V1.heap.size = w9.heap.size + 1 := by rw [← hV1]; simp; omega
      have v1r := v0r.on v1b
      have HV1 := Lib.hid hV1
      obtain ⟨V2, hV2⟩ : ∃ z, V1.alloc (.cells #[.int .i64 11, .int .i64 0, .bool false, .int .i64 0, .slice (some ⟨w9.heap.size, 0, none⟩) 1 1] 40) = z := ⟨_, rfl⟩
      have v2b : Below V1.heap.size V1 V2 := by rw [← hV2]; exact balloc (Below.refl _ _) _
      have v2s : V2.heap.size = w9.heap.size + 2 := by rw [← hV2]; simp; omega
      have v2r := v1r.on v2b
      have HV2 := Lib.hid hV2
      have HZ := Lib.hid hZ
      have e0 := v2r.cell 0
      have e1 := v2r.cell 1
      have e2 := v2r.cell 2
      have e3 := v2r.cell 3
      have e4 := v2r.cell 4
      have VR := Lib.hid v2r
      have FA := Lib.hid (And.intro hZs (And.intro zs ((And.intro v1b (And.intro v1s  (And.intro v2b (And.intro v2s trivial)))))))
      clear hZ hZs zs hV1 v1b v1s v1r hV2 v2b v2s v2r v0r
      go_wp2
      rw [HZ.out, HV1.out, HV2.out]
      obtain ⟨hZs, zs, v1b, v1s, v2b, v2s, -⟩ := FA.out
      have X1 := exs_lit1 (XC.out Z) #[.int .i64 1, .int .i64 k1, .bool false, .int .i64 0, .slice none 0 0] rfl (show w.heap.size < Z.heap.size by omega) 40
      rw [HV1.out, zs] at X1
      have X2 := ExT.make (k := 11) (c := 0) (v := (false, 0)) (cap := 1) X1 rfl (Nat.le_refl 1) (by unfold maxLen; omega)
      have X3 := exs_lit1 X2 #[.int .i64 11, .int .i64 0, .bool false, .int .i64 0, .slice (some ⟨w9.heap.size, 0, none⟩) 1 1] rfl (show w.heap.size < V1.heap.size by omega) 40
      rw [HV2.out, v1s] at X3
      have X4 := ExT.make (k := 10) (c := 0) (v := (false, 0)) (cap := 1) X3 rfl (Nat.le_refl 1) (by unfold maxLen; omega)
      refine bodyPost_ret (v := feV ⟨10, 0, (false, 0), ⟨some ⟨w9.heap.size + 1, 0, none⟩, 1, 1⟩⟩) (by simp [results, Tryz.results138, go_sem, feV, fpV, e0, e1, e2, e3, e4]) rfl ?_
      exact ⟨_, _, rfl, X4.mono fun k _ hk => Nat.le_of_lt hk, ((HB9.out.step hZs fun i (hi : i = w.heap.size) => .inr (by omega)).below v1b).below v2b, (((HR9.out.apart hZs fun i (hi : i = w.heap.size) => by omega).on v1b).on v2b).mono hp5⟩
    · obtain ⟨d, rfl⟩ : ∃ d', d = d' + 1 := ⟨d - 1, by omega⟩
      have IHd := Lib.hid (IH.out d rfl)
      have hdw : IntKind.i64.wrap (d : Int) = d := IntWalk.i64_in _ (by omega)
      have hde : ((d : Int) + 1 == 0) = false := by rw [beq_eq_false_iff_ne]; omega
      have Hcc := Lib.hid (show coC (d + 1) = coC d + 30 by unfold coC; omega)
      have hpq : p + 4 + 1 + coC d ≤ 1099511627776 := by have := Hcc.out; omega
      go_wp2
      have SB := Lib.hid (fun (z : World) (hz : But b w9 z) => show z.cell? ⟨cb, 0, none⟩ = some (.int .i64 1) ∧ z.cell? ⟨cb, 1, none⟩ = some (.int .i64 k1) ∧ z.cell? ⟨cb, 2, none⟩ = some (.bool false) ∧ z.cell? ⟨cb, 3, none⟩ = some (.int .i64 0) ∧ z.cell? ⟨cb, 4, none⟩ = some (.slice none 0 0) ∧ z.cell? ⟨ob, 0, none⟩ = some (.int .i64 fk) ∧ z.cell? ⟨ob, 1, none⟩ = some (.int .i64 fc) ∧ z.cell? ⟨ob, 2, none⟩ = some (.bool fv.1) ∧ z.cell? ⟨ob, 3, none⟩ = some (.int .i64 fv.2) ∧ z.cell? ⟨ob, 4, none⟩ = some (.slice none 0 0) from
        have h := Hc9.out.only hz (by have := Hnum.out; omega); have h' := Ho9.out.only hz (by have := Hnum.out; omega)
        ⟨h.cell 0, h.cell 1, h.cell 2, h.cell 3, h.cell 4, h'.cell 0, h'.cell 1, h'.cell 2, h'.cell 3, h'.cell 4⟩)
      have RB := Lib.hid (fun (z : World) (hz : But b w9 z) => Hr9.out.only hz (by omega))
      obtain ⟨u, hu⟩ : ∃ u, w9.drew = u := ⟨_, rfl⟩
      have Bu := Lib.hid (show But b w9 u from hu ▸ (Only.refl w9).drew)
      have Ru := Lib.hid (show Rd u b (p + 4 + 1) from hu ▸ HR9.out.on (Below.refl _ _).drew)
      have hzu : w.heap.size < u.heap.size := by have := Bu.out.size; omega
      have Hu := Lib.hid hu
      clear hu o0 o1 o2 o3 o4 d0 d1 d2 d3 d4 c0 c1 c2 c3 c4 f0 f1 f2 f3 f4
      refine wp_region_g 11 (fun z => z.cell? ⟨cb, 0, none⟩ = some (.int .i64 1) ∧ z.cell? ⟨cb, 1, none⟩ = some (.int .i64 k1) ∧ z.cell? ⟨cb, 2, none⟩ = some (.bool false) ∧ z.cell? ⟨cb, 3, none⟩ = some (.int .i64 0) ∧ z.cell? ⟨cb, 4, none⟩ = some (.slice none 0 0) ∧ z.cell? ⟨ob, 0, none⟩ = some (.int .i64 fk) ∧ z.cell? ⟨ob, 1, none⟩ = some (.int .i64 fc) ∧ z.cell? ⟨ob, 2, none⟩ = some (.bool fv.1) ∧ z.cell? ⟨ob, 3, none⟩ = some (.int .i64 fv.2) ∧ z.cell? ⟨ob, 4, none⟩ = some (.slice none 0 0)) (by kernel_rfl) ?_ (fun hHeld => ?_)
      · exact SB.out _ (Only.refl w9).drew
      rw [Hu.out] at hHeld ⊢
      refine takeG (i := 0) (v := ?v1) rfl (by kernel_rfl) (by kernel_rfl) (by kernel_rfl) (by kernel_rfl) (fun _ _ _ h => h) (Or.inl ⟨by rfl, ?hy1⟩) (by assumption) ?_
      case hy1 => ((intro w' hSw; (try dsimp only at hSw); go_simp) <;> with_reducible rfl)
      try simp only [Act.put, List.setIfInBounds_toArray, List.set_cons_zero, List.set_cons_succ]
      refine takeG (i := 1) (v := ?v2) rfl (by kernel_rfl) (by kernel_rfl) (by kernel_rfl) (by kernel_rfl) (fun _ _ _ h => h) (Or.inl ⟨by rfl, ?hy2⟩) (by assumption) ?_
      case hy2 => ((intro w' hSw; (try dsimp only at hSw); go_simp) <;> with_reducible rfl)
      try simp only [Act.put, List.setIfInBounds_toArray, List.set_cons_zero, List.set_cons_succ]
      refine takeG (i := 2) (v := ?v3) rfl (by kernel_rfl) (by kernel_rfl) (by kernel_rfl) (by kernel_rfl) (fun _ _ _ h => h) (Or.inl ⟨by rfl, ?hy3⟩) (by assumption) ?_
      case hy3 => ((intro w' hSw; (try dsimp only at hSw); go_simp) <;> with_reducible rfl)
      try simp only [Act.put, List.setIfInBounds_toArray, List.set_cons_zero, List.set_cons_succ]
      refine takeG (i := 3) (v := ?v4) rfl (by kernel_rfl) (by kernel_rfl) (by kernel_rfl) (by kernel_rfl) (fun _ _ _ h => h) (Or.inl ⟨by rfl, ?hy4⟩) (by assumption) ?_
      case hy4 => ((intro w' hSw; (try dsimp only at hSw); go_simp) <;> with_reducible rfl)
      try simp only [Act.put, List.setIfInBounds_toArray, List.set_cons_zero, List.set_cons_succ]
      refine takeG (i := 5) (v := ?v5) rfl (by kernel_rfl) (by kernel_rfl) (by kernel_rfl) (by kernel_rfl) (fun _ _ _ h => h) (Or.inl ⟨by rfl, ?hy5⟩) (by assumption) ?_
      case hy5 => ((intro w' hSw; (try dsimp only at hSw); go_simp) <;> with_reducible rfl)
      try simp only [Act.put, List.setIfInBounds_toArray, List.set_cons_zero, List.set_cons_succ]
      refine takeG (i := 6) (v := ?v6) rfl (by kernel_rfl) (by kernel_rfl) (by kernel_rfl) (by kernel_rfl) (fun _ _ _ h => h) (Or.inl ⟨by rfl, ?hy6⟩) (by assumption) ?_
      case hy6 => ((intro w' hSw; (try dsimp only at hSw); go_simp) <;> with_reducible rfl)
      try simp only [Act.put, List.setIfInBounds_toArray, List.set_cons_zero, List.set_cons_succ]
      refine wpAnyG_ready (rs := [4, 7]) (by kernel_rfl) (by simp) ?_
      refine readyG rfl (fun K hK => ?_) (readyG rfl (fun K hK => ?_) AllReadyG.nil)
      · skip
        go_simp
        go_at_call 138
        refine (IHd.out b _ width u Ru.out hpq).mono ?_
        rintro e x1 ⟨f, x, rfl, hx, hb, hR⟩
        have Bx1 := Lib.hid (Bu.out.trans hb)
        have Rx1 := Lib.hid hR
        have hzx1 : w.heap.size < x1.heap.size := by have := hb.size; omega
        have Xx1 : Hid (ExT (fun k => w.heap.size < k) x1 f x) := Lib.hid (hx.mono fun k _ hk => by omega)
        unfold feV
        clear hb hR hx
        refine hK.out _ _ ?hS7 (fun hHeld => ?_)
        case hS7 => exact fun _ => SB.out _ Bx1.out
        replace hHeld := hHeld (by decide)
        clear hK K
        try simp only [Act.put, List.setIfInBounds_toArray, List.set_cons_zero, List.set_cons_succ]
        refine wpAnyG_ready (rs := [7]) (by kernel_rfl) (by simp) ?_
        refine readyG rfl (fun K hK => ?_) AllReadyG.nil
        obtain ⟨x2, hx2⟩ : ∃ y, x1.alloc (.cells #[.int .i64 1, .int .i64 k1, .bool false, .int .i64 0, .slice none 0 0, .int .i64 fk, .int .i64 fc, .bool fv.1, .int .i64 fv.2, .slice none 0 0] 40) = y := ⟨_, rfl⟩
        have hb : Below x1.heap.size x1 x2 := by rw [← hx2]; exact balloc (Below.refl _ _) _
        have Bx2 := Lib.hid (Bx1.out.below hb)
        have Rx2 := Lib.hid (Rx1.out.on hb)
        have hzx2 : w.heap.size < x2.heap.size := by have := hb.size; omega
        have Xx2 : Hid (ExT (fun k => w.heap.size < k) x2 f x) := Lib.hid (Xx1.out.keep hb.size fun k _ hl => hb.block k hl)
        have y1 := exs_lit2 (XC.out x1) (XO.out x1) #[.int .i64 1, .int .i64 k1, .bool false, .int .i64 0, .slice none 0 0, .int .i64 fk, .int .i64 fc, .bool fv.1, .int .i64 fv.2, .slice none 0 0] rfl (show w.heap.size < x1.heap.size by omega) 40
        rw [hx2] at y1
        have Yx2 := Lib.hid (ExT.make (k := 6) (c := 0) (v := (false, 0)) (cap := 2) y1 rfl (Nat.le_refl 2) (by unfold maxLen; omega))
        clear y1
        go_simp
        try rw [hx2]
        have Hx2 := Lib.hid hx2
        clear hx2 hb
        refine hK.out _ _ ?hS8 (fun hHeld => ?_)
        case hS8 => exact fun _ => SB.out _ Bx2.out
        replace hHeld := hHeld (by decide)
        clear hK K
        try simp only [Act.put, List.setIfInBounds_toArray, List.set_cons_zero, List.set_cons_succ]
        refine takeG (i := 8) (v := ?v9) rfl (by kernel_rfl) (by kernel_rfl) (by kernel_rfl) (by kernel_rfl) (fun _ _ _ h => h) (Or.inl ⟨by rfl, ?hy9⟩) (by assumption) ?_
        case hy9 => ((intro w' hSw; (try dsimp only at hSw); go_simp) <;> with_reducible rfl)
        try simp only [Act.put, List.setIfInBounds_toArray, List.set_cons_zero, List.set_cons_succ]
        refine wpAnyG_ready (rs := [9]) (by kernel_rfl) (by simp) ?_
        refine readyG rfl (fun K hK => ?_) AllReadyG.nil
        obtain ⟨x3, hx3⟩ : ∃ y, x2.alloc (.cells #[.int .i64 f.kind, .int .i64 f.col, .bool f.val.1, .int .i64 f.val.2, .slice f.sv.A f.sv.n f.sv.c, .int .i64 6, .int .i64 0, .bool false, .int .i64 0, .slice (some ⟨x1.heap.size, 0, none⟩) 2 2] 40) = y := ⟨_, rfl⟩
        have hb : Below x2.heap.size x2 x3 := by rw [← hx3]; exact balloc (Below.refl _ _) _
        have Bx3 := Lib.hid (Bx2.out.below hb)
        have Rx3 := Lib.hid (Rx2.out.on hb)
        have hzx3 : w.heap.size < x3.heap.size := by have := hb.size; omega
        have Xx3 : Hid (ExT (fun k => w.heap.size < k) x3 f x) := Lib.hid (Xx2.out.keep hb.size fun k _ hl => hb.block k hl)
        have Yx3 : Hid (ExT (fun k => w.heap.size < k) x3 ⟨6, 0, (false, 0), ⟨some ⟨x1.heap.size, 0, none⟩, 2, 2⟩⟩ (.mk 6 0 (false, 0) [.mk 1 k1 (false, 0) [], .mk fk fc fv []])) := Lib.hid (Yx2.out.keep hb.size fun k _ hl => hb.block k hl)
        have y1 := exs_lit2 Xx2.out Yx2.out #[.int .i64 f.kind, .int .i64 f.col, .bool f.val.1, .int .i64 f.val.2, .slice f.sv.A f.sv.n f.sv.c, .int .i64 6, .int .i64 0, .bool false, .int .i64 0, .slice (some ⟨x1.heap.size, 0, none⟩) 2 2] rfl (show w.heap.size < x2.heap.size by omega) 40
        rw [hx3] at y1
        have Zx3 := Lib.hid (ExT.make (k := 8) (c := 0) (v := (false, 0)) (cap := 2) y1 rfl (Nat.le_refl 2) (by unfold maxLen; omega))
        clear y1
        go_simp
        try rw [hx3]
        have Hx3 := Lib.hid hx3
        clear hx3 hb
        refine hK.out _ _ ?hS10 (fun hHeld => ?_)
        case hS10 => exact fun _ => SB.out _ Bx3.out
        replace hHeld := hHeld (by decide)
        clear hK K
        try simp only [Act.put, List.setIfInBounds_toArray, List.set_cons_zero, List.set_cons_succ]
        refine takeG (i := 10) (v := ?v11) rfl (by kernel_rfl) (by kernel_rfl) (by kernel_rfl) (by kernel_rfl) (fun _ _ _ h => h) (Or.inl ⟨by rfl, ?hy11⟩) (by assumption) ?_
        case hy11 => ((intro w' hSw; (try dsimp only at hSw); go_simp) <;> with_reducible rfl)
        try simp only [Act.put, List.setIfInBounds_toArray, List.set_cons_zero, List.set_cons_succ]
        refine wpAnyG_ready (rs := [11]) (by kernel_rfl) (by simp) ?_
        refine readyG rfl (fun K hK => ?_) AllReadyG.nil
        have rr := RB.out _ Bx3.out
        have hl := rr.lt
        have c0 := rr.cell 0
        have f0 := rr.frozen 0
        have c1 := rr.cell 1
        have f1 := rr.frozen 1
        have c2 := rr.cell 2
        have f2 := rr.frozen 2
        have c3 := rr.cell 3
        have f3 := rr.frozen 3
        have c4 := rr.cell 4
        have f4 := rr.frozen 4
        clear rr
        go_simp
        refine hK.out _ _ ?hS12 (fun hHeld => ?_)
        case hS12 => exact fun h => absurd rfl h
        clear hK K
        try simp only [Act.put, List.setIfInBounds_toArray, List.set_cons_zero, List.set_cons_succ]
        refine wpAnyG_done (by kernel_rfl) ?_ _
        go_wp2
        refine bodyPost_ret (v := feV ⟨8, 0, (false, 0), ⟨some ⟨x2.heap.size, 0, none⟩, 2, 2⟩⟩) (by simp [results, Tryz.results138, go_sem, feV, c0, c1, c2, c3, c4]) rfl ?_
        exact gotEx_of Zx3.out (HB9.out.trans Bx3.out) (Rx3.out.mono (by have := Hcc.out; omega)) hlt _ _ _ _ _ rfl
      · skip
        obtain ⟨x1, hx1⟩ : ∃ y, u.alloc (.cells #[.int .i64 1, .int .i64 k1, .bool false, .int .i64 0, .slice none 0 0, .int .i64 fk, .int .i64 fc, .bool fv.1, .int .i64 fv.2, .slice none 0 0] 40) = y := ⟨_, rfl⟩
        have hb : Below u.heap.size u x1 := by rw [← hx1]; exact balloc (Below.refl _ _) _
        have Bx1 := Lib.hid (Bu.out.below hb)
        have Rx1 := Lib.hid (Ru.out.on hb)
        have hzx1 : w.heap.size < x1.heap.size := by have := hb.size; omega
        have y1 := exs_lit2 (XC.out u) (XO.out u) #[.int .i64 1, .int .i64 k1, .bool false, .int .i64 0, .slice none 0 0, .int .i64 fk, .int .i64 fc, .bool fv.1, .int .i64 fv.2, .slice none 0 0] rfl (show w.heap.size < u.heap.size by omega) 40
        rw [hx1] at y1
        have Yx1 := Lib.hid (ExT.make (k := 6) (c := 0) (v := (false, 0)) (cap := 2) y1 rfl (Nat.le_refl 2) (by unfold maxLen; omega))
        clear y1
        go_simp
        try rw [hx1]
        have Hx1 := Lib.hid hx1
        clear hx1 hb
        refine hK.out _ _ ?hS13 (fun hHeld => ?_)
        case hS13 => exact fun _ => SB.out _ Bx1.out
        replace hHeld := hHeld (by decide)
        clear hK K
        try simp only [Act.put, List.setIfInBounds_toArray, List.set_cons_zero, List.set_cons_succ]
        refine takeG (i := 8) (v := ?v14) rfl (by kernel_rfl) (by kernel_rfl) (by kernel_rfl) (by kernel_rfl) (fun _ _ _ h => h) (Or.inl ⟨by rfl, ?hy14⟩) (by assumption) ?_
        case hy14 => ((intro w' hSw; (try dsimp only at hSw); go_simp) <;> with_reducible rfl)
        try simp only [Act.put, List.setIfInBounds_toArray, List.set_cons_zero, List.set_cons_succ]
        refine wpAnyG_ready (rs := [4]) (by kernel_rfl) (by simp) ?_
        refine readyG rfl (fun K hK => ?_) AllReadyG.nil
        go_simp
        go_at_call 138
        refine (IHd.out b _ width x1 Rx1.out hpq).mono ?_
        rintro e x2 ⟨f, x, rfl, hx, hb, hR⟩
        have Bx2 := Lib.hid (Bx1.out.trans hb)
        have Rx2 := Lib.hid hR
        have hzx2 : w.heap.size < x2.heap.size := by have := hb.size; omega
        have Yx2 : Hid (ExT (fun k => w.heap.size < k) x2 ⟨6, 0, (false, 0), ⟨some ⟨u.heap.size, 0, none⟩, 2, 2⟩⟩ (.mk 6 0 (false, 0) [.mk 1 k1 (false, 0) [], .mk fk fc fv []])) := Lib.hid (Yx1.out.keep hb.size fun k hk hl => hb.block k hl (by omega))
        have Xx2 : Hid (ExT (fun k => w.heap.size < k) x2 f x) := Lib.hid (hx.mono fun k _ hk => by omega)
        unfold feV
        clear hb hR hx
        refine hK.out _ _ ?hS15 (fun hHeld => ?_)
        case hS15 => exact fun _ => SB.out _ Bx2.out
        replace hHeld := hHeld (by decide)
        clear hK K
        try simp only [Act.put, List.setIfInBounds_toArray, List.set_cons_zero, List.set_cons_succ]
        refine wpAnyG_ready (rs := [9]) (by kernel_rfl) (by simp) ?_
        refine readyG rfl (fun K hK => ?_) AllReadyG.nil
        obtain ⟨x3, hx3⟩ : ∃ y, x2.alloc (.cells #[.int .i64 f.kind, .int .i64 f.col, .bool f.val.1, .int .i64 f.val.2, .slice f.sv.A f.sv.n f.sv.c, .int .i64 6, .int .i64 0, .bool false, .int .i64 0, .slice (some ⟨u.heap.size, 0, none⟩) 2 2] 40) = y := ⟨_, rfl⟩
        have hb : Below x2.heap.size x2 x3 := by rw [← hx3]; exact balloc (Below.refl _ _) _
        have Bx3 := Lib.hid (Bx2.out.below hb)
        have Rx3 := Lib.hid (Rx2.out.on hb)
        have hzx3 : w.heap.size < x3.heap.size := by have := hb.size; omega
        have Xx3 : Hid (ExT (fun k => w.heap.size < k) x3 f x) := Lib.hid (Xx2.out.keep hb.size fun k _ hl => hb.block k hl)
        have Yx3 : Hid (ExT (fun k => w.heap.size < k) x3 ⟨6, 0, (false, 0), ⟨some ⟨u.heap.size, 0, none⟩, 2, 2⟩⟩ (.mk 6 0 (false, 0) [.mk 1 k1 (false, 0) [], .mk fk fc fv []])) := Lib.hid (Yx2.out.keep hb.size fun k _ hl => hb.block k hl)
        have y1 := exs_lit2 Xx2.out Yx2.out #[.int .i64 f.kind, .int .i64 f.col, .bool f.val.1, .int .i64 f.val.2, .slice f.sv.A f.sv.n f.sv.c, .int .i64 6, .int .i64 0, .bool false, .int .i64 0, .slice (some ⟨u.heap.size, 0, none⟩) 2 2] rfl (show w.heap.size < x2.heap.size by omega) 40
        rw [hx3] at y1
        have Zx3 := Lib.hid (ExT.make (k := 8) (c := 0) (v := (false, 0)) (cap := 2) y1 rfl (Nat.le_refl 2) (by unfold maxLen; omega))
        clear y1
        go_simp
        try rw [hx3]
        have Hx3 := Lib.hid hx3
        clear hx3 hb
        refine hK.out _ _ ?hS16 (fun hHeld => ?_)
        case hS16 => exact fun _ => SB.out _ Bx3.out
        replace hHeld := hHeld (by decide)
        clear hK K
        try simp only [Act.put, List.setIfInBounds_toArray, List.set_cons_zero, List.set_cons_succ]
        refine takeG (i := 10) (v := ?v17) rfl (by kernel_rfl) (by kernel_rfl) (by kernel_rfl) (by kernel_rfl) (fun _ _ _ h => h) (Or.inl ⟨by rfl, ?hy17⟩) (by assumption) ?_
        case hy17 => ((intro w' hSw; (try dsimp only at hSw); go_simp) <;> with_reducible rfl)
        try simp only [Act.put, List.setIfInBounds_toArray, List.set_cons_zero, List.set_cons_succ]
        refine wpAnyG_ready (rs := [11]) (by kernel_rfl) (by simp) ?_
        refine readyG rfl (fun K hK => ?_) AllReadyG.nil
        have rr := RB.out _ Bx3.out
        have hl := rr.lt
        have c0 := rr.cell 0
        have f0 := rr.frozen 0
        have c1 := rr.cell 1
        have f1 := rr.frozen 1
        have c2 := rr.cell 2
        have f2 := rr.frozen 2
        have c3 := rr.cell 3
        have f3 := rr.frozen 3
        have c4 := rr.cell 4
        have f4 := rr.frozen 4
        clear rr
        go_simp
        refine hK.out _ _ ?hS18 (fun hHeld => ?_)
        case hS18 => exact fun h => absurd rfl h
        clear hK K
        try simp only [Act.put, List.setIfInBounds_toArray, List.set_cons_zero, List.set_cons_succ]
        refine wpAnyG_done (by kernel_rfl) ?_ _
        go_wp2
        refine bodyPost_ret (v := feV ⟨8, 0, (false, 0), ⟨some ⟨x2.heap.size, 0, none⟩, 2, 2⟩⟩) (by simp [results, Tryz.results138, go_sem, feV, c0, c1, c2, c3, c4]) rfl ?_
        exact gotEx_of Zx3.out (HB9.out.trans Bx3.out) (Rx3.out.mono (by have := Hcc.out; omega)) hlt _ _ _ _ _ rfl
    · obtain ⟨Z, hZ⟩ : ∃ z, (((((w9.setCell ⟨w.heap.size, 0, none⟩ (.int .i64 7)).setCell ⟨w.heap.size, 1, none⟩ (.int .i64 0)).setCell ⟨w.heap.size, 2, none⟩ (.bool false)).setCell ⟨w.heap.size, 3, none⟩ (.int .i64 0)).setCell ⟨w.heap.size, 4, none⟩ (.slice (some ⟨w9.heap.size, 0, none⟩) 2 2)) = z := ⟨_, rfl⟩
      have hZs : Only (fun k => k = w.heap.size) w9 Z := by rw [← hZ]; exact set5 _ _ _ _ _ _ _
      have v0r : Row Z w.heap.size 40 [.int .i64 7, .int .i64 0, .bool false, .int .i64 0, .slice (some ⟨w9.heap.size, 0, none⟩) 2 2] := by rw [← hZ]; exact ((((Hr9.out.set 0 _).set 1 _).set 2 _).set 3 _).set 4 _
      have zs : Z.heap.size = w9.heap.size := by rw [← hZ]; simp [World.setCell]
      obtain ⟨V1, hV1⟩ : ∃ z, Z.alloc (.cells #[.int .i64 1, .int .i64 k1, .bool false, .int .i64 0, .slice none 0 0, .int .i64 fk, .int .i64 fc, .bool fv.1, .int .i64 fv.2, .slice none 0 0] 40) = z := ⟨_, rfl⟩
      have v1b : Below Z.heap.size Z V1 := by rw [← hV1]; exact balloc (Below.refl _ _) _
      have v1s : V1.heap.size = w9.heap.size + 1 := by rw [← hV1]; simp; omega
      have v1r := v0r.on v1b
      have HV1 := Lib.hid hV1
      have HZ := Lib.hid hZ
      have e0 := v1r.cell 0
      have e1 := v1r.cell 1
      have e2 := v1r.cell 2
      have e3 := v1r.cell 3
      have e4 := v1r.cell 4
      have VR := Lib.hid v1r
      have FA := Lib.hid (And.intro hZs (And.intro zs ((And.intro v1b (And.intro v1s trivial)))))
      clear hZ hZs zs hV1 v1b v1s v1r v0r
      go_wp2
      rw [HZ.out, HV1.out]
      obtain ⟨hZs, zs, v1b, v1s, -⟩ := FA.out
      have X1 := exs_lit2 (XC.out Z) (XO.out Z) #[.int .i64 1, .int .i64 k1, .bool false, .int .i64 0, .slice none 0 0, .int .i64 fk, .int .i64 fc, .bool fv.1, .int .i64 fv.2, .slice none 0 0] rfl (show w.heap.size < Z.heap.size by omega) 40
      rw [HV1.out, zs] at X1
      have X2 := ExT.make (k := 7) (c := 0) (v := (false, 0)) (cap := 2) X1 rfl (Nat.le_refl 2) (by unfold maxLen; omega)
      refine bodyPost_ret (v := feV ⟨7, 0, (false, 0), ⟨some ⟨w9.heap.size, 0, none⟩, 2, 2⟩⟩) (by simp [results, Tryz.results138, go_sem, feV, fpV, e0, e1, e2, e3, e4]) rfl ?_
      exact ⟨_, _, rfl, X2.mono fun k _ hk => Nat.le_of_lt hk, (HB9.out.step hZs fun i (hi : i = w.heap.size) => .inr (by omega)).below v1b, ((HR9.out.apart hZs fun i (hi : i = w.heap.size) => by omega).on v1b).mono hp5⟩
    · obtain ⟨Z, hZ⟩ : ∃ z, (((((w9.setCell ⟨w.heap.size, 0, none⟩ (.int .i64 7)).setCell ⟨w.heap.size, 1, none⟩ (.int .i64 0)).setCell ⟨w.heap.size, 2, none⟩ (.bool false)).setCell ⟨w.heap.size, 3, none⟩ (.int .i64 0)).setCell ⟨w.heap.size, 4, none⟩ (.slice (some ⟨w9.heap.size, 0, none⟩) 2 2)) = z := ⟨_, rfl⟩
      have hZs : Only (fun k => k = w.heap.size) w9 Z := by rw [← hZ]; exact set5 _ _ _ _ _ _ _
      have v0r : Row Z w.heap.size 40 [.int .i64 7, .int .i64 0, .bool false, .int .i64 0, .slice (some ⟨w9.heap.size, 0, none⟩) 2 2] := by rw [← hZ]; exact ((((Hr9.out.set 0 _).set 1 _).set 2 _).set 3 _).set 4 _
      have zs : Z.heap.size = w9.heap.size := by rw [← hZ]; simp [World.setCell]
      obtain ⟨V1, hV1⟩ : ∃ z, Z.alloc (.cells #[.int .i64 fk, .int .i64 fc, .bool fv.1, .int .i64 fv.2, .slice none 0 0, .int .i64 1, .int .i64 k1, .bool false, .int .i64 0, .slice none 0 0] 40) = z := ⟨_, rfl⟩
      have v1b : Below Z.heap.size Z V1 := by rw [← hV1]; exact balloc (Below.refl _ _) _
      have v1s : V1.heap.size = w9.heap.size + 1 := by rw [← hV1]; simp; omega
      have v1r := v0r.on v1b
      have HV1 := Lib.hid hV1
      have HZ := Lib.hid hZ
      have e0 := v1r.cell 0
      have e1 := v1r.cell 1
      have e2 := v1r.cell 2
      have e3 := v1r.cell 3
      have e4 := v1r.cell 4
      have VR := Lib.hid v1r
      have FA := Lib.hid (And.intro hZs (And.intro zs ((And.intro v1b (And.intro v1s trivial)))))
      clear hZ hZs zs hV1 v1b v1s v1r v0r
      go_wp2
      rw [HZ.out, HV1.out]
      obtain ⟨hZs, zs, v1b, v1s, -⟩ := FA.out
      have X1 := exs_lit2 (XO.out Z) (XC.out Z) #[.int .i64 fk, .int .i64 fc, .bool fv.1, .int .i64 fv.2, .slice none 0 0, .int .i64 1, .int .i64 k1, .bool false, .int .i64 0, .slice none 0 0] rfl (show w.heap.size < Z.heap.size by omega) 40
      rw [HV1.out, zs] at X1
      have X2 := ExT.make (k := 7) (c := 0) (v := (false, 0)) (cap := 2) X1 rfl (Nat.le_refl 2) (by unfold maxLen; omega)
      refine bodyPost_ret (v := feV ⟨7, 0, (false, 0), ⟨some ⟨w9.heap.size, 0, none⟩, 2, 2⟩⟩) (by simp [results, Tryz.results138, go_sem, feV, fpV, e0, e1, e2, e3, e4]) rfl ?_
      exact ⟨_, _, rfl, X2.mono fun k _ hk => Nat.le_of_lt hk, (HB9.out.step hZs fun i (hi : i = w.heap.size) => .inr (by omega)).below v1b, ((HR9.out.apart hZs fun i (hi : i = w.heap.size) => by omega).on v1b).mono hp5⟩
    · obtain ⟨Z, hZ⟩ : ∃ z, (((((w9.setCell ⟨w.heap.size, 0, none⟩ (.int .i64 7)).setCell ⟨w.heap.size, 1, none⟩ (.int .i64 0)).setCell ⟨w.heap.size, 2, none⟩ (.bool false)).setCell ⟨w.heap.size, 3, none⟩ (.int .i64 0)).setCell ⟨w.heap.size, 4, none⟩ (.slice (some ⟨w9.heap.size, 0, none⟩) 2 2)) = z := ⟨_, rfl⟩
      have hZs : Only (fun k => k = w.heap.size) w9 Z := by rw [← hZ]; exact set5 _ _ _ _ _ _ _
      have v0r : Row Z w.heap.size 40 [.int .i64 7, .int .i64 0, .bool false, .int .i64 0, .slice (some ⟨w9.heap.size, 0, none⟩) 2 2] := by rw [← hZ]; exact ((((Hr9.out.set 0 _).set 1 _).set 2 _).set 3 _).set 4 _
      have zs : Z.heap.size = w9.heap.size := by rw [← hZ]; simp [World.setCell]
      obtain ⟨V1, hV1⟩ : ∃ z, Z.alloc (.cells #[.int .i64 fk, .int .i64 fc, .bool fv.1, .int .i64 fv.2, .slice none 0 0, .int .i64 1, .int .i64 k1, .bool false, .int .i64 0, .slice none 0 0] 40) = z := ⟨_, rfl⟩
      have v1b : Below Z.heap.size Z V1 := by rw [← hV1]; exact balloc (Below.refl _ _) _
      have v1s : V1.heap.size = w9.heap.size + 1 := by rw [← hV1]; simp; omega
      have v1r := v0r.on v1b
      have HV1 := Lib.hid hV1
      have HZ := Lib.hid hZ
      have e0 := v1r.cell 0
      have e1 := v1r.cell 1
      have e2 := v1r.cell 2
      have e3 := v1r.cell 3
      have e4 := v1r.cell 4
      have VR := Lib.hid v1r
      have FA := Lib.hid (And.intro hZs (And.intro zs ((And.intro v1b (And.intro v1s trivial)))))
      clear hZ hZs zs hV1 v1b v1s v1r v0r
      go_wp2
      rw [HZ.out, HV1.out]
      obtain ⟨hZs, zs, v1b, v1s, -⟩ := FA.out
      have X1 := exs_lit2 (XO.out Z) (XC.out Z) #[.int .i64 fk, .int .i64 fc, .bool fv.1, .int .i64 fv.2, .slice none 0 0, .int .i64 1, .int .i64 k1, .bool false, .int .i64 0, .slice none 0 0] rfl (show w.heap.size < Z.heap.size by omega) 40
      rw [HV1.out, zs] at X1
      have X2 := ExT.make (k := 7) (c := 0) (v := (false, 0)) (cap := 2) X1 rfl (Nat.le_refl 2) (by unfold maxLen; omega)
      refine bodyPost_ret (v := feV ⟨7, 0, (false, 0), ⟨some ⟨w9.heap.size, 0, none⟩, 2, 2⟩⟩) (by simp [results, Tryz.results138, go_sem, feV, fpV, e0, e1, e2, e3, e4]) rfl ?_
      exact ⟨_, _, rfl, X2.mono fun k _ hk => Nat.le_of_lt hk, (HB9.out.step hZs fun i (hi : i = w.heap.size) => .inr (by omega)).below v1b, ((HR9.out.apart hZs fun i (hi : i = w.heap.size) => by omega).on v1b).mono hp5⟩
    · obtain ⟨Z, hZ⟩ : ∃ z, (((((w9.setCell ⟨w.heap.size, 0, none⟩ (.int .i64 7)).setCell ⟨w.heap.size, 1, none⟩ (.int .i64 0)).setCell ⟨w.heap.size, 2, none⟩ (.bool false)).setCell ⟨w.heap.size, 3, none⟩ (.int .i64 0)).setCell ⟨w.heap.size, 4, none⟩ (.slice (some ⟨w9.heap.size, 0, none⟩) 2 2)) = z := ⟨_, rfl⟩
      have hZs : Only (fun k => k = w.heap.size) w9 Z := by rw [← hZ]; exact set5 _ _ _ _ _ _ _
      have v0r : Row Z w.heap.size 40 [.int .i64 7, .int .i64 0, .bool false, .int .i64 0, .slice (some ⟨w9.heap.size, 0, none⟩) 2 2] := by rw [← hZ]; exact ((((Hr9.out.set 0 _).set 1 _).set 2 _).set 3 _).set 4 _
      have zs : Z.heap.size = w9.heap.size := by rw [← hZ]; simp [World.setCell]
      obtain ⟨V1, hV1⟩ : ∃ z, Z.alloc (.cells #[.int .i64 1, .int .i64 k1, .bool false, .int .i64 0, .slice none 0 0, .int .i64 fk, .int .i64 fc, .bool fv.1, .int .i64 fv.2, .slice none 0 0] 40) = z := ⟨_, rfl⟩
      have v1b : Below Z.heap.size Z V1 := by rw [← hV1]; exact balloc (Below.refl _ _) _
      have v1s : V1.heap.size = w9.heap.size + 1 := by rw [← hV1]; simp; omega
      have v1r := v0r.on v1b
      have HV1 := Lib.hid hV1
      have HZ := Lib.hid hZ
      have e0 := v1r.cell 0
      have e1 := v1r.cell 1
      have e2 := v1r.cell 2
      have e3 := v1r.cell 3
      have e4 := v1r.cell 4
      have VR := Lib.hid v1r
      have FA := Lib.hid (And.intro hZs (And.intro zs ((And.intro v1b (And.intro v1s trivial)))))
      clear hZ hZs zs hV1 v1b v1s v1r v0r
      go_wp2
      rw [HZ.out, HV1.out]
      obtain ⟨hZs, zs, v1b, v1s, -⟩ := FA.out
      have X1 := exs_lit2 (XC.out Z) (XO.out Z) #[.int .i64 1, .int .i64 k1, .bool false, .int .i64 0, .slice none 0 0, .int .i64 fk, .int .i64 fc, .bool fv.1, .int .i64 fv.2, .slice none 0 0] rfl (show w.heap.size < Z.heap.size by omega) 40
      rw [HV1.out, zs] at X1
      have X2 := ExT.make (k := 7) (c := 0) (v := (false, 0)) (cap := 2) X1 rfl (Nat.le_refl 2) (by unfold maxLen; omega)
      refine bodyPost_ret (v := feV ⟨7, 0, (false, 0), ⟨some ⟨w9.heap.size, 0, none⟩, 2, 2⟩⟩) (by simp [results, Tryz.results138, go_sem, feV, fpV, e0, e1, e2, e3, e4]) rfl ?_
      exact ⟨_, _, rfl, X2.mono fun k _ hk => Nat.le_of_lt hk, (HB9.out.step hZs fun i (hi : i = w.heap.size) => .inr (by omega)).below v1b, ((HR9.out.apart hZs fun i (hi : i = w.heap.size) => by omega).on v1b).mono hp5⟩
    · obtain ⟨Z, hZ⟩ : ∃ z, (((((w9.setCell ⟨w.heap.size, 0, none⟩ (.int .i64 6)).setCell ⟨w.heap.size, 1, none⟩ (.int .i64 0)).setCell ⟨w.heap.size, 2, none⟩ (.bool false)).setCell ⟨w.heap.size, 3, none⟩ (.int .i64 0)).setCell ⟨w.heap.size, 4, none⟩ (.slice (some ⟨w9.heap.size, 0, none⟩) 2 2)) = z := ⟨_, rfl⟩
      have hZs : Only (fun k => k = w.heap.size) w9 Z := by rw [← hZ]; exact set5 _ _ _ _ _ _ _
      have v0r : Row Z w.heap.size 40 [.int .i64 6, .int .i64 0, .bool false, .int .i64 0, .slice (some ⟨w9.heap.size, 0, none⟩) 2 2] := by rw [← hZ]; exact ((((Hr9.out.set 0 _).set 1 _).set 2 _).set 3 _).set 4 _
      have zs : Z.heap.size = w9.heap.size := by rw [← hZ]; simp [World.setCell]
      obtain ⟨V1, hV1⟩ : ∃ z, Z.alloc (.cells #[.int .i64 1, .int .i64 k1, .bool false, .int .i64 0, .slice none 0 0, .int .i64 fk, .int .i64 fc, .bool fv.1, .int .i64 fv.2, .slice none 0 0] 40) = z := ⟨_, rfl⟩
      have v1b : Below Z.heap.size Z V1 := by rw [← hV1]; exact balloc (Below.refl _ _) _
      have v1s : V1.heap.size = w9.heap.size + 1 := by rw [← hV1]; simp; omega
      have v1r := v0r.on v1b
      have HV1 := Lib.hid hV1
      have HZ := Lib.hid hZ
      have e0 := v1r.cell 0
      have e1 := v1r.cell 1
      have e2 := v1r.cell 2
      have e3 := v1r.cell 3
      have e4 := v1r.cell 4
      have VR := Lib.hid v1r
      have FA := Lib.hid (And.intro hZs (And.intro zs ((And.intro v1b (And.intro v1s trivial)))))
      clear hZ hZs zs hV1 v1b v1s v1r v0r
      go_wp2
      rw [HZ.out, HV1.out]
      obtain ⟨hZs, zs, v1b, v1s, -⟩ := FA.out
      have X1 := exs_lit2 (XC.out Z) (XO.out Z) #[.int .i64 1, .int .i64 k1, .bool false, .int .i64 0, .slice none 0 0, .int .i64 fk, .int .i64 fc, .bool fv.1, .int .i64 fv.2, .slice none 0 0] rfl (show w.heap.size < Z.heap.size by omega) 40
      rw [HV1.out, zs] at X1
      have X2 := ExT.make (k := 6) (c := 0) (v := (false, 0)) (cap := 2) X1 rfl (Nat.le_refl 2) (by unfold maxLen; omega)
      refine bodyPost_ret (v := feV ⟨6, 0, (false, 0), ⟨some ⟨w9.heap.size, 0, none⟩, 2, 2⟩⟩) (by simp [results, Tryz.results138, go_sem, feV, fpV, e0, e1, e2, e3, e4]) rfl ?_
      exact ⟨_, _, rfl, X2.mono fun k _ hk => Nat.le_of_lt hk, (HB9.out.step hZs fun i (hi : i = w.heap.size) => .inr (by omega)).below v1b, ((HR9.out.apart hZs fun i (hi : i = w.heap.size) => by omega).on v1b).mono hp5⟩
theorem condition_ok : ∀ d : Nat, d ≤ 8 → CO d := fun d => by
  induction d with
  | zero => exact fun h => condition_of 0 h fun d' e => by cases e
  | succ d ih => exact fun h => condition_of (d + 1) h fun d' e => by cases e; exact ih (by omega)

set_option maxHeartbeats 1000000 in
theorem randomCondition_ok (b p : Nat) (width : Int) (w : World) (hR : Rd w b p) (hp : p + 90 ≤ 1099511627776) :
    Calls Tryz.prog 124 #[.pointer (some ⟨b, 0, none⟩), .int .i64 width] w (GotEx b (p + 90) w) := by
  have hlt := hR.lt
  obtain ⟨W0, hW0⟩ : ∃ z, w.alloc (.cells #[.int .i64 0, .int .i64 0, .bool false, .int .i64 0, .slice none 0 0] 40) = z := ⟨_, rfl⟩
  have B0 : But b w W0 := by rw [← hW0]; exact (Only.refl w).alloc _
  have R0 : Rd W0 b p := by rw [← hW0]; exact hR.on (balloc (Below.refl _ _) _)
  have r0 : Row W0 w.heap.size 40 [.int .i64 0, .int .i64 0, .bool false, .int .i64 0, .slice none 0 0] := by rw [← hW0]; exact Row.new _ _ _
  have hl0 := r0.lt
  have HC := Lib.hid (condition_ok 2 (by omega) b p width W0 R0 (by unfold coC; omega))
  have e2 : ((2 : Nat) : Int) = 2 := rfl
  rw [e2] at HC
  have HW0 := Lib.hid hW0
  have HB0 := Lib.hid B0
  have Hr0 := Lib.hid r0
  clear hR hW0 B0 R0 r0 e2
  go_enter Tryz.func124, Tryz.ntmps124
  go_upto_region 1 with fail
  rw [HW0.out]
  go_wp2_with fail
  refine HC.out.mono ?_
  rintro e w10 ⟨f, x, rfl, hx, hb10, hR10⟩
  have hr10 := Hr0.out.only hb10 (by omega)
  have hl10 := hr10.lt
  have c0 := hr10.cell 0
  have c1 := hr10.cell 1
  have c2 := hr10.cell 2
  have c3 := hr10.cell 3
  have c4 := hr10.cell 4
  have f0 := hr10.frozen 0
  have f1 := hr10.frozen 1
  have f2 := hr10.frozen 2
  have f3 := hr10.frozen 3
  have f4 := hr10.frozen 4
  have H10 := Lib.hid (And.intro hx (And.intro hb10 hR10))
  clear hx hb10 hR10 hr10
  unfold feV
  go_wp2
  refine bodyPost_ret (v := feV f) (by simp [results, Tryz.results124, go_sem, feV, c0, c1, c2, c3, c4]) rfl ?_
  exact gotEx_of (H10.out.1.mono fun k _ hk => by omega) (HB0.out.trans H10.out.2.1) (H10.out.2.2.mono (by unfold coC; omega)) hlt _ _ _ _ _ rfl
end Go.Proofs.YtmhlpjfijpomkaaGreatDoor

/-
  append of long elements (up to 128 bytes): where its result lies. (XMemS's text with another bound.)
-/
namespace Go.Qo
open Go.RowKit
set_option linter.unusedVariables false
set_option linter.unusedSimpArgs false

theorem run_app3 {P : Program} {w : World} (t ty : TypeId)
    {α : Type} (lo : Nat) (e : TypeId) (z : Value) (sz bytes : Nat) (enc : α → List Value) (ht : P.underlying t = some (.slice e)) (hi : (P.info? e).map (fun i => (i.zero, i.size, i.bytes)) = some (some z, sz, bytes))
    (hzs : z.cells.size = sz) (hsz : 0 < sz) (hby : bytes ≤ 128) (he : ∀ x, (enc x).length = sz) (h1 : ∀ x, ∀ u ∈ enc x, u.oneCell' = true)
    (v : Value) (xs : List α) (hown : Ow lo e sz enc w v xs)
    (A : Option Addr) (m c : Nat) (ys : List α) (hm : m = ys.length) (hy : Sl sz enc w w.heap.size A ys)
    (hlen : xs.length + ys.length ≤ 1099511627776) (hlo : lo ≤ w.heap.size) :
    ∃ v' w', (Builtin.append_ #[t, t] ty #[v, .slice A m c]).run P w = .ok v' w' ∧ Ow lo e sz enc w' v' (xs ++ ys) ∧ w.grownBy w' v.ownBlock ∧ (v'.ownBlock = v.ownBlock ∨ v'.ownBlock = some w.heap.size) := by
  subst hm
  obtain ⟨i, hi, hz, hsi, hb⟩ := info_parts hi
  cases A with
  | none =>
    have h0 : ys = [] := by
      cases ys with
      | nil => rfl
      | cons y ys => obtain ⟨_, _, hA, _⟩ := hy (by simp); cases hA
    subst h0
    exact ⟨v, w, run_append_nothing (P := P) (w := w) lo t ty e i sz ht hi v _ c _ hown, by simpa using hown, World.grownBy.refl w _, .inl rfl⟩
  | some ad =>
    obtain ⟨v', w', hrun, h2, h3, _, h4⟩ := run_append_own_at w lo t ty e i z sz bytes ht hi hz hsi hb hzs hsz v _ _ hown ad ys.length c (ys.flatMap enc) (flat_length sz enc he ys) (by
      intro j u hu
      have hj : j < ys.length * sz := by rw [← flat_length sz enc he ys]; exact (List.getElem?_eq_some_iff.1 hu).1
      have h0 : 0 < ys.length := Nat.pos_of_ne_zero fun h => by rw [h] at hj; omega
      obtain ⟨b, off, hA, _, hc⟩ := hy h0
      cases hA
      have hdm : j / sz * sz + j % sz = j := by rw [Nat.mul_comm]; exact Nat.div_add_mod j sz
      have hi2 : j / sz < ys.length := (Nat.div_lt_iff_lt_mul hsz).2 hj
      have hxi := List.getElem?_eq_getElem hi2
      have hjm : j % sz < (enc ys[j / sz]).length := by rw [he]; exact Nat.mod_lt _ hsz
      have hu' := flat_get sz enc he ys (j / sz) _ (j % sz) _ hxi (List.getElem?_eq_getElem hjm)
      rw [hdm, hu] at hu'
      cases hu'
      have := hc (j / sz) _ hxi (j % sz) _ (List.getElem?_eq_getElem hjm)
      rw [Nat.add_assoc, hdm] at this
      rwa [Addr.add_lit]) (by
      intro u hu
      obtain ⟨y, _, hu⟩ := List.mem_flatMap.1 hu
      exact h1 y u hu) (by unfold maxLen; omega) (Nat.le_trans (Nat.mul_le_mul hlen hby) (by omega)) hlo
    exact ⟨v', w', hrun, by unfold Ow; rw [List.length_append, List.flatMap_append]; exact h2, h3, h4⟩

/-- As a step of a region that draws. -/
theorem step_app3 {P : Program} {w : World} {ops : Array Oper} {o : Oper} {a : Act} {K : Act → World → Prop} {Q : Exit → Act → World → Prop} {E : Prop} (hgd : o.guard = none) (s x : Operand) (t : TypeId)
    (ho : o.op = .call { callee := .builtin .append, args := #[s, x], argTypes := #[t, t] })
    {α : Type} (lo : Nat) (e : TypeId) (z : Value) (sz bytes : Nat) (enc : α → List Value) (ht : P.underlying t = some (.slice e)) (hi : (P.info? e).map (fun i => (i.zero, i.size, i.bytes)) = some (some z, sz, bytes))
    (hzs : z.cells.size = sz) (hsz : 0 < sz) (hby : bytes ≤ 128) (he : ∀ x, (enc x).length = sz) (h1 : ∀ x, ∀ u ∈ enc x, u.oneCell' = true)
    (v : Value) (xs : List α) (hs : a.eval s = v) (hown : Ow lo e sz enc w v xs)
    (A : Option Addr) (m c : Nat) (ys : List α) (hx : a.eval x = .slice A m c) (hm : m = ys.length) (hy : Sl sz enc w w.heap.size A ys)
    (hlen : xs.length + ys.length ≤ 1099511627776) (hlo : lo ≤ w.heap.size)
    (h : ∀ v' w', Ow lo e sz enc w' v' (xs ++ ys) → w.grownBy w' v.ownBlock → (v'.ownBlock = v.ownBlock ∨ v'.ownBlock = some w.heap.size) → K (a.put o.dst v') w') : if Region.wanted o (yielded ops a.tmps) = true then Oper.wp P o a w K Q else E := by
  have hw : Region.wanted o (yielded ops a.tmps) = true := by simp [Region.wanted, hgd]
  rw [if_pos hw]
  obtain ⟨v', w', hrun, h2, h3, h4⟩ := run_app3 (P := P) t o.type lo e z sz bytes enc ht hi hzs hsz hby he h1 v xs hown A m c ys hm hy hlen hlo
  unfold Oper.wp
  simp [execOp, ho, resolve, invoke, builtin, hs, hx, hrun, Result.andThen]
  exact h v' w' h2 h3 h4
end Go.Qo
