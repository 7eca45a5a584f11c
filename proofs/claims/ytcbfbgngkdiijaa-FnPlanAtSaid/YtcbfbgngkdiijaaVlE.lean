/-
  Contracts: which expressions are valid, as the reference says it (validExpr, ValidExpr).
-/
import Derived.Test.YtcbfbgngkdiijaaProg
import Derived.Test.YtcbfbgngkdiijaaKids
import Derived.Test.YtcbfbgngkdiijaaEqE
import Derived.Test.YtcbfbgngkdiijaaVal
namespace Go.Proofs.Ytcbfbgngkdiijaa
open Go.RowKit Go.Qo
set_option linter.unusedVariables false
set_option linter.unusedSimpArgs false

theorem bool_of {P : Prop} : ∃ r : Bool, r = true ↔ P := by
  by_cases h : P
  · exact ⟨true, by simp [h]⟩
  · exact ⟨false, by simp [h]⟩
theorem bool_no {P : Prop} {r : Bool} (h : r = true ↔ P) (n : ¬ P) : r = false := by
  cases r
  · rfl
  · exact absurd (h.1 rfl) n
/-- What spec.validExpr says of the expression x. -/
def VldS (x : Ex) : Prop := ∀ (f : FE) (width deep : Int) (w : World) (r : Bool), ExIn w w.heap.size f x → 1 ≤ width → width ≤ 6 → 0 ≤ deep → deep ≤ 100 → (r = true ↔ ExOk width deep x) →
  Calls Try.prog 69 #[feV f, .int .i64 width, .int .i64 deep] w fun e w' => e = .returned (.bool r) ∧ Below w.heap.size w w'

set_option maxRecDepth 20000 in
set_option maxHeartbeats 4000000 in
theorem validExpr_ok : ∀ x : Ex, VldS x := Ex.ind fun x ih f width deep w r h hw1 hw6 hd0 hd1 hr => by
  obtain ⟨a1, a2, a3, a4, a5, a6⟩ := h.flat
  obtain ⟨W1, hW1⟩ : ∃ z, w.alloc (.cells #[.int .i64 x.kind, .int .i64 x.col, .bool x.val.1, .int .i64 x.val.2, .slice f.sv.A x.kids.length f.sv.c] 66) = z := ⟨_, rfl⟩
  have B1 : Below w.heap.size w W1 := by rw [← hW1]; exact balloc (Below.refl _ _) _
  have r1 : Row W1 w.heap.size 66 [.int .i64 x.kind, .int .i64 x.col, .bool x.val.1, .int .i64 x.val.2, .slice f.sv.A x.kids.length f.sv.c] := by rw [← hW1]; exact Row.new _ _ _
  have hz1 : w.heap.size < W1.heap.size := r1.lt
  have HK := Lib.hid (h.kids_in.on B1)
  have HI := Lib.hid ih
  have HR := Lib.hid hr
  have HB1 := Lib.hid B1
  have HW1 := Lib.hid hW1
  have Hrow := Lib.hid r1
  have hx : x.kids.length ≤ maxLen := by omega
  unfold maxLen at hx
  have c0 : ∀ z : Aft W1.heap.size W1, z.v.cell? ⟨w.heap.size, 0, none⟩ = some (.int .i64 x.kind) := fun z => z.cell hz1 (r1.cell 0)
  have c4 : ∀ z : Aft W1.heap.size W1, z.v.cell? ⟨w.heap.size, 4, none⟩ = some (.slice f.sv.A x.kids.length f.sv.c) := fun z => z.cell hz1 (r1.cell 4)
  have HKid := Lib.hid (fun z : Aft W1.heap.size W1 => (kidsOf_ok x.kind z.v).mono fun e w' ⟨he, hw⟩ => (show e = Ending.returned (.int .i64 (kidsK x.kind)) ∧ Below z.v.heap.size z.v w' from ⟨he, hw ▸ Below.refl _ _⟩))
  unfold feV
  rw [a1, a2, a3, a4]
  clear h ih hr a1 a2 a3 a4 a5 a6 B1 r1 hW1
  by_cases hk : (x.kids.length : Int) = kidsK x.kind
  case neg =>
    have hne : ((x.kids.length : Int) != kidsK x.kind) = true := by simp [hk]
    have Hk := Lib.hid hk
    clear hk
    go_enter Try.func69, Try.ntmps69
    go_upto_region 1 with fail
    rw [HW1.out]
    refine wp_region_aft W1.heap.size (by kernel_rfl) (by kernel_rfl) ?_
    repeat (go_big_quiet_step ((go_at_call 75; exact Calls.aft (Nat.le_refl _) (HKid.out _))))
    refine wpQuiet_nil ?_
    intro w2 hw'
    obtain ⟨⟨_, hb2⟩, rfl⟩ := hw'
    go_wp2
    go_ret
    exact ⟨ret_bool (bool_no HR.out fun ho => Hk.out (exOk_iff.1 ho).1).symm, bch HB1.out hb2⟩
  case pos =>
    have hne : ((x.kids.length : Int) != kidsK x.kind) = false := by simp [hk]
    have Hk := Lib.hid hk
    clear hk
    by_cases hdz : 0 < x.kids.length ∧ deep = 0
    · obtain ⟨hpos, rfl⟩ := hdz
      have hposI : (0 : Int) < (x.kids.length : Int) := by omega
      have Hp := Lib.hid hpos
      go_enter Try.func69, Try.ntmps69
      go_upto_region 1 with fail
      rw [HW1.out]
      refine wp_region_aft W1.heap.size (by kernel_rfl) (by kernel_rfl) ?_
      repeat (go_big_quiet_step ((go_at_call 75; exact Calls.aft (Nat.le_refl _) (HKid.out _))))
      refine wpQuiet_nil ?_
      intro w2 hw'
      obtain ⟨⟨_, hb2⟩, rfl⟩ := hw'
      go_wp2
      go_ret
      exact ⟨ret_bool (bool_no HR.out fun ho => (exOk_iff.1 ho).2.1 Hp.out rfl).symm, bch HB1.out hb2⟩
    · have Hdz := Lib.hid (show 0 < x.kids.length → deep ≠ 0 from fun h1 h2 => hdz ⟨h1, h2⟩)
      have hcase : (0 < x.kids.length ∧ (deep == 0) = false) ∨ ¬ 0 < x.kids.length := by
        by_cases h0 : 0 < x.kids.length
        · exact .inl ⟨h0, by simpa using Hdz.out h0⟩
        · exact .inr h0
      clear hdz
      rcases hcase with ⟨hpos, hdne⟩ | hpos
      all_goals
        go_enter Try.func69, Try.ntmps69
        go_upto_region 1 with fail
        rw [HW1.out]
        refine wp_region_aft W1.heap.size (by kernel_rfl) (by kernel_rfl) ?_
        repeat (go_big_quiet_step ((go_at_call 75; exact Calls.aft (Nat.le_refl _) (HKid.out _))))
        refine wpQuiet_nil ?_
        intro w2 hw'
        obtain ⟨⟨_, hb2⟩, rfl⟩ := hw'
        have hb2' := hb2
        have HB2 := Lib.hid (bch HB1.out hb2)
        have HK2 := Lib.hid (HK.out.on hb2)
        have Hrow2 := Lib.hid (Hrow.out.on hb2)
        have hz2 : w.heap.size < w2.heap.size := Hrow2.out.lt
        clear c0 c4 HKid hb2 hb2' hpos
        go_wp2
        go_loopg [7] x.kids.length (fun g iv wr => ∃ i : Nat, i ≤ x.kids.length ∧ g = x.kids.length - i ∧ iv = .int .i64 i ∧ Below w2.heap.size w2 wr ∧ ∀ j (hj : j < x.kids.length), j < i → ExOk width (deep - 1) x.kids[j])
        case atStart => exact ⟨0, by omega, by omega, rfl, Below.refl _ _, fun j hj hn => absurd hn (by omega)⟩
        case round =>
          obtain ⟨i, hi, rfl, rfl, hb, hall⟩ := hrel
          have HB := Lib.hid hb
          have HA := Lib.hid hall
          have hrow := Hrow2.out.on hb
          have c0 : wr.cell? ⟨w.heap.size, 0, none⟩ = some (.int .i64 x.kind) := hrow.cell 0
          have c1 : wr.cell? ⟨w.heap.size, 1, none⟩ = some (.int .i64 x.col) := hrow.cell 1
          have c2 : wr.cell? ⟨w.heap.size, 2, none⟩ = some (.bool x.val.1) := hrow.cell 2
          have c3 : wr.cell? ⟨w.heap.size, 3, none⟩ = some (.int .i64 x.val.2) := hrow.cell 3
          have c4 : wr.cell? ⟨w.heap.size, 4, none⟩ = some (.slice f.sv.A x.kids.length f.sv.c) := hrow.cell 4
          clear hb hall hrow
          by_cases hlt : i < x.kids.length
          · obtain ⟨b1, o1, g, hA, hB1, ⟨d0, d1, d2, d3, d4⟩, hg⟩ := (HK2.out.on HB.out).at_ hlt
            obtain ⟨rk, hrk⟩ := bool_of (P := ExOk width (deep - 1) x.kids[i])
            have HX := Lib.hid (HI.out _ (List.getElem_mem hlt) g width (deep - 1) wr rk hg hw1 hw6 (by have := Hdz.out (by omega); omega) (by omega) hrk)
            unfold feV at HX
            have Hrk := Lib.hid hrk
            have hil : (i : Int) < (x.kids.length : Int) := by omega
            have HhA := Lib.hid hA
            rw [hA] at c4
            clear hrk hg hA
            go_wp2_with fail
            refine HX.out.mono ?_
            rintro e w3 ⟨rfl, hb3⟩
            cases rk
            · go_wp2
              go_ret
              exact ⟨ret_bool (bool_no HR.out fun ho => by have := Hrk.out.2 ((exOk_iff.1 ho).2.2.1 _ (List.getElem_mem hlt)); cases this).symm, bch (bch HB2.out HB.out) hb3⟩
            · go_wp2
              go_roundg (x.kids.length - (i + 1))
              case measure => omega
              case rel =>
                refine ⟨i + 1, by omega, rfl, by go_num, bch HB.out hb3, fun j hj hn => ?_⟩
                by_cases hji : j < i
                · exact HA.out j hj hji
                · have : j = i := by omega
                  subst this
                  exact (by simpa using Hrk.out)
          · have Hall := Lib.hid (show ∀ y ∈ x.kids, ExOk width (deep - 1) y from fun y hy => by
              obtain ⟨j, hj, rfl⟩ := List.getElem_of_mem hy
              exact HA.out j hj (by omega))
            have Hloc := Lib.hid (show r = true ↔ LocOk width x from HR.out.trans ⟨fun ho => (exOk_iff.1 ho).2.2.2, fun ho => exOk_iff.2 ⟨Hk.out, Hdz.out, Hall.out, ho⟩⟩)
            have HBr := Lib.hid (bch HB2.out HB.out)
            unfold LocOk at Hloc
            by_cases k1 : x.kind = 1
            · rw [if_pos k1] at Hloc
              obtain ⟨q, hq⟩ : ∃ q, (decide (0 ≤ x.col) && decide (x.col ≤ width - 1)) = q := ⟨_, rfl⟩
              obtain ⟨q2, hq2⟩ : ∃ q2, decide (x.val = (false, 0)) = q2 := ⟨_, rfl⟩
              have HIn := Lib.hid (inRange_ok x.col 0 (width - 1) wr q hq)
              have hev := fun z => eqlV (x := x.val) (y := (false, 0)) q2 hq2 z
              have Hq := Lib.hid (And.intro hq hq2)
              rw [k1] at c0
              clear hq hq2 k1
              cases q <;> cases q2
              all_goals
                go_wp2_with fail
                refine HIn.out.mono ?_
                rintro e w3 ⟨rfl, rfl⟩
                go_wp2
                go_ret
                refine ⟨ret_bool ?_, HBr.out⟩
                have h1 := Hq.out.1
                have h2 := Hq.out.2
                have h3 := Hloc.out
                simp at h1 h2
                cases r <;> simp [h1, h2] at h3 ⊢ <;> omega
            · rw [if_neg k1] at Hloc
              have k1' : (x.kind == 1) = false := by simpa using k1
              clear k1
              by_cases k2 : x.kind = 2
              · rw [if_pos k2] at Hloc
                rw [k2] at c0
                clear k1' k2
                obtain ⟨q2, hq2⟩ : ∃ q2, vValid x.val = q2 := ⟨_, rfl⟩
                have HV := Lib.hid (specValidValue_ok x.val wr q2 hq2)
                have Hq2 := Lib.hid hq2
                clear hq2
                by_cases hcol : x.col = 0
                · have Hcol := Lib.hid hcol
                  rw [hcol] at c1
                  clear hcol
                  go_wp2_with fail
                  refine HV.out.mono ?_
                  rintro e w3 ⟨rfl, hb3⟩
                  go_wp2
                  go_ret
                  refine ⟨ret_bool ?_, bch HBr.out hb3⟩
                  have h1 := Hcol.out
                  have h2 := Hq2.out
                  have h3 := Hloc.out
                  cases r <;> simp [h1, h2] at h3 ⊢ <;> simp [h3]
                · have hcol' : (x.col == 0) = false := by simpa using hcol
                  have Hcol := Lib.hid hcol
                  clear hcol
                  go_wp2
                  go_ret
                  refine ⟨ret_bool ?_, HBr.out⟩
                  have h1 := Hcol.out
                  have h3 := Hloc.out
                  cases r <;> simp [h1] at h3 ⊢
              · rw [if_neg k2] at Hloc
                have k2' : (x.kind == 2) = false := by simpa using k2
                clear k2
                obtain ⟨q2, hq2⟩ : ∃ q2, decide (x.val = (false, 0)) = q2 := ⟨_, rfl⟩
                have hev := fun z => eqlV (x := x.val) (y := (false, 0)) q2 hq2 z
                have Hq2 := Lib.hid hq2
                clear hq2
                by_cases hcol : x.col = 0
                · have Hcol := Lib.hid hcol
                  rw [hcol] at c1
                  clear hcol
                  go_wp2
                  go_ret
                  refine ⟨ret_bool ?_, HBr.out⟩
                  have h1 := Hcol.out
                  have h2 := Hq2.out
                  have h3 := Hloc.out
                  cases q2 <;> cases r <;> simp [h1] at h2 h3 ⊢ <;> simp_all
                · have hcol' : (x.col == 0) = false := by simpa using hcol
                  have Hcol := Lib.hid hcol
                  clear hcol
                  go_wp2
                  go_ret
                  refine ⟨ret_bool ?_, HBr.out⟩
                  have h1 := Hcol.out
                  have h3 := Hloc.out
                  cases r <;> simp [h1] at h3 ⊢

set_option maxHeartbeats 1000000 in
theorem specValidExpr_ok (x : Ex) (f : FE) (width : Int) (w : World) (r : Bool) (h : ExIn w w.heap.size f x) (hr : r = true ↔ (1 ≤ width ∧ width ≤ 6) ∧ ExOk width 8 x) :
    Calls Try.prog 55 #[feV f, .int .i64 width] w fun e w' => e = .returned (.bool r) ∧ Below w.heap.size w w' := by
  obtain ⟨W1, hW1⟩ : ∃ z, w.alloc (.cells #[.int .i64 f.kind, .int .i64 f.col, .bool f.val.1, .int .i64 f.val.2, .slice f.sv.A f.sv.n f.sv.c] 66) = z := ⟨_, rfl⟩
  have B1 : Below w.heap.size w W1 := by rw [← hW1]; exact balloc (Below.refl _ _) _
  have r1 : Row W1 w.heap.size 66 [.int .i64 f.kind, .int .i64 f.col, .bool f.val.1, .int .i64 f.val.2, .slice f.sv.A f.sv.n f.sv.c] := by rw [← hW1]; exact Row.new _ _ _
  obtain ⟨q, hq⟩ : ∃ q, (decide (1 ≤ width) && decide (width ≤ 6)) = q := ⟨_, rfl⟩
  have HIn := Lib.hid (inRange_ok width 1 6 W1 q hq)
  have HB1 := Lib.hid B1
  have HW1 := Lib.hid hW1
  have HH := Lib.hid (h.on B1)
  have HR := Lib.hid hr
  have Hq := Lib.hid hq
  have c0 : W1.cell? ⟨w.heap.size, 0, none⟩ = some (.int .i64 f.kind) := r1.cell 0
  have c1 : W1.cell? ⟨w.heap.size, 1, none⟩ = some (.int .i64 f.col) := r1.cell 1
  have c2 : W1.cell? ⟨w.heap.size, 2, none⟩ = some (.bool f.val.1) := r1.cell 2
  have c3 : W1.cell? ⟨w.heap.size, 3, none⟩ = some (.int .i64 f.val.2) := r1.cell 3
  have c4 : W1.cell? ⟨w.heap.size, 4, none⟩ = some (.slice f.sv.A f.sv.n f.sv.c) := r1.cell 4
  unfold feV
  clear h hr hq B1 r1 hW1
  cases q
  · go_enter Try.func55, Try.ntmps55
    go_upto_region 1 with fail
    rw [HW1.out]
    go_wp2_with fail
    refine HIn.out.mono ?_
    rintro e w3 ⟨rfl, rfl⟩
    go_wp2
    go_ret
    refine ⟨ret_bool ?_, HB1.out⟩
    refine (bool_no HR.out fun ho => ?_).symm
    have := Hq.out
    simp at this
    omega
  · have hw : 1 ≤ width ∧ width ≤ 6 := by have := Hq.out; simpa using this
    have HV := Lib.hid (validExpr_ok x f width 8 W1 r HH.out hw.1 hw.2 (by omega) (by omega) (HR.out.trans (and_iff_right hw)))
    unfold feV at HV
    clear hw
    go_enter Try.func55, Try.ntmps55
    go_upto_region 1 with fail
    rw [HW1.out]
    go_wp2_with fail
    refine HIn.out.mono ?_
    rintro e w3 ⟨rfl, rfl⟩
    go_wp2_with fail
    refine HV.out.mono ?_
    rintro e w4 ⟨rfl, hb4⟩
    go_wp2
    go_ret
    exact ⟨ret_bool (by simp), bch HB1.out hb4⟩
end Go.Proofs.Ytcbfbgngkdiijaa
