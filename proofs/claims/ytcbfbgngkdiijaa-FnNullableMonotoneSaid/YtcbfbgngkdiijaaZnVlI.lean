/-
  Contracts: which expressions are valid, as the program says it (validBelow, ValidExpr).
-/
import Derived.Test.YtcbfbgngkdiijaaProg
import Derived.Test.YtcbfbgngkdiijaaZnVlE
namespace Go.Proofs.Ytcbfbgngkdiijaa
open Go.RowKit Go.Qo
set_option linter.unusedVariables false
set_option linter.unusedSimpArgs false

/-- What validBelow says of the expression x, whose cells lie at b, o. -/
def VldI (x : Ex) : Prop := ∀ (f : FE) (b o : Nat) (width deep : Int) (w : World) (r : Bool), b < w.heap.size → FeAt w b o f → ExIn w w.heap.size f x → 1 ≤ width → width ≤ 6 → 0 ≤ deep → deep ≤ 100 → (r = true ↔ ExOk width deep x) →
  Calls Try.prog 76 #[.pointer (some ⟨b, o, none⟩), .int .i64 width, .int .i64 deep] w fun e w' => e = .returned (.bool r) ∧ Below w.heap.size w w'

set_option maxRecDepth 20000 in
set_option maxHeartbeats 4000000 in
theorem validBelow_ok : ∀ x : Ex, VldI x := Ex.ind fun x ih f b o width deep w r hbw hat h hw1 hw6 hd0 hd1 hr => by
  obtain ⟨a1, a2, a3, a4, a5, a6⟩ := h.flat
  obtain ⟨c0, c1, c2, c3, c4⟩ := hat
  rw [a1] at c0
  rw [a2] at c1
  rw [a3] at c2 c3
  rw [a4] at c4
  have HK := Lib.hid h.kids_in
  have HI := Lib.hid ih
  have HR := Lib.hid hr
  have hx : x.kids.length ≤ maxLen := by omega
  unfold maxLen at hx
  have HKid := Lib.hid (kidsOfKind_ok x.kind w)
  clear h ih hr a1 a2 a3 a4 a5 a6
  by_cases hk : (x.kids.length : Int) = kidsK x.kind
  case neg =>
    have hne : ((x.kids.length : Int) != kidsK x.kind) = true := by simp [hk]
    have Hk := Lib.hid hk
    clear hk
    go_enter Try.func76, Try.ntmps76
    go_wp2_with fail
    refine HKid.out.mono ?_
    rintro e w2 ⟨rfl, rfl⟩
    go_wp2
    go_ret
    exact ⟨ret_bool (bool_no HR.out fun ho => Hk.out (exOk_iff.1 ho).1).symm, Below.refl _ _⟩
  case pos =>
    rw [← hk] at HKid
    have Hk := Lib.hid hk
    clear hk
    by_cases hdz : 0 < x.kids.length ∧ deep = 0
    · obtain ⟨hpos, rfl⟩ := hdz
      have hposI : (0 : Int) < (x.kids.length : Int) := by omega
      have Hp := Lib.hid hpos
      go_enter Try.func76, Try.ntmps76
      go_wp2_with fail
      refine HKid.out.mono ?_
      rintro e w2 ⟨rfl, rfl⟩
      go_wp2
      go_ret
      exact ⟨ret_bool (bool_no HR.out fun ho => (exOk_iff.1 ho).2.1 Hp.out rfl).symm, Below.refl _ _⟩
    · have Hdz := Lib.hid (show 0 < x.kids.length → deep ≠ 0 from fun h1 h2 => hdz ⟨h1, h2⟩)
      have hcase : (0 < x.kids.length ∧ (deep == 0) = false) ∨ ¬ 0 < x.kids.length := by
        by_cases h0 : 0 < x.kids.length
        · exact .inl ⟨h0, by simpa using Hdz.out h0⟩
        · exact .inr h0
      have hloc : (x.kind = 1 ∧ x.col < 0) ∨ (x.kind = 1 ∧ ¬ x.col < 0 ∧ width ≤ x.col) ∨ (x.kind = 1 ∧ ¬ x.col < 0 ∧ ¬ width ≤ x.col) ∨ (x.kind = 2 ∧ ¬ x.col = 0) ∨ (x.kind = 2 ∧ x.col = 0) ∨ (¬ x.kind = 1 ∧ ¬ x.kind = 2 ∧ ¬ x.col = 0) ∨ (¬ x.kind = 1 ∧ ¬ x.kind = 2 ∧ x.col = 0) := by omega
      obtain ⟨q2, hq2⟩ : ∃ q2, vValid x.val = q2 := ⟨_, rfl⟩
      have HV := Lib.hid (implValid_ok x.val w q2 hq2)
      obtain ⟨q3, hq3⟩ : ∃ q3, decide (x.val ≠ (false, 0)) = q3 := ⟨_, rfl⟩
      have hev := fun z => neqVal (x := x.val) (y := (false, 0)) q3 hq3 z
      have Hq2 := Lib.hid hq2
      have Hq3 := Lib.hid hq3
      clear hdz hq2 hq3
      rcases hloc with ⟨k1, k2⟩ | ⟨k1, k2, k3⟩ | ⟨k1, k2, k3⟩ | ⟨k1, k2⟩ | ⟨k1, k2⟩ | ⟨k1, k3, k2⟩ | ⟨k1, k3, k2⟩
      · rw [k1] at c0 HKid
        have Hno := Lib.hid (show ¬ LocOk width x by unfold LocOk; rw [if_pos k1]; omega)
        clear k1
        rcases hcase with ⟨hpos, hdne⟩ | hpos
        all_goals
          go_enter Try.func76, Try.ntmps76
          go_wp2_with fail
          refine HKid.out.mono ?_
          rintro e w2 ⟨rfl, rfl⟩
          go_wp2
          go_ret
          exact ⟨ret_bool (bool_no HR.out fun ho => Hno.out (exOk_iff.1 ho).2.2.2).symm, Below.refl _ _⟩
      · rw [k1] at c0 HKid
        have Hno := Lib.hid (show ¬ LocOk width x by unfold LocOk; rw [if_pos k1]; omega)
        clear k1
        rcases hcase with ⟨hpos, hdne⟩ | hpos
        all_goals
          go_enter Try.func76, Try.ntmps76
          go_wp2_with fail
          refine HKid.out.mono ?_
          rintro e w2 ⟨rfl, rfl⟩
          go_wp2
          go_ret
          exact ⟨ret_bool (bool_no HR.out fun ho => Hno.out (exOk_iff.1 ho).2.2.2).symm, Below.refl _ _⟩
      · rw [k1] at c0 HKid
        cases q3
        · have Hyes := Lib.hid (show LocOk width x by unfold LocOk; rw [if_pos k1]; have := Hq3.out; simp at this; exact ⟨⟨by omega, by omega⟩, this⟩)
          clear k1
          rcases hcase with ⟨hpos, hdne⟩ | hpos
          all_goals
            go_enter Try.func76, Try.ntmps76
            go_wp2_with fail
            refine HKid.out.mono ?_
            rintro e w2 ⟨rfl, rfl⟩
            have HK2 := HK
            have hbw2 := hbw
            have C4 := c4
            have HB2 := Lib.hid (Below.refl w.heap.size w)
            go_wp2
            clear HKid HV hev c0 c1 c2 c3 c4 hpos
            go_loopg [96] x.kids.length (fun g iv wr => ∃ i : Nat, i ≤ x.kids.length ∧ g = x.kids.length - i ∧ iv = .int .i64 i ∧ Below w.heap.size w wr ∧ ∀ j (hj : j < x.kids.length), j < i → ExOk width (deep - 1) x.kids[j])
            case atStart => exact ⟨0, by omega, by omega, rfl, Below.refl _ _, fun j hj hn => absurd hn (by omega)⟩
            case round =>
              obtain ⟨i, hi, rfl, rfl, hb, hall⟩ := hrel
              have HB := Lib.hid hb
              have HA := Lib.hid hall
              have c4 : wr.cell? ⟨b, o + 4, none⟩ = some (.slice f.sv.A x.kids.length f.sv.c) := (hb.cell (p := ⟨b, o + 4, none⟩) hbw2).trans C4
              clear hb hall
              by_cases hlt : i < x.kids.length
              · obtain ⟨b1, o1, g, hA, hB1, hat, hg⟩ := (HK2.out.on HB.out).at_ hlt
                obtain ⟨rk, hrk⟩ := bool_of (P := ExOk width (deep - 1) x.kids[i])
                have HX := Lib.hid (HI.out _ (List.getElem_mem hlt) g b1 _ width (deep - 1) wr rk hB1 hat hg hw1 hw6 (by have := Hdz.out (by omega); omega) (by omega) hrk)
                have Hrk := Lib.hid hrk
                have hil : (i : Int) < (x.kids.length : Int) := by omega
                rw [hA] at c4
                clear hrk hg hA hat
                go_wp2_with fail
                refine HX.out.mono ?_
                rintro e w3 ⟨rfl, hb3⟩
                cases rk
                · go_wp2
                  go_ret
                  exact ⟨ret_bool (bool_no HR.out fun ho => by have := Hrk.out.2 ((exOk_iff.1 ho).2.2.1 _ (List.getElem_mem hlt)); cases this).symm, bch (bch HB2.out HB.out) hb3⟩
                · go_wp2
                  go_roundg (x.kids.length - (i + 1))
                  case measure => omega
                  case rel =>
                    refine ⟨i + 1, by omega, rfl, by go_num, bch HB.out hb3, fun j hj hn => ?_⟩
                    by_cases hji : j < i
                    · exact HA.out j hj hji
                    · have : j = i := by omega
                      subst this
                      exact (by simpa using Hrk.out)
              · have Hall := Lib.hid (show ∀ y ∈ x.kids, ExOk width (deep - 1) y from fun y hy => by
                  obtain ⟨j, hj, rfl⟩ := List.getElem_of_mem hy
                  exact HA.out j hj (by omega))
                have hrt : r = true := HR.out.2 (exOk_iff.2 ⟨Hk.out, Hdz.out, Hall.out, Hyes.out⟩)
                go_wp2
                go_ret
                exact ⟨ret_bool hrt.symm, bch HB2.out HB.out⟩
        · have Hno := Lib.hid (show ¬ LocOk width x by unfold LocOk; rw [if_pos k1]; have := Hq3.out; simp at this; exact fun h => this h.2)
          clear k1
          rcases hcase with ⟨hpos, hdne⟩ | hpos
          all_goals
            go_enter Try.func76, Try.ntmps76
            go_wp2_with fail
            refine HKid.out.mono ?_
            rintro e w2 ⟨rfl, rfl⟩
            go_wp2
            go_ret
            exact ⟨ret_bool (bool_no HR.out fun ho => Hno.out (exOk_iff.1 ho).2.2.2).symm, Below.refl _ _⟩
      · rw [k1] at c0 HKid
        have Hno := Lib.hid (show ¬ LocOk width x by unfold LocOk; rw [if_neg (by omega), if_pos k1]; exact fun h => k2 h.1)
        have hcol' : (x.col != 0) = true := by simpa using k2
        clear k1 k2
        rcases hcase with ⟨hpos, hdne⟩ | hpos
        all_goals
          go_enter Try.func76, Try.ntmps76
          go_wp2_with fail
          refine HKid.out.mono ?_
          rintro e w2 ⟨rfl, rfl⟩
          go_wp2
          go_ret
          exact ⟨ret_bool (bool_no HR.out fun ho => Hno.out (exOk_iff.1 ho).2.2.2).symm, Below.refl _ _⟩
      · rw [k1] at c0 HKid
        rw [k2] at c1
        cases q2
        · have Hno := Lib.hid (show ¬ LocOk width x by unfold LocOk; rw [if_neg (by omega), if_pos k1]; have := Hq2.out; simp [this])
          clear k1 k2
          rcases hcase with ⟨hpos, hdne⟩ | hpos
          all_goals
            go_enter Try.func76, Try.ntmps76
            go_wp2_with fail
            refine HKid.out.mono ?_
            rintro e w2 ⟨rfl, rfl⟩
            go_wp2_with fail
            refine HV.out.mono ?_
            rintro e w2 ⟨rfl, hb2⟩
            go_wp2
            go_ret
            exact ⟨ret_bool (bool_no HR.out fun ho => Hno.out (exOk_iff.1 ho).2.2.2).symm, hb2⟩
        · have Hyes := Lib.hid (show LocOk width x by unfold LocOk; rw [if_neg (by omega), if_pos k1]; exact ⟨k2, Hq2.out⟩)
          clear k1 k2
          rcases hcase with ⟨hpos, hdne⟩ | hpos
          all_goals
            go_enter Try.func76, Try.ntmps76
            go_wp2_with fail
            refine HKid.out.mono ?_
            rintro e w2 ⟨rfl, rfl⟩
            go_wp2_with fail
            refine HV.out.mono ?_
            rintro e w2 ⟨rfl, hb2⟩
            have HK2 := Lib.hid (HK.out.on hb2)
            have hbw2 : b < w2.heap.size := by have := hb2.size; omega
            have C0 : w2.cell? ⟨b, o, none⟩ = w.cell? ⟨b, o, none⟩ := hb2.cell (p := ⟨b, o, none⟩) hbw
            have C4 : w2.cell? ⟨b, o + 4, none⟩ = w.cell? ⟨b, o + 4, none⟩ := hb2.cell (p := ⟨b, o + 4, none⟩) hbw
            rw [c0] at C0
            rw [c4] at C4
            have HB2 := Lib.hid hb2
            clear hb2
            go_wp2
            clear HKid HV hev c0 c1 c2 c3 c4 hpos
            go_loopg [96] x.kids.length (fun g iv wr => ∃ i : Nat, i ≤ x.kids.length ∧ g = x.kids.length - i ∧ iv = .int .i64 i ∧ Below w2.heap.size w2 wr ∧ ∀ j (hj : j < x.kids.length), j < i → ExOk width (deep - 1) x.kids[j])
            case atStart => exact ⟨0, by omega, by omega, rfl, Below.refl _ _, fun j hj hn => absurd hn (by omega)⟩
            case round =>
              obtain ⟨i, hi, rfl, rfl, hb, hall⟩ := hrel
              have HB := Lib.hid hb
              have HA := Lib.hid hall
              have c4 : wr.cell? ⟨b, o + 4, none⟩ = some (.slice f.sv.A x.kids.length f.sv.c) := (hb.cell (p := ⟨b, o + 4, none⟩) hbw2).trans C4
              clear hb hall
              by_cases hlt : i < x.kids.length
              · obtain ⟨b1, o1, g, hA, hB1, hat, hg⟩ := (HK2.out.on HB.out).at_ hlt
                obtain ⟨rk, hrk⟩ := bool_of (P := ExOk width (deep - 1) x.kids[i])
                have HX := Lib.hid (HI.out _ (List.getElem_mem hlt) g b1 _ width (deep - 1) wr rk hB1 hat hg hw1 hw6 (by have := Hdz.out (by omega); omega) (by omega) hrk)
                have Hrk := Lib.hid hrk
                have hil : (i : Int) < (x.kids.length : Int) := by omega
                rw [hA] at c4
                clear hrk hg hA hat
                go_wp2_with fail
                refine HX.out.mono ?_
                rintro e w3 ⟨rfl, hb3⟩
                cases rk
                · go_wp2
                  go_ret
                  exact ⟨ret_bool (bool_no HR.out fun ho => by have := Hrk.out.2 ((exOk_iff.1 ho).2.2.1 _ (List.getElem_mem hlt)); cases this).symm, bch (bch HB2.out HB.out) hb3⟩
                · go_wp2
                  go_roundg (x.kids.length - (i + 1))
                  case measure => omega
                  case rel =>
                    refine ⟨i + 1, by omega, rfl, by go_num, bch HB.out hb3, fun j hj hn => ?_⟩
                    by_cases hji : j < i
                    · exact HA.out j hj hji
                    · have : j = i := by omega
                      subst this
                      exact (by simpa using Hrk.out)
              · have Hall := Lib.hid (show ∀ y ∈ x.kids, ExOk width (deep - 1) y from fun y hy => by
                  obtain ⟨j, hj, rfl⟩ := List.getElem_of_mem hy
                  exact HA.out j hj (by omega))
                have hrt : r = true := HR.out.2 (exOk_iff.2 ⟨Hk.out, Hdz.out, Hall.out, Hyes.out⟩)
                go_wp2
                go_ret
                exact ⟨ret_bool hrt.symm, bch HB2.out HB.out⟩
      · have k1' : (x.kind == 1) = false := by simpa using k1
        have k3' : (x.kind == 2) = false := by simpa using k3
        have k1'' : (x.kind != 1) = true := by simpa using k1
        have k3'' : (x.kind != 2) = true := by simpa using k3
        have Hno := Lib.hid (show ¬ LocOk width x by unfold LocOk; rw [if_neg k1, if_neg k3]; exact fun h => k2 h.1)
        have hcol' : (x.col != 0) = true := by simpa using k2
        clear k1 k2 k3
        rcases hcase with ⟨hpos, hdne⟩ | hpos
        all_goals
          go_enter Try.func76, Try.ntmps76
          go_wp2_with fail
          refine HKid.out.mono ?_
          rintro e w2 ⟨rfl, rfl⟩
          go_wp2
          go_ret
          exact ⟨ret_bool (bool_no HR.out fun ho => Hno.out (exOk_iff.1 ho).2.2.2).symm, Below.refl _ _⟩
      · have k1' : (x.kind == 1) = false := by simpa using k1
        have k3' : (x.kind == 2) = false := by simpa using k3
        have k1'' : (x.kind != 1) = true := by simpa using k1
        have k3'' : (x.kind != 2) = true := by simpa using k3
        rw [k2] at c1
        cases q3
        · have Hyes := Lib.hid (show LocOk width x by unfold LocOk; rw [if_neg k1, if_neg k3]; have := Hq3.out; simp at this; exact ⟨k2, this⟩)
          clear k1 k2 k3
          rcases hcase with ⟨hpos, hdne⟩ | hpos
          all_goals
            go_enter Try.func76, Try.ntmps76
            go_wp2_with fail
            refine HKid.out.mono ?_
            rintro e w2 ⟨rfl, rfl⟩
            have HK2 := HK
            have hbw2 := hbw
            have C4 := c4
            have HB2 := Lib.hid (Below.refl w.heap.size w)
            go_wp2
            clear HKid HV hev c0 c1 c2 c3 c4 hpos
            go_loopg [96] x.kids.length (fun g iv wr => ∃ i : Nat, i ≤ x.kids.length ∧ g = x.kids.length - i ∧ iv = .int .i64 i ∧ Below w.heap.size w wr ∧ ∀ j (hj : j < x.kids.length), j < i → ExOk width (deep - 1) x.kids[j])
            case atStart => exact ⟨0, by omega, by omega, rfl, Below.refl _ _, fun j hj hn => absurd hn (by omega)⟩
            case round =>
              obtain ⟨i, hi, rfl, rfl, hb, hall⟩ := hrel
              have HB := Lib.hid hb
              have HA := Lib.hid hall
              have c4 : wr.cell? ⟨b, o + 4, none⟩ = some (.slice f.sv.A x.kids.length f.sv.c) := (hb.cell (p := ⟨b, o + 4, none⟩) hbw2).trans C4
              clear hb hall
              by_cases hlt : i < x.kids.length
              · obtain ⟨b1, o1, g, hA, hB1, hat, hg⟩ := (HK2.out.on HB.out).at_ hlt
                obtain ⟨rk, hrk⟩ := bool_of (P := ExOk width (deep - 1) x.kids[i])
                have HX := Lib.hid (HI.out _ (List.getElem_mem hlt) g b1 _ width (deep - 1) wr rk hB1 hat hg hw1 hw6 (by have := Hdz.out (by omega); omega) (by omega) hrk)
                have Hrk := Lib.hid hrk
                have hil : (i : Int) < (x.kids.length : Int) := by omega
                rw [hA] at c4
                clear hrk hg hA hat
                go_wp2_with fail
                refine HX.out.mono ?_
                rintro e w3 ⟨rfl, hb3⟩
                cases rk
                · go_wp2
                  go_ret
                  exact ⟨ret_bool (bool_no HR.out fun ho => by have := Hrk.out.2 ((exOk_iff.1 ho).2.2.1 _ (List.getElem_mem hlt)); cases this).symm, bch (bch HB2.out HB.out) hb3⟩
                · go_wp2
                  go_roundg (x.kids.length - (i + 1))
                  case measure => omega
                  case rel =>
                    refine ⟨i + 1, by omega, rfl, by go_num, bch HB.out hb3, fun j hj hn => ?_⟩
                    by_cases hji : j < i
                    · exact HA.out j hj hji
                    · have : j = i := by omega
                      subst this
                      exact (by simpa using Hrk.out)
              · have Hall := Lib.hid (show ∀ y ∈ x.kids, ExOk width (deep - 1) y from fun y hy => by
                  obtain ⟨j, hj, rfl⟩ := List.getElem_of_mem hy
                  exact HA.out j hj (by omega))
                have hrt : r = true := HR.out.2 (exOk_iff.2 ⟨Hk.out, Hdz.out, Hall.out, Hyes.out⟩)
                go_wp2
                go_ret
                exact ⟨ret_bool hrt.symm, bch HB2.out HB.out⟩
        · have Hno := Lib.hid (show ¬ LocOk width x by unfold LocOk; rw [if_neg k1, if_neg k3]; have := Hq3.out; simp at this; exact fun h => this h.2)
          clear k1 k2 k3
          rcases hcase with ⟨hpos, hdne⟩ | hpos
          all_goals
            go_enter Try.func76, Try.ntmps76
            go_wp2_with fail
            refine HKid.out.mono ?_
            rintro e w2 ⟨rfl, rfl⟩
            go_wp2
            go_ret
            exact ⟨ret_bool (bool_no HR.out fun ho => Hno.out (exOk_iff.1 ho).2.2.2).symm, Below.refl _ _⟩

set_option maxHeartbeats 1000000 in
theorem implValidExpr_ok (x : Ex) (f : FE) (width : Int) (w : World) (r : Bool) (h : ExIn w w.heap.size f x) (hr : r = true ↔ (1 ≤ width ∧ width ≤ 6) ∧ ExOk width 8 x) :
    Calls Try.prog 66 #[feV f, .int .i64 width] w fun e w' => e = .returned (.bool r) ∧ Below w.heap.size w w' := by
  obtain ⟨W1, hW1⟩ : ∃ z, w.alloc (.cells #[.int .i64 f.kind, .int .i64 f.col, .bool f.val.1, .int .i64 f.val.2, .slice f.sv.A f.sv.n f.sv.c] 66) = z := ⟨_, rfl⟩
  have B1 : Below w.heap.size w W1 := by rw [← hW1]; exact balloc (Below.refl _ _) _
  have r1 : Row W1 w.heap.size 66 [.int .i64 f.kind, .int .i64 f.col, .bool f.val.1, .int .i64 f.val.2, .slice f.sv.A f.sv.n f.sv.c] := by rw [← hW1]; exact Row.new _ _ _
  obtain ⟨q, hq⟩ : ∃ q, (decide (1 ≤ width) && decide (width ≤ 6)) = q := ⟨_, rfl⟩
  have HIn := Lib.hid (validWidth_ok width W1 q hq)
  have HB1 := Lib.hid B1
  have HW1 := Lib.hid hW1
  have HH := Lib.hid (h.on B1)
  have HR := Lib.hid hr
  have Hq := Lib.hid hq
  have c0 : W1.cell? ⟨w.heap.size, 0, none⟩ = some (.int .i64 f.kind) := r1.cell 0
  have c1 : W1.cell? ⟨w.heap.size, 1, none⟩ = some (.int .i64 f.col) := r1.cell 1
  have c2 : W1.cell? ⟨w.heap.size, 2, none⟩ = some (.bool f.val.1) := r1.cell 2
  have c3 : W1.cell? ⟨w.heap.size, 3, none⟩ = some (.int .i64 f.val.2) := r1.cell 3
  have c4 : W1.cell? ⟨w.heap.size, 4, none⟩ = some (.slice f.sv.A f.sv.n f.sv.c) := r1.cell 4
  have hat := Lib.hid (show FeAt W1 w.heap.size 0 f from ⟨c0, c1, c2, c3, c4⟩)
  have hlt := r1.lt
  unfold feV
  clear h hr hq B1 r1 hW1 c0 c1 c2 c3 c4
  cases q
  · go_enter Try.func66, Try.ntmps66
    go_upto_region 1 with fail
    rw [HW1.out]
    go_wp2_with fail
    refine HIn.out.mono ?_
    rintro e w3 ⟨rfl, rfl⟩
    go_wp2
    go_ret
    refine ⟨ret_bool ?_, HB1.out⟩
    refine (bool_no HR.out fun ho => ?_).symm
    have := Hq.out
    simp at this
    omega
  · have hw : 1 ≤ width ∧ width ≤ 6 := by have := Hq.out; simpa using this
    have HV := Lib.hid (validBelow_ok x f w.heap.size 0 width 8 W1 r hlt hat.out HH.out hw.1 hw.2 (by omega) (by omega) (HR.out.trans (and_iff_right hw)))
    clear hw
    go_enter Try.func66, Try.ntmps66
    go_upto_region 1 with fail
    rw [HW1.out]
    go_wp2_with fail
    refine HIn.out.mono ?_
    rintro e w3 ⟨rfl, rfl⟩
    go_wp2_with fail
    refine HV.out.mono ?_
    rintro e w4 ⟨rfl, hb4⟩
    go_wp2
    go_ret
    exact ⟨ret_bool (by simp), bch HB1.out hb4⟩
end Go.Proofs.Ytcbfbgngkdiijaa
