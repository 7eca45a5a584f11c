/-
  Contracts: RowBound of the reference and of the program. (Printed by wip/rbt.py.)
-/
import Derived.Test.YtnecmacjlggkeaaProg
import Derived.Test.YtnecmacjlggkeaaRbd
import Derived.Test.YtnecmacjlggkeaaPlI
namespace Go.Proofs.Ytnecmacjlggkeaa
open Go.RowKit Go.Qo
set_option linter.unusedVariables false
set_option linter.unusedSimpArgs false

open Classical in
/-- What RowBound says. -/
noncomputable def rbR (ws cs : List Int) (p : Pl) : Int := if widthP ws p ≠ 0 ∧ cs.length = ws.length ∧ CsOk cs then bdW cs 9 p else -1
theorem rbR_no {ws cs : List Int} {p : Pl} (h : ¬ (widthP ws p ≠ 0 ∧ cs.length = ws.length ∧ CsOk cs)) : rbR ws cs p = -1 := by unfold rbR; rw [if_neg h]
theorem rbR_yes {ws cs : List Int} {p : Pl} (h : widthP ws p ≠ 0 ∧ cs.length = ws.length ∧ CsOk cs) : rbR ws cs p = bdW cs 9 p := by unfold rbR; rw [if_pos h]
theorem widthP_ok {ws : List Int} {p : Pl} (h : widthP ws p ≠ 0) : WsOk ws ∧ plW ws 8 p ≠ 0 := by
  unfold widthP at h
  split at h
  · rename_i hw; exact ⟨hw, h⟩
  · exact absurd rfl h

set_option maxRecDepth 20000 in
set_option maxHeartbeats 2000000 in
theorem implRowBound_ok (p : Pl) (f : FP) (ws cs : List Int) (A A' : Option Addr) (c c' : Nat) (w : World) (R : Int) (h : PlIn w w.heap.size f p) (hwl : ws.length ≤ maxLen) (hcl : cs.length ≤ maxLen) (hws : Sl 1 intC w w.heap.size A ws) (hcs : Sl 1 intC w w.heap.size A' cs) (hr : rbR ws cs p = R) :
    Calls Try.prog 17 #[fpV f, .slice A ws.length c, .slice A' cs.length c'] w fun e w' => e = .returned (.int .i64 R) ∧ Below w.heap.size w w' := by
  obtain ⟨W1, hW1⟩ : ∃ z, w.alloc (.cells #[.int .i64 f.kind, .int .i64 f.table, .slice f.es.A f.es.n f.es.c, .slice f.cs.A f.cs.n f.cs.c, .slice f.ks.A f.ks.n f.ks.c] 27) = z := ⟨_, rfl⟩
  have B1 : Below w.heap.size w W1 := by rw [← hW1]; exact balloc (Below.refl _ _) _
  have r1 : Row W1 w.heap.size 27 [.int .i64 f.kind, .int .i64 f.table, .slice f.es.A f.es.n f.es.c, .slice f.cs.A f.cs.n f.cs.c, .slice f.ks.A f.ks.n f.ks.c] := by rw [← hW1]; exact Row.new _ _ _
  obtain ⟨wd, hwd⟩ : ∃ x, widthP ws p = x := ⟨_, rfl⟩
  have HV := Lib.hid (PlanWidth_ok p f ws A c W1 wd (h.on B1) hwl (hws.on B1) hwd)
  unfold fpV at HV
  have HP := Lib.hid (fun (z : World) (hz : Below w.heap.size w z) => h.on hz)
  have HS := Lib.hid (fun (z : World) (hz : Below w.heap.size w z) => hcs.on hz)
  have HW1 := Lib.hid hW1
  have HB1 := Lib.hid B1
  have HR := Lib.hid hr
  have Hrow := Lib.hid r1
  have Hwd := Lib.hid hwd
  have Hl := Lib.hid (And.intro hwl hcl)
  have c0 := r1.cell 0
  have c1 := r1.cell 1
  have c2 := r1.cell 2
  have c3 := r1.cell 3
  have c4 := r1.cell 4
  unfold maxLen at hwl hcl
  unfold fpV
  clear h hws hcs hr hwd hW1 B1 r1
  by_cases h0 : wd = 0
  · subst h0
    have Hz := Lib.hid (show R = -1 by rw [← HR.out]; exact rbR_no fun k => k.1 Hwd.out)
    go_enter Try.func17, Try.ntmps17
    go_upto_region 1 with fail
    rw [HW1.out]
    go_wp2_with fail
    refine HV.out.mono ?_
    rintro e w2 ⟨rfl, hb2⟩
    go_wp2
    go_ret
    exact ⟨ret_int Hz.out.symm, bch HB1.out hb2⟩
  · have h0' : (wd == 0) = false := by simpa using h0
    have H0 := Lib.hid h0
    clear h0
    by_cases hl : cs.length = ws.length
    case neg =>
      have hl' : ((cs.length : Int) != (ws.length : Int)) = true := by
        have : (cs.length : Int) ≠ (ws.length : Int) := by omega
        simpa using this
      have Hz := Lib.hid (show R = -1 by rw [← HR.out]; exact rbR_no fun k => hl k.2.1)
      clear hl
      go_enter Try.func17, Try.ntmps17
      go_upto_region 1 with fail
      rw [HW1.out]
      go_wp2_with fail
      refine HV.out.mono ?_
      rintro e w2 ⟨rfl, hb2⟩
      go_wp2
      go_ret
      exact ⟨ret_int Hz.out.symm, bch HB1.out hb2⟩
    case pos =>
      have hl' : ((cs.length : Int) != (ws.length : Int)) = false := by simp [hl]
      have Hle := Lib.hid hl
      clear hl
      go_enter Try.func17, Try.ntmps17
      go_upto_region 1 with fail
      rw [HW1.out]
      go_wp2_with fail
      refine HV.out.mono ?_
      rintro e w2 ⟨rfl, hb2⟩
      have HB2 := Lib.hid (bch HB1.out hb2)
      have Hr2 := Lib.hid (Hrow.out.on hb2)
      clear hb2 c0 c1 c2 c3 c4
      go_wp2
      go_loopg [8, 22] cs.length (fun g cv iv wr => ∃ i : Nat, i ≤ cs.length ∧ g = cs.length - i ∧ iv = .int .i64 i ∧ w2 = wr ∧ ∀ j (hj : j < cs.length), j < i → 0 ≤ cs[j] ∧ cs[j] ≤ 400)
      case atStart => exact ⟨0, by omega, by omega, rfl, rfl, fun j hj hn => absurd hn (by omega)⟩
      case round =>
        obtain ⟨i, hi, rfl, rfl, rfl, hall⟩ := hrel
        have HA := Lib.hid hall
        clear hall
        by_cases hlt : i < cs.length
        · obtain ⟨b1, o1, hA, hB1, d1⟩ := (HS.out w2 HB2.out).at1 hlt
          subst hA
          have hil : (i : Int) < (cs.length : Int) := by omega
          by_cases h1 : cs[i] < 0
          · have Hbad := Lib.hid (show ¬ (0 ≤ cs[i] ∧ cs[i] ≤ 400) by omega)
            have Hz := Lib.hid (show R = -1 by rw [← HR.out]; exact rbR_no fun k => by have := k.2.2 _ (List.getElem_mem hlt); have := Hbad.out; omega)
            go_wp2
            go_ret
            exact ⟨ret_int Hz.out.symm, HB2.out⟩
          · by_cases h4 : 400 < cs[i]
            · have Hbad := Lib.hid (show ¬ (0 ≤ cs[i] ∧ cs[i] ≤ 400) by omega)
              have Hz := Lib.hid (show R = -1 by rw [← HR.out]; exact rbR_no fun k => by have := k.2.2 _ (List.getElem_mem hlt); have := Hbad.out; omega)
              go_wp2
              go_ret
              exact ⟨ret_int Hz.out.symm, HB2.out⟩
            · have Hyes := Lib.hid (show 0 ≤ cs[i] ∧ cs[i] ≤ 400 by omega)
              go_wp2
              go_roundg (cs.length - (i + 1))
              case measure => omega
              case rel =>
                refine ⟨i + 1, by omega, rfl, by go_num, rfl, fun j hj hn => ?_⟩
                by_cases hji : j < i
                · exact HA.out j hj hji
                · have : j = i := by omega
                  subst this
                  exact Hyes.out
        · have Hok := Lib.hid (show CsOk cs from fun y hy => by
            obtain ⟨j, hj, rfl⟩ := List.getElem_of_mem hy
            exact HA.out j hj (by omega))
          have hyes := rbR_yes (p := p) ⟨by rw [Hwd.out]; exact H0.out, Hle.out, Hok.out⟩
          have hR : bdW cs (8 + 1) p = R := hyes.symm.trans HR.out
          obtain ⟨hwk, hpl⟩ := widthP_ok (ws := ws) (p := p) (by rw [Hwd.out]; exact H0.out)
          have HX := Lib.hid (bound_ok p f w.heap.size 0 ws cs A' c' 8 w2 R Hr2.out.lt ⟨Hr2.out.cell 0, Hr2.out.cell 1, Hr2.out.cell 2, Hr2.out.cell 3, Hr2.out.cell 4⟩ (HP.out w2 HB2.out) hpl Hok.out Hle.out Hl.out.2 (HS.out w2 HB2.out) hR)
          have q0 := Hr2.out.cell 0
          have q1 := Hr2.out.cell 1
          have q2 := Hr2.out.cell 2
          have q3 := Hr2.out.cell 3
          have q4 := Hr2.out.cell 4
          skip
          clear hyes hR hwk hpl
          go_wp2_with fail
          refine HX.out.mono ?_
          rintro e w4 ⟨rfl, hb4⟩
          go_wp2
          go_ret
          exact ⟨rfl, bch HB2.out hb4⟩
end Go.Proofs.Ytnecmacjlggkeaa
