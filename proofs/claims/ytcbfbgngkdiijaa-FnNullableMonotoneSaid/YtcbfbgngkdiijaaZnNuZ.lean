/-
  Contracts: NullableColumns of the reference and of the program.
-/
import Derived.Test.YtcbfbgngkdiijaaProg
import Derived.Test.YtcbfbgngkdiijaaZnNuY
import Derived.Test.YtcbfbgngkdiijaaZnPlI
namespace Go.Proofs.Ytcbfbgngkdiijaa
open Go.RowKit Go.Qo
set_option linter.unusedVariables false
set_option linter.unusedSimpArgs false

open Classical in
/-- What NullableColumns says. -/
noncomputable def nlP (ws : List Int) (fl : List (List Bool)) (p : Pl) : List Bool := if widthP ws p ≠ 0 ∧ FlOk ws fl then nulP fl p else []
theorem nlP_no {ws : List Int} {fl : List (List Bool)} {p : Pl} (h : ¬ (widthP ws p ≠ 0 ∧ FlOk ws fl)) : nlP ws fl p = [] := by unfold nlP; rw [if_neg h]
theorem nlP_yes {ws : List Int} {fl : List (List Bool)} {p : Pl} (h : widthP ws p ≠ 0 ∧ FlOk ws fl) : nlP ws fl p = nulP fl p := by unfold nlP; rw [if_pos h]
theorem widthN_ok {ws : List Int} {p : Pl} (h : widthP ws p ≠ 0) : WsOk ws ∧ plW ws 8 p ≠ 0 := by
  unfold widthP at h
  split at h
  · rename_i hw; exact ⟨hw, h⟩
  · exact absurd rfl h

set_option maxRecDepth 20000 in
set_option maxHeartbeats 2000000 in
theorem specNullCols_ok (p : Pl) (f : FP) (ws : List Int) (fl : List (List Bool)) (A A' : Option Addr) (c c' : Nat) (w : World) (h : PlIn w w.heap.size f p) (hwl : ws.length ≤ maxLen) (hcl : fl.length ≤ maxLen) (hrl : ∀ r ∈ fl, r.length ≤ maxLen) (hws : Sl 1 intC w w.heap.size A ws) (hcs : FlIn w w.heap.size A' fl) :
    Calls Try.prog 7 #[fpV f, .slice A ws.length c, .slice A' fl.length c'] w (OwnB (nlP ws fl p) w) := by
  obtain ⟨W1, hW1⟩ : ∃ z, w.alloc (.cells #[.int .i64 f.kind, .int .i64 f.table, .slice f.es.A f.es.n f.es.c, .slice f.cs.A f.cs.n f.cs.c, .slice f.ks.A f.ks.n f.ks.c] 27) = z := ⟨_, rfl⟩
  have B1 : Below w.heap.size w W1 := by rw [← hW1]; exact balloc (Below.refl _ _) _
  have r1 : Row W1 w.heap.size 27 [.int .i64 f.kind, .int .i64 f.table, .slice f.es.A f.es.n f.es.c, .slice f.cs.A f.cs.n f.cs.c, .slice f.ks.A f.ks.n f.ks.c] := by rw [← hW1]; exact Row.new _ _ _
  obtain ⟨wd, hwd⟩ : ∃ x, widthP ws p = x := ⟨_, rfl⟩
  obtain ⟨R, hR⟩ : ∃ R, nlP ws fl p = R := ⟨_, rfl⟩
  rw [hR]
  have HV := Lib.hid (widthOf_ok p f ws A c W1 wd (h.on B1) hwl (hws.on B1) hwd)
  unfold fpV at HV
  have HP := Lib.hid (fun (z : World) (hz : Below w.heap.size w z) => h.on hz)
  have HS := Lib.hid (fun (z : World) (hz : Below w.heap.size w z) => hcs.on hz)
  obtain ⟨q, hq⟩ := bool_of (P := FlOk ws fl)
  have HVF := Lib.hid (fun (z : World) (hz : Below w.heap.size w z) => validFlags_ok ws fl A A' c c' z q hq hwl hcl hrl (hws.on hz) (hcs.on hz))
  have HW1 := Lib.hid hW1
  have HB1 := Lib.hid B1
  have HR := Lib.hid hR
  have HQ := Lib.hid hq
  have Hrow := Lib.hid r1
  have Hwd := Lib.hid hwd
  have Hl := Lib.hid hcl
  have c0 := r1.cell 0
  have c1 := r1.cell 1
  have c2 := r1.cell 2
  have c3 := r1.cell 3
  have c4 := r1.cell 4
  unfold maxLen at hwl hcl
  unfold fpV
  clear h hws hcs hR hwd hW1 B1 r1 hq hrl
  by_cases h0 : wd = 0
  · subst h0
    have Hz := Lib.hid (show [] = R by rw [← HR.out]; exact (nlP_no fun k => k.1 Hwd.out).symm)
    go_enter Try.func7, Try.ntmps7
    go_upto_region 1 with fail
    rw [HW1.out]
    go_wp2_with fail
    refine HV.out.mono ?_
    rintro e w2 ⟨rfl, hb2⟩
    have H2 := Lib.hid (bch HB1.out hb2)
    clear hb2
    go_wp2
    go_ret
    exact ⟨_, rfl, by rw [← Hz.out]; exact Ow.nil, H2.out⟩
  have h0' : (wd == 0) = false := by simpa using h0
  have H0 := Lib.hid h0
  clear h0
  cases q
  · have Hz := Lib.hid (show [] = R by rw [← HR.out]; exact (nlP_no fun k => by have := HQ.out.2 k.2; cases this).symm)
    go_enter Try.func7, Try.ntmps7
    go_upto_region 1 with fail
    rw [HW1.out]
    go_wp2_with fail
    refine HV.out.mono ?_
    rintro e w2 ⟨rfl, hb2⟩
    have H2 := Lib.hid (bch HB1.out hb2)
    clear hb2
    go_wp2_with fail
    refine (HVF.out _ H2.out).mono ?_
    rintro e w3 ⟨rfl, hb3⟩
    have H3 := Lib.hid (bch H2.out hb3)
    clear hb3
    go_wp2
    go_ret
    exact ⟨_, rfl, by rw [← Hz.out]; exact Ow.nil, H3.out⟩
  · have Hfo := Lib.hid (HQ.out.1 rfl)
    have Hz := Lib.hid (show nulP fl p = R by rw [← HR.out]; exact (nlP_yes ⟨by rw [Hwd.out]; exact H0.out, Hfo.out⟩).symm)
    have Hw := Lib.hid (widthN_ok (ws := ws) (p := p) (by rw [Hwd.out]; exact H0.out))
    have HX := Lib.hid (fun (z : World) (hz : Below w.heap.size w z) => specNullable_ok fl p f ws A' c' 8 z Hw.out.1.2 Hfo.out Hl.out (HP.out _ hz) Hw.out.2 (HS.out _ hz))
    rw [Hz.out] at HX
    unfold fpV at HX
    go_enter Try.func7, Try.ntmps7
    go_upto_region 1 with fail
    rw [HW1.out]
    go_wp2_with fail
    refine HV.out.mono ?_
    rintro e w2 ⟨rfl, hb2⟩
    have H2 := Lib.hid hb2
    clear hb2
    go_wp2_with fail
    refine (HVF.out _ (bch HB1.out H2.out)).mono ?_
    rintro e w3 ⟨rfl, hb3⟩
    have H3 := Lib.hid (bch H2.out hb3)
    have r3 := Hrow.out.on H3.out
    clear hb3 c0 c1 c2 c3 c4
    have c0 := r3.cell 0
    have c1 := r3.cell 1
    have c2 := r3.cell 2
    have c3 := r3.cell 3
    have c4 := r3.cell 4
    clear r3
    go_wp2_with fail
    refine (HX.out _ (bch HB1.out H3.out)).mono ?_
    rintro e w4 ⟨v4, rfl, how4, hb4⟩
    have H4 := Lib.hid (And.intro (how4.low (lo' := w.heap.size) (bch HB1.out H3.out).size) (bch (bch HB1.out H3.out) hb4))
    clear how4 hb4
    go_wp2
    go_ret
    exact ⟨_, rfl, H4.out.1, H4.out.2⟩

set_option maxRecDepth 20000 in
set_option maxHeartbeats 2000000 in
theorem implNullCols_ok (p : Pl) (f : FP) (ws : List Int) (fl : List (List Bool)) (A A' : Option Addr) (c c' : Nat) (w : World) (h : PlIn w w.heap.size f p) (hwl : ws.length ≤ maxLen) (hcl : fl.length ≤ maxLen) (hrl : ∀ r ∈ fl, r.length ≤ maxLen) (hws : Sl 1 intC w w.heap.size A ws) (hcs : FlIn w w.heap.size A' fl) :
    Calls Try.prog 6 #[fpV f, .slice A ws.length c, .slice A' fl.length c'] w (OwnB (nlP ws fl p) w) := by
  obtain ⟨W1, hW1⟩ : ∃ z, w.alloc (.cells #[.int .i64 f.kind, .int .i64 f.table, .slice f.es.A f.es.n f.es.c, .slice f.cs.A f.cs.n f.cs.c, .slice f.ks.A f.ks.n f.ks.c] 27) = z := ⟨_, rfl⟩
  have B1 : Below w.heap.size w W1 := by rw [← hW1]; exact balloc (Below.refl _ _) _
  have r1 : Row W1 w.heap.size 27 [.int .i64 f.kind, .int .i64 f.table, .slice f.es.A f.es.n f.es.c, .slice f.cs.A f.cs.n f.cs.c, .slice f.ks.A f.ks.n f.ks.c] := by rw [← hW1]; exact Row.new _ _ _
  obtain ⟨wd, hwd⟩ : ∃ x, widthP ws p = x := ⟨_, rfl⟩
  obtain ⟨R, hR⟩ : ∃ R, nlP ws fl p = R := ⟨_, rfl⟩
  rw [hR]
  have HV := Lib.hid (PlanWidth_ok p f ws A c W1 wd (h.on B1) hwl (hws.on B1) hwd)
  unfold fpV at HV
  have HP := Lib.hid (fun (z : World) (hz : Below w.heap.size w z) => h.on hz)
  have HS := Lib.hid (fun (z : World) (hz : Below w.heap.size w z) => hcs.on hz)
  have HA := Lib.hid (fun (z : World) (hz : Below w.heap.size w z) => hws.on hz)
  have HRL := Lib.hid hrl
  have HW1 := Lib.hid hW1
  have HB1 := Lib.hid B1
  have HR := Lib.hid hR
  have Hrow := Lib.hid r1
  have Hwd := Lib.hid hwd
  have Hl := Lib.hid hcl
  have c0 := r1.cell 0
  have c1 := r1.cell 1
  have c2 := r1.cell 2
  have c3 := r1.cell 3
  have c4 := r1.cell 4
  unfold maxLen at hwl hcl
  unfold fpV
  clear h hws hcs hR hwd hW1 B1 r1 hrl
  by_cases h0 : wd = 0
  · subst h0
    have Hz := Lib.hid (show [] = R by rw [← HR.out]; exact (nlP_no fun k => k.1 Hwd.out).symm)
    go_enter Try.func6, Try.ntmps6
    go_upto_region 1 with fail
    rw [HW1.out]
    go_wp2_with fail
    refine HV.out.mono ?_
    rintro e w2 ⟨rfl, hb2⟩
    have H2 := Lib.hid (bch HB1.out hb2)
    clear hb2
    go_wp2
    go_ret
    exact ⟨_, rfl, by rw [← Hz.out]; exact Ow.nil, H2.out⟩
  have h0' : (wd == 0) = false := by simpa using h0
  have H0 := Lib.hid h0
  clear h0
  by_cases hl : fl.length = ws.length
  case neg =>
    have hl' : ((fl.length : Int) != (ws.length : Int)) = true := by
      have : (fl.length : Int) ≠ (ws.length : Int) := by omega
      simpa using this
    have Hz := Lib.hid (show [] = R by rw [← HR.out]; exact (nlP_no fun k => hl k.2.1).symm)
    clear hl
    go_enter Try.func6, Try.ntmps6
    go_upto_region 1 with fail
    rw [HW1.out]
    go_wp2_with fail
    refine HV.out.mono ?_
    rintro e w2 ⟨rfl, hb2⟩
    have H2 := Lib.hid (bch HB1.out hb2)
    clear hb2
    go_wp2
    go_ret
    exact ⟨_, rfl, by rw [← Hz.out]; exact Ow.nil, H2.out⟩
  have hl' : ((fl.length : Int) != (ws.length : Int)) = false := by simp [hl]
  have HLe := Lib.hid hl
  clear hl
  go_enter Try.func6, Try.ntmps6
  go_upto_region 1 with fail
  rw [HW1.out]
  go_wp2_with fail
  refine HV.out.mono ?_
  rintro e w2 ⟨rfl, hb2⟩
  have H2 := Lib.hid hb2
  clear hb2 c0 c1 c2 c3 c4
  go_wp2
  go_loopg [22] fl.length (fun gg iv wr => ∃ i : Nat, i ≤ fl.length ∧ gg = fl.length - i ∧ iv = .int .i64 i ∧ w2 = wr ∧ ∀ j, j < i → ∀ (r : List Bool) (x : Int), fl[j]? = some r → ws[j]? = some x → (r.length : Int) = x)
  case atStart => exact ⟨0, by omega, by omega, rfl, rfl, fun j hj => by omega⟩
  case round =>
    obtain ⟨i, hi, rfl, rfl, rfl, hall⟩ := hrel
    have HAll := Lib.hid hall
    clear hall
    by_cases hil : i < fl.length
    · have hiI : (i : Int) < (fl.length : Int) := by omega
      have hir : i < ws.length := by have := HLe.out; omega
      have hiR : (i : Int) < (ws.length : Int) := by omega
      obtain ⟨b1, o1, rfl, hB1, e1⟩ := Ints.at_ (HA.out _ (bch HB1.out H2.out)) hir
      obtain ⟨b2, o2, s, rfl, hB2, e2, hs1, hs2, _⟩ := (HS.out _ (bch HB1.out H2.out)).at_ hil
      have hw : ws[i]? = some ws[i] := List.getElem?_eq_getElem hir
      have hr : fl[i]? = some fl[i] := List.getElem?_eq_getElem hil
      obtain ⟨x, hx⟩ : ∃ x, ws[i] = x := ⟨_, rfl⟩
      obtain ⟨r, hrr⟩ : ∃ r, fl[i] = r := ⟨_, rfl⟩
      rw [hx] at e1 hw
      rw [hrr] at e2 hr hs1
      have HX := Lib.hid (And.intro hw hr)
      clear hw hr hx hrr
      unfold maxLen at hs2
      by_cases he : (r.length : Int) = x
      · have heb : ((r.length : Int) != x) = false := by rw [bne_eq_false_iff_eq]; exact he
        have HE := Lib.hid he
        clear he
        go_wp2
        go_roundg (fl.length - (i + 1))
        case measure => omega
        case rel =>
          refine ⟨i + 1, by omega, rfl, by go_num, rfl, fun j hj r' x' h1 h2 => ?_⟩
          by_cases hji : j = i
          · rw [hji, HX.out.2] at h1
            rw [hji, HX.out.1] at h2
            cases h1
            cases h2
            exact HE.out
          · exact HAll.out j (by omega) r' x' h1 h2
      · have heb : ((r.length : Int) != x) = true := by rw [bne_iff_ne]; exact he
        have Hz := Lib.hid (show [] = R by rw [← HR.out]; exact (nlP_no fun k => he (k.2.2 i r x HX.out.2 HX.out.1)).symm)
        clear he
        go_wp2
        go_ret
        exact ⟨_, rfl, by rw [← Hz.out]; exact Ow.nil, bch HB1.out H2.out⟩
    · have hiI : ¬ (i : Int) < (fl.length : Int) := by omega
      have Hfo := Lib.hid (show FlOk ws fl from ⟨HLe.out, fun j r x h1 h2 => by
        have hj : j < fl.length := by
          rcases Nat.lt_or_ge j fl.length with h | h
          · exact h
          · rw [List.getElem?_eq_none h] at h1; cases h1
        exact HAll.out j (by omega) r x h1 h2⟩)
      have Hz := Lib.hid (show nulP fl p = R by rw [← HR.out]; exact (nlP_yes ⟨by rw [Hwd.out]; exact H0.out, Hfo.out⟩).symm)
      have Hw := Lib.hid (widthN_ok (ws := ws) (p := p) (by rw [Hwd.out]; exact H0.out))
      have r2 := Hrow.out.on H2.out
      have HX := Lib.hid (implNullable_ok fl p f w.heap.size 0 ws A' c' 8 w2 Hw.out.1.2 Hfo.out Hl.out ⟨r2.lt, ⟨r2.cell 0, r2.cell 1, r2.cell 2, r2.cell 3, r2.cell 4⟩, HP.out _ (bch HB1.out H2.out)⟩ Hw.out.2 (HS.out _ (bch HB1.out H2.out)))
      rw [Hz.out] at HX
      clear r2
      go_wp2_with fail
      refine HX.out.mono ?_
      rintro e w4 ⟨v4, rfl, how4, hb4⟩
      have H4 := Lib.hid (And.intro (how4.low (lo' := w.heap.size) (bch HB1.out H2.out).size) (bch (bch HB1.out H2.out) hb4))
      clear how4 hb4
      go_wp2
      go_ret
      exact ⟨_, rfl, H4.out.1, H4.out.2⟩
end Go.Proofs.Ytcbfbgngkdiijaa
