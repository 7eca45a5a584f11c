/-
  Contracts: widths, a plan's own fields, projections, columns, as the reference checks them (validWidths, onlyFields, projectWidth, validCols).
-/
import Derived.Test.YtcbfbgngkdiijaaProg
import Derived.Test.YtcbfbgngkdiijaaPlV
import Derived.Test.YtcbfbgngkdiijaaVlE
import Derived.Test.YtcbfbgngkdiijaaEqP
import Derived.Deep.CutBlock
namespace Go.Proofs.Ytcbfbgngkdiijaa
open Go.RowKit Go.Qo
set_option linter.unusedVariables false
set_option linter.unusedSimpArgs false

def WsOk (ws : List Int) : Prop := (1 ≤ ws.length ∧ ws.length ≤ 4) ∧ ∀ x ∈ ws, 1 ≤ x ∧ x ≤ 6

set_option maxHeartbeats 1000000 in
theorem specValidWidths_ok (ws : List Int) (A : Option Addr) (c : Nat) (w : World) (r : Bool) (hn : ws.length ≤ maxLen) (h : Sl 1 intC w w.heap.size A ws) (hr : r = true ↔ WsOk ws) :
    Calls Try.prog 36 #[.slice A ws.length c] w fun e w' => e = .returned (.bool r) ∧ Below w.heap.size w w' := by
  unfold maxLen at hn
  have HR := Lib.hid hr
  have HH := Lib.hid h
  clear hr h
  go_enter Try.func36, Try.ntmps36
  go_wp2
  go_loopg [3] ws.length (fun g iv wr => ∃ i : Nat, i ≤ ws.length ∧ g = ws.length - i ∧ iv = .int .i64 i ∧ w = wr ∧ ∀ j (hj : j < ws.length), j < i → 1 ≤ ws[j] ∧ ws[j] ≤ 6)
  case atStart => exact ⟨0, by omega, by omega, rfl, rfl, fun j hj hn => absurd hn (by omega)⟩
  case round =>
    obtain ⟨i, hi, rfl, rfl, rfl, hall⟩ := hrel
    have HA := Lib.hid hall
    clear hall
    by_cases hlt : i < ws.length
    · obtain ⟨b1, o1, hA, hB1, c1⟩ := HH.out.at1 hlt
      subst hA
      obtain ⟨q, hq⟩ : ∃ q, (decide (1 ≤ ws[i]) && decide (ws[i] ≤ 6)) = q := ⟨_, rfl⟩
      have HI := Lib.hid (inRange_ok ws[i] 1 6 w q hq)
      have Hq := Lib.hid hq
      have hil : (i : Int) < (ws.length : Int) := by omega
      clear hq
      go_wp2_with fail
      refine HI.out.mono ?_
      rintro e w3 ⟨rfl, rfl⟩
      cases q
      · go_wp2
        go_ret
        refine ⟨ret_bool (bool_no HR.out fun ho => ?_).symm, Below.refl _ _⟩
        have h1 := Hq.out
        have := ho.2 _ (List.getElem_mem hlt)
        simp at h1
        omega
      · go_wp2
        go_roundg (ws.length - (i + 1))
        case measure => omega
        case rel =>
          refine ⟨i + 1, by omega, rfl, by go_num, rfl, fun j hj hn => ?_⟩
          by_cases hji : j < i
          · exact HA.out j hj hji
          · have : j = i := by omega
            subst this
            have h1 := Hq.out
            simpa using h1
    · have Hall := Lib.hid (show ∀ x ∈ ws, 1 ≤ x ∧ x ≤ 6 from fun y hy => by
        obtain ⟨j, hj, rfl⟩ := List.getElem_of_mem hy
        exact HA.out j hj (by omega))
      have HI := Lib.hid (inRange_ok ws.length 1 4 w r (by
        have h1 := HR.out
        have h2 := Hall.out
        cases r
        · have h3 : ¬ WsOk ws := fun ho => by have := h1.2 ho; cases this
          simp
          intro h4
          apply Classical.byContradiction
          intro h5
          exact h3 ⟨⟨by omega, by omega⟩, h2⟩
        · have := (h1.1 rfl).1
          simp
          omega))
      go_wp2_with fail
      refine HI.out.mono ?_
      rintro e w3 ⟨rfl, rfl⟩
      go_wp2
      go_ret
      exact ⟨rfl, Below.refl _ _⟩

set_option maxHeartbeats 1000000 in
theorem validCols_ok (cs : List Int) (A : Option Addr) (c : Nat) (width : Int) (w : World) (r : Bool) (hw0 : 0 ≤ width) (hw1 : width ≤ 100) (hn : cs.length ≤ maxLen) (h : Sl 1 intC w w.heap.size A cs) (hr : r = true ↔ ColsOk cs width) :
    Calls Try.prog 57 #[.slice A cs.length c, .int .i64 width] w fun e w' => e = .returned (.bool r) ∧ Below w.heap.size w w' := by
  unfold maxLen at hn
  have HR := Lib.hid hr
  have HH := Lib.hid h
  clear hr h
  go_enter Try.func57, Try.ntmps57
  go_wp2
  go_loopg [5] cs.length (fun g iv wr => ∃ i : Nat, i ≤ cs.length ∧ g = cs.length - i ∧ iv = .int .i64 i ∧ Below w.heap.size w wr ∧ ∀ j (hj : j < cs.length), j < i → (0 ≤ cs[j] ∧ cs[j] ≤ width - 1) ∧ ∀ c', 0 < j → cs[j - 1]? = some c' → c' < cs[j])
  case atStart => exact ⟨0, by omega, by omega, rfl, Below.refl _ _, fun j hj hn => absurd hn (by omega)⟩
  case round =>
    obtain ⟨i, hi, rfl, rfl, hb, hall⟩ := hrel
    have HA := Lib.hid hall
    have HB := Lib.hid hb
    clear hall hb
    by_cases hlt : i < cs.length
    · obtain ⟨b1, o1, hA, hB1, c1⟩ := (HH.out.on HB.out).at1 hlt
      obtain ⟨q, hq⟩ : ∃ q, (decide (0 ≤ cs[i]) && decide (cs[i] ≤ width - 1)) = q := ⟨_, rfl⟩
      have HI := Lib.hid (fun z : Aft wr.heap.size wr => (inRange_ok cs[i] 0 (width - 1) z.v q hq).mono fun e w' ⟨he, hw⟩ => (show e = Ending.returned (.bool q) ∧ Below z.v.heap.size z.v w' from ⟨he, hw ▸ Below.refl _ _⟩))
      have Hq := Lib.hid hq
      have hil : (i : Int) < (cs.length : Int) := by omega
      have Hno := Lib.hid (show q = false → ¬ ColsOk cs width from fun h0 ho => by
        have h1 := Hq.out
        rw [h0] at h1
        have := (ho i cs[i] (List.getElem?_eq_getElem hlt)).1
        simp at h1
        omega)
      by_cases hpos : 0 < i
      · obtain ⟨k, rfl⟩ : ∃ k, i = k + 1 := ⟨i - 1, by omega⟩
        obtain ⟨b2, o2, hA2, hB2, c2⟩ := (HH.out.on HB.out).at1 (i := k) (by omega)
        rw [hA] at hA2
        cases hA2
        subst hA
        have hki : (0 : Int) ≤ (k : Int) := by omega
        have D1 := fun z : Aft wr.heap.size wr => z.cell hB1 c1
        have D2 := fun z : Aft wr.heap.size wr => z.cell hB2 c2
        clear hq c1 c2
        cases q
        · go_wp2
          refine wp_region_aft wr.heap.size (by kernel_rfl) (by kernel_rfl) ?_
          repeat (go_big_quiet_step ((go_at_call 44; exact Calls.aft (Nat.le_refl _) (HI.out _))))
          refine wpQuiet_nil ?_
          intro w2 hw'
          obtain ⟨⟨_, hb2⟩, rfl⟩ := hw'
          go_wp2
          go_ret
          exact ⟨ret_bool (bool_no HR.out (Hno.out (by trivial))).symm, bch HB.out hb2⟩
        · by_cases hle : cs[k + 1] ≤ cs[k]
          · have Hle := Lib.hid hle
            go_wp2
            refine wp_region_aft wr.heap.size (by kernel_rfl) (by kernel_rfl) ?_
            repeat (go_big_quiet_step ((go_at_call 44; exact Calls.aft (Nat.le_refl _) (HI.out _))))
            refine wpQuiet_nil ?_
            intro w2 hw'
            obtain ⟨⟨_, hb2⟩, rfl⟩ := hw'
            go_wp2
            go_ret
            refine ⟨ret_bool (bool_no HR.out fun ho => ?_).symm, bch HB.out hb2⟩
            have := (ho (k + 1) cs[k + 1] (List.getElem?_eq_getElem hlt)).2 cs[k] (by omega) (List.getElem?_eq_getElem (by omega))
            have := Hle.out
            omega
          · have Hyes := Lib.hid (show (0 ≤ cs[k + 1] ∧ cs[k + 1] ≤ width - 1) ∧ ∀ c', 0 < k + 1 → cs[k + 1 - 1]? = some c' → c' < cs[k + 1] from ⟨by have := Hq.out; simpa using this, fun c' _ hc => by
              rw [show k + 1 - 1 = k from rfl, List.getElem?_eq_getElem (show k < cs.length by omega)] at hc
              cases hc
              omega⟩)
            go_wp2
            refine wp_region_aft wr.heap.size (by kernel_rfl) (by kernel_rfl) ?_
            repeat (go_big_quiet_step ((go_at_call 44; exact Calls.aft (Nat.le_refl _) (HI.out _))))
            refine wpQuiet_nil ?_
            intro w2 hw'
            obtain ⟨⟨_, hb2⟩, rfl⟩ := hw'
            go_wp2
            go_roundg (cs.length - ((k + 1) + 1))
            case measure => omega
            case rel =>
              refine ⟨(k + 1) + 1, by omega, rfl, by go_num, bch HB.out hb2, fun j hj hn => ?_⟩
              by_cases hji : j < (k + 1)
              · exact HA.out j hj hji
              · have : j = (k + 1) := by omega
                subst this
                exact Hyes.out
      · have hi0 : i = 0 := by omega
        subst hi0
        subst hA
        have c1' : wr.cell? ⟨b1, o1, none⟩ = some (.int .i64 cs[0]) := by simpa using c1
        have D1 := fun z : Aft wr.heap.size wr => z.cell hB1 c1'
        clear hq c1 c1'
        cases q
        · go_wp2
          refine wp_region_aft wr.heap.size (by kernel_rfl) (by kernel_rfl) ?_
          repeat (go_big_quiet_step ((go_at_call 44; exact Calls.aft (Nat.le_refl _) (HI.out _))))
          refine wpQuiet_nil ?_
          intro w2 hw'
          obtain ⟨⟨_, hb2⟩, rfl⟩ := hw'
          go_wp2
          go_ret
          exact ⟨ret_bool (bool_no HR.out (Hno.out (by trivial))).symm, bch HB.out hb2⟩
        · have Hyes := Lib.hid (show (0 ≤ cs[0] ∧ cs[0] ≤ width - 1) ∧ ∀ c', 0 < 0 → cs[0 - 1]? = some c' → c' < cs[0] from ⟨by have := Hq.out; simpa using this, fun c' h0 _ => absurd h0 (by omega)⟩)
          go_wp2
          refine wp_region_aft wr.heap.size (by kernel_rfl) (by kernel_rfl) ?_
          repeat (go_big_quiet_step ((go_at_call 44; exact Calls.aft (Nat.le_refl _) (HI.out _))))
          refine wpQuiet_nil ?_
          intro w2 hw'
          obtain ⟨⟨_, hb2⟩, rfl⟩ := hw'
          go_wp2
          go_roundg (cs.length - (0 + 1))
          case measure => omega
          case rel =>
            refine ⟨0 + 1, by omega, rfl, by go_num, bch HB.out hb2, fun j hj hn => ?_⟩
            by_cases hji : j < 0
            · exact HA.out j hj hji
            · have : j = 0 := by omega
              subst this
              exact Hyes.out
    · have hrt : r = true := HR.out.2 fun i c hc => by
        obtain ⟨hj, rfl⟩ := List.getElem?_eq_some_iff.1 hc
        exact HA.out i hj (by omega)
      go_wp2
      go_ret
      exact ⟨ret_bool hrt.symm, HB.out⟩

open Classical in
/-- The width of a projection. -/
noncomputable def projW (es : List Ex) (a : Int) : Int := if (∀ e ∈ es, EOk a e) ∧ es.length ≤ 6 then es.length else 0
theorem projW_no {es : List Ex} {a : Int} {e : Ex} (h : e ∈ es) (hn : ¬ EOk a e) : projW es a = 0 := by
  unfold projW; rw [if_neg fun k => hn (k.1 e h)]

set_option maxRecDepth 20000 in
set_option maxHeartbeats 1000000 in
theorem projectWidth_ok (es : List Ex) (A : Option Addr) (c : Nat) (width : Int) (w : World) (R : Int) (hn : es.length ≤ maxLen) (h : ExsIn w w.heap.size A es) (hr : projW es width = R) :
    Calls Try.prog 56 #[.slice A es.length c, .int .i64 width] w fun e w' => e = .returned (.int .i64 R) ∧ Below w.heap.size w w' := by
  unfold maxLen at hn
  have HR := Lib.hid hr
  have HH := Lib.hid h
  clear hr h
  go_enter Try.func56, Try.ntmps56
  go_wp2
  go_loopg [5] es.length (fun g iv wr => ∃ i : Nat, i ≤ es.length ∧ g = es.length - i ∧ iv = .int .i64 i ∧ Below w.heap.size w wr ∧ ∀ j (hj : j < es.length), j < i → EOk width es[j])
  case atStart => exact ⟨0, by omega, by omega, rfl, Below.refl _ _, fun j hj hn => absurd hn (by omega)⟩
  case round =>
    obtain ⟨i, hi, rfl, rfl, hb, hall⟩ := hrel
    have HA := Lib.hid hall
    have HB := Lib.hid hb
    clear hall hb
    by_cases hlt : i < es.length
    · obtain ⟨b1, o1, g, hA, hB1, ⟨d0, d1, d2, d3, d4⟩, hg⟩ := (HH.out.on HB.out).at_ hlt
      obtain ⟨q, hq⟩ := bool_of (P := EOk width es[i])
      have HV := Lib.hid (specValidExpr_ok es[i] g width wr q hg hq)
      unfold feV at HV
      have Hq := Lib.hid hq
      have hil : (i : Int) < (es.length : Int) := by omega
      subst hA
      clear hq hg
      go_wp2_with fail
      refine HV.out.mono ?_
      rintro e w3 ⟨rfl, hb3⟩
      cases q
      · have hz : R = 0 := by
          rw [← HR.out]
          exact projW_no (List.getElem_mem hlt) fun ho => by have := Hq.out.2 ho; cases this
        go_wp2
        go_ret
        exact ⟨ret_int hz.symm, bch HB.out hb3⟩
      · go_wp2
        go_roundg (es.length - (i + 1))
        case measure => omega
        case rel =>
          refine ⟨i + 1, by omega, rfl, by go_num, bch HB.out hb3, fun j hj hn => ?_⟩
          by_cases hji : j < i
          · exact HA.out j hj hji
          · have : j = i := by omega
            subst this
            exact (by simpa using Hq.out)
    · have Hall := Lib.hid (show ∀ x ∈ es, EOk width x from fun y hy => by
        obtain ⟨j, hj, rfl⟩ := List.getElem_of_mem hy
        exact HA.out j hj (by omega))
      by_cases h6 : 6 < es.length
      · have hz : R = 0 := by
          rw [← HR.out]; unfold projW; rw [if_neg fun k => by omega]
        go_wp2
        go_ret
        exact ⟨ret_int hz.symm, HB.out⟩
      · have hz : R = es.length := by
          rw [← HR.out]; unfold projW; rw [if_pos ⟨Hall.out, by omega⟩]
        go_wp2
        go_ret
        exact ⟨ret_int hz.symm, HB.out⟩

set_option maxRecDepth 20000 in
set_option maxHeartbeats 2000000 in
theorem onlyFields_ok (p : Pl) (f : FP) (w : World) (r : Bool) (h : PlIn w w.heap.size f p) (hr : r = true ↔ OnlyF p) :
    Calls Try.prog 54 #[fpV f] w fun e w' => e = .returned (.bool r) ∧ Below w.heap.size w w' := by
  obtain ⟨a1, a2, ⟨a3, a3', a3''⟩, ⟨a4, a4', a4''⟩, ⟨a5, a5', a5''⟩, a6, a7⟩ := h.flat
  obtain ⟨W1, hW1⟩ : ∃ z, w.alloc (.cells #[.int .i64 p.kind, .int .i64 p.table, .slice f.es.A p.exprs.length f.es.c, .slice f.cs.A p.cols.length f.cs.c, .slice f.ks.A p.kids.length f.ks.c] 27) = z := ⟨_, rfl⟩
  have B1 : Below w.heap.size w W1 := by rw [← hW1]; exact balloc (Below.refl _ _) _
  have r1 : Row W1 w.heap.size 27 [.int .i64 p.kind, .int .i64 p.table, .slice f.es.A p.exprs.length f.es.c, .slice f.cs.A p.cols.length f.cs.c, .slice f.ks.A p.kids.length f.ks.c] := by rw [← hW1]; exact Row.new _ _ _
  have c0 : W1.cell? ⟨w.heap.size, 0, none⟩ = some (.int .i64 p.kind) := r1.cell 0
  have c1 : W1.cell? ⟨w.heap.size, 1, none⟩ = some (.int .i64 p.table) := r1.cell 1
  have c2 : W1.cell? ⟨w.heap.size, 2, none⟩ = some (.slice f.es.A p.exprs.length f.es.c) := r1.cell 2
  have c3 : W1.cell? ⟨w.heap.size, 3, none⟩ = some (.slice f.cs.A p.cols.length f.cs.c) := r1.cell 3
  have c4 : W1.cell? ⟨w.heap.size, 4, none⟩ = some (.slice f.ks.A p.kids.length f.ks.c) := r1.cell 4
  have HB1 := Lib.hid B1
  have HW1 := Lib.hid hW1
  have HR := Lib.hid hr
  unfold OnlyF at HR
  obtain ⟨k, hk⟩ : ∃ k, p.kind = k := ⟨_, rfl⟩
  obtain ⟨ne, hne⟩ : ∃ n, p.exprs.length = n := ⟨_, rfl⟩
  obtain ⟨nk, hnk⟩ : ∃ n, p.kids.length = n := ⟨_, rfl⟩
  obtain ⟨nc, hnc⟩ : ∃ n, p.cols.length = n := ⟨_, rfl⟩
  obtain ⟨tb, htb⟩ : ∃ n, p.table = n := ⟨_, rfl⟩
  unfold fpV
  rw [a1, a2, a3, a4, a5]
  have hx : ne ≤ maxLen ∧ nk ≤ maxLen ∧ nc ≤ maxLen := by omega
  unfold maxLen at hx
  obtain ⟨hx1, hx2, hx3⟩ := hx
  clear h hr a1 a2 a3 a4 a5 a3' a3'' a4' a4'' a5' a5'' a6 a7 B1 r1 hW1
  rw [hk] at c0 HR HW1 ⊢
  rw [hne] at c2 HR HW1 ⊢
  rw [hnk] at c4 HR HW1 ⊢
  rw [hnc] at c3 HR HW1 ⊢
  rw [htb] at c1 HR HW1 ⊢
  clear hk hne hnk hnc htb
  go_enter Try.func54, Try.ntmps54
  go_upto_region 1 with fail
  rw [HW1.out]
  go_upto_block 0 with fail
  go_cut [3, 4] (fun s3 s4 wx => s3 = .int .i64 (nkids k) ∧ s4 = .int .i64 (nexprs k ne) ∧ W1 = wx)
  case first =>
    have hk : k = 1 ∨ k = 2 ∨ k = 3 ∨ k = 4 ∨ k = 5 ∨ k = 6 ∨ (¬ k = 1 ∧ ¬ k = 2 ∧ ¬ k = 3 ∧ ¬ k = 4 ∧ ¬ k = 5 ∧ ¬ k = 6) := by omega
    rcases hk with rfl | rfl | rfl | rfl | rfl | rfl | h
    case inr.inr.inr.inr.inr.inr =>
      have e1 : nkids k = 1 := by unfold nkids; rw [if_neg (by omega), if_neg (by omega)]
      have e2 : nexprs k ne = 0 := by unfold nexprs; rw [if_neg (by omega), if_neg (by omega)]
      have E := Lib.hid (And.intro e1 e2)
      clear e1 e2
      obtain ⟨h1, h2, h3, h4, h5, h6⟩ := h
      go_wp2
      go_meet
      exact ⟨by rw [E.out.1], by rw [E.out.2], rfl⟩
    all_goals
      go_wp2
      go_meet
      exact ⟨rfl, rfl, rfl⟩
  case rest =>
    obtain ⟨rfl, rfl, rfl⟩ := hcut
    obtain ⟨q, hq⟩ : ∃ q, (decide (1 ≤ k) && decide (k ≤ 8)) = q := ⟨_, rfl⟩
    have HI := Lib.hid (inRange_ok k 1 8 W1 q hq)
    have Hq := Lib.hid hq
    clear hq
    cases q
    · have Hno := Lib.hid (show ¬ ((1 ≤ k ∧ k ≤ 8) ∧ (nk : Int) = nkids k ∧ (ne : Int) = nexprs k ne ∧ (tb = 0 ∨ k = 1) ∧ (nc = 0 ∨ k = 8)) from fun ho => by have h1 := Hq.out; simp at h1; omega)
      go_wp2_with fail
      refine HI.out.mono ?_
      rintro e w3 ⟨rfl, rfl⟩
      go_wp2
      go_ret
      exact ⟨ret_bool (bool_no HR.out fun ho => Hno.out ho).symm, HB1.out⟩
    · have hkr : 1 ≤ k ∧ k ≤ 8 := by have h1 := Hq.out; simpa using h1
      by_cases hB : (nk : Int) = nkids k
      case neg =>
        have Hno := Lib.hid (show ¬ ((1 ≤ k ∧ k ≤ 8) ∧ (nk : Int) = nkids k ∧ (ne : Int) = nexprs k ne ∧ (tb = 0 ∨ k = 1) ∧ (nc = 0 ∨ k = 8)) from fun ho => hB ho.2.1)
        have hB' : ((nk : Int) == nkids k) = false := by simpa using hB
        clear hB
        go_wp2_with fail
        refine HI.out.mono ?_
        rintro e w3 ⟨rfl, rfl⟩
        go_wp2
        go_ret
        exact ⟨ret_bool (bool_no HR.out fun ho => Hno.out ho).symm, HB1.out⟩
      case pos =>
        have HBe := Lib.hid hB
        have hB' : ((nk : Int) == nkids k) = true := by simpa using hB
        clear hB
        by_cases hC : (ne : Int) = nexprs k ne
        case neg =>
          have Hno := Lib.hid (show ¬ ((1 ≤ k ∧ k ≤ 8) ∧ (nk : Int) = nkids k ∧ (ne : Int) = nexprs k ne ∧ (tb = 0 ∨ k = 1) ∧ (nc = 0 ∨ k = 8)) from fun ho => hC ho.2.2.1)
          have hC' : ((ne : Int) == nexprs k ne) = false := by simpa using hC
          clear hC
          go_wp2_with fail
          refine HI.out.mono ?_
          rintro e w3 ⟨rfl, rfl⟩
          go_wp2
          go_ret
          exact ⟨ret_bool (bool_no HR.out fun ho => Hno.out ho).symm, HB1.out⟩
        case pos =>
          have HCe := Lib.hid hC
          have hC' : ((ne : Int) == nexprs k ne) = true := by simpa using hC
          clear hC
          have hcs : (¬ tb = 0 ∧ ¬ k = 1) ∨ ((tb = 0 ∨ (¬ tb = 0 ∧ k = 1)) ∧ ((¬ nc = 0 ∧ ¬ k = 8) ∨ nc = 0 ∨ (¬ nc = 0 ∧ k = 8))) := by omega
          rcases hcs with ⟨h1, h2⟩ | ⟨h1, h2⟩
          · have Hno := Lib.hid (show ¬ ((1 ≤ k ∧ k ≤ 8) ∧ (nk : Int) = nkids k ∧ (ne : Int) = nexprs k ne ∧ (tb = 0 ∨ k = 1) ∧ (nc = 0 ∨ k = 8)) from fun ho => by omega)
            have h1' : (tb == 0) = false := by simpa using h1
            have h2' : (k == 1) = false := by simpa using h2
            clear h1 h2
            go_wp2_with fail
            refine HI.out.mono ?_
            rintro e w3 ⟨rfl, rfl⟩
            go_wp2
            go_ret
            exact ⟨ret_bool (bool_no HR.out fun ho => Hno.out ho).symm, HB1.out⟩
          · have Ht := Lib.hid (show tb = 0 ∨ k = 1 by omega)
            rcases h2 with ⟨h2, h3⟩ | h2
            · have Hno := Lib.hid (show ¬ ((1 ≤ k ∧ k ≤ 8) ∧ (nk : Int) = nkids k ∧ (ne : Int) = nexprs k ne ∧ (tb = 0 ∨ k = 1) ∧ (nc = 0 ∨ k = 8)) from fun ho => by omega)
              have h2' : ((nc : Int) == 0) = false := by simpa using h2
              have h2n : (nc == 0) = false := by simpa using h2
              have h3' : (k == 8) = false := by simpa using h3
              clear h2 h3
              rcases h1 with rfl | ⟨h1, rfl⟩
              · go_wp2_with fail
                refine HI.out.mono ?_
                rintro e w3 ⟨rfl, rfl⟩
                go_wp2
                go_ret
                exact ⟨ret_bool (bool_no HR.out fun ho => Hno.out ho).symm, HB1.out⟩
              · have h1' : (tb == 0) = false := by simpa using h1
                clear h1
                go_wp2_with fail
                refine HI.out.mono ?_
                rintro e w3 ⟨rfl, rfl⟩
                go_wp2
                go_ret
                exact ⟨ret_bool (bool_no HR.out fun ho => Hno.out ho).symm, HB1.out⟩
            · have Hyes := Lib.hid (show ((1 ≤ k ∧ k ≤ 8) ∧ (nk : Int) = nkids k ∧ (ne : Int) = nexprs k ne ∧ (tb = 0 ∨ k = 1) ∧ (nc = 0 ∨ k = 8)) from ⟨hkr, HBe.out, HCe.out, Ht.out, by omega⟩)
              rcases h2 with rfl | ⟨h2, rfl⟩
              · rcases h1 with rfl | ⟨h1, rfl⟩
                · go_wp2_with fail
                  refine HI.out.mono ?_
                  rintro e w3 ⟨rfl, rfl⟩
                  go_wp2
                  go_ret
                  exact ⟨ret_bool (HR.out.2 Hyes.out).symm, HB1.out⟩
                · have h1' : (tb == 0) = false := by simpa using h1
                  clear h1
                  go_wp2_with fail
                  refine HI.out.mono ?_
                  rintro e w3 ⟨rfl, rfl⟩
                  go_wp2
                  go_ret
                  exact ⟨ret_bool (HR.out.2 Hyes.out).symm, HB1.out⟩
              · have h2' : ((nc : Int) == 0) = false := by simpa using h2
                have h2n : (nc == 0) = false := by simpa using h2
                clear h2
                rcases h1 with rfl | ⟨h1, h3⟩
                · go_wp2_with fail
                  refine HI.out.mono ?_
                  rintro e w3 ⟨rfl, rfl⟩
                  go_wp2
                  go_ret
                  exact ⟨ret_bool (HR.out.2 Hyes.out).symm, HB1.out⟩
                · exact absurd h3 (by decide)
end Go.Proofs.Ytcbfbgngkdiijaa
