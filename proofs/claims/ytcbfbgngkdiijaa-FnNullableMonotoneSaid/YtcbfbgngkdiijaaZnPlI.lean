/-
  Contracts: how wide a plan is, as the program says it (partsOfKind, validGroupColumns, widthOver, widthBelow, validWidths, PlanWidth).
-/
import Derived.Test.YtcbfbgngkdiijaaProg
import Derived.Test.YtcbfbgngkdiijaaZnPlS
import Derived.Test.YtcbfbgngkdiijaaZnVlI
namespace Go.Proofs.Ytcbfbgngkdiijaa
open Go.RowKit Go.Qo
set_option linter.unusedVariables false
set_option linter.unusedSimpArgs false

def ipE (k : Int) : Int := if k = 2 ∨ k = 3 ∨ k = 4 ∨ k = 5 then 1 else 0
def ipK (k : Int) : Int := if k = 1 then 0 else if k = 4 ∨ k = 5 ∨ k = 6 then 2 else if 2 ≤ k ∧ k ≤ 8 then 1 else -1
set_option maxHeartbeats 1000000 in
theorem partsOfKind_ok (k : Int) (w : World) : Calls Try.prog 50 #[.int .i64 k] w fun e w' => e = .returned (.tuple #[.int .i64 (ipE k), .int .i64 (ipK k)]) ∧ w = w' := by
  have hk : k = 1 ∨ k = 2 ∨ k = 3 ∨ k = 4 ∨ k = 5 ∨ k = 6 ∨ k = 7 ∨ k = 8 ∨ (¬ k = 1 ∧ ¬ k = 2 ∧ ¬ k = 3 ∧ ¬ k = 4 ∧ ¬ k = 5 ∧ ¬ k = 6 ∧ ¬ k = 7 ∧ ¬ k = 8) := by omega
  rcases hk with rfl | rfl | rfl | rfl | rfl | rfl | rfl | rfl | h
  case inr.inr.inr.inr.inr.inr.inr.inr =>
    have E := Lib.hid (show ipE k = 0 ∧ ipK k = -1 by unfold ipE ipK; rw [if_neg (by omega), if_neg (by omega), if_neg (by omega), if_neg (by omega)]; exact ⟨rfl, rfl⟩)
    rw [E.out.1, E.out.2]
    obtain ⟨h1, h2, h3, h4, h5, h6, h7, h8⟩ := h
    go_enter Try.func50, Try.ntmps50
    go_wp2
    go_ret2
    exact ⟨rfl, rfl⟩
  all_goals
    go_enter Try.func50, Try.ntmps50
    go_wp2
    go_ret2
    exact ⟨rfl, rfl⟩

set_option maxHeartbeats 1000000 in
theorem validGroup_ok (cs : List Int) (A : Option Addr) (c : Nat) (width : Int) (w : World) (r : Bool) (hn : cs.length ≤ maxLen) (h : Sl 1 intC w w.heap.size A cs) (hr : r = true ↔ ColsOk cs width ∧ cs.length < 6) :
    Calls Try.prog 65 #[.slice A cs.length c, .int .i64 width] w fun e w' => e = .returned (.bool r) ∧ Below w.heap.size w w' := by
  unfold maxLen at hn
  have HR := Lib.hid hr
  have HH := Lib.hid h
  clear hr h
  by_cases h6 : 6 ≤ cs.length
  · have Hz := Lib.hid (show r = false from bool_no HR.out fun ho => by omega)
    have h6I : (6 : Int) ≤ (cs.length : Int) := by omega
    go_enter Try.func65, Try.ntmps65
    go_wp2
    go_ret
    exact ⟨ret_bool Hz.out.symm, Below.refl _ _⟩
  · have h6I : ¬ (6 : Int) ≤ (cs.length : Int) := by omega
    go_enter Try.func65, Try.ntmps65
    go_wp2
    go_loopg [5, 7, 13] cs.length (fun g lv cv iv wr => ∃ (i : Nat) (la : Int), i ≤ cs.length ∧ g = cs.length - i ∧ iv = .int .i64 i ∧ lv = .int .i64 la ∧ w = wr ∧ (i = 0 ∧ la = -1 ∨ 0 < i ∧ cs[i - 1]? = some la ∧ 0 ≤ la) ∧ ∀ j (hj : j < cs.length), j < i → (0 ≤ cs[j] ∧ cs[j] ≤ width - 1) ∧ ∀ c', 0 < j → cs[j - 1]? = some c' → c' < cs[j])
    case atStart => exact ⟨0, -1, by omega, by omega, rfl, rfl, rfl, .inl ⟨rfl, rfl⟩, fun j hj hn => absurd hn (by omega)⟩
    case round =>
      obtain ⟨i, la, hi, rfl, rfl, rfl, rfl, hla, hall⟩ := hrel
      have HA := Lib.hid hall
      have HL := Lib.hid hla
      have hl1 := Lib.hid (show -1 ≤ la by rcases hla with ⟨_, h⟩ | ⟨_, _, h⟩ <;> omega)
      clear hall hla
      by_cases hlt : i < cs.length
      · obtain ⟨b1, o1, hA, hB1, c1⟩ := HH.out.at1 hlt
        subst hA
        have hil : (i : Int) < (cs.length : Int) := by omega
        have Hc := Lib.hid (List.getElem?_eq_getElem hlt)
        have Hno := Lib.hid (show ColsOk cs width → la < cs[i] ∧ cs[i] < width from fun ho => by
          have h1 := ho i cs[i] Hc.out
          rcases HL.out with ⟨h2, h3⟩ | ⟨h2, h3, h4⟩
          · omega
          · have := h1.2 la h2 h3; omega)
        by_cases hle : cs[i] ≤ la
        · have Hle := Lib.hid hle
          go_wp2
          go_ret
          exact ⟨ret_bool (bool_no HR.out fun ho => by have := Hno.out ho.1; have := Hle.out; omega).symm, Below.refl _ _⟩
        · by_cases hge : width ≤ cs[i]
          · have Hge := Lib.hid hge
            go_wp2
            go_ret
            exact ⟨ret_bool (bool_no HR.out fun ho => by have := Hno.out ho.1; have := Hge.out; omega).symm, Below.refl _ _⟩
          · have Hyes := Lib.hid (show (0 ≤ cs[i] ∧ cs[i] ≤ width - 1) ∧ ∀ c', 0 < i → cs[i - 1]? = some c' → c' < cs[i] from by
              have := hl1.out
              refine ⟨by omega, fun c' h0 hc => ?_⟩
              rcases HL.out with ⟨h2, h3⟩ | ⟨h2, h3, h4⟩
              · omega
              · rw [h3] at hc
                cases hc
                omega)
            go_wp2
            go_roundg (cs.length - (i + 1))
            case measure => omega
            case rel =>
              refine ⟨i + 1, cs[i], by omega, rfl, by go_num, rfl, rfl, .inr ⟨by omega, Hc.out, Hyes.out.1.1⟩, fun j hj hn => ?_⟩
              by_cases hji : j < i
              · exact HA.out j hj hji
              · have : j = i := by omega
                subst this
                exact Hyes.out
      · have hrt : r = true := HR.out.2 ⟨fun i c hc => by
          obtain ⟨hj, rfl⟩ := List.getElem?_eq_some_iff.1 hc
          exact HA.out i hj (by omega), by omega⟩
        go_wp2
        go_ret
        exact ⟨ret_bool hrt.symm, Below.refl _ _⟩

set_option maxHeartbeats 1000000 in
theorem implValidWidths_ok (ws : List Int) (A : Option Addr) (c : Nat) (w : World) (r : Bool) (hn : ws.length ≤ maxLen) (h : Sl 1 intC w w.heap.size A ws) (hr : r = true ↔ WsOk ws) :
    Calls Try.prog 30 #[.slice A ws.length c] w fun e w' => e = .returned (.bool r) ∧ Below w.heap.size w w' := by
  unfold maxLen at hn
  have HR := Lib.hid hr
  have HH := Lib.hid h
  clear hr h
  by_cases h1 : ws.length < 1
  · have h1I : (ws.length : Int) < 1 := by omega
    have Hz := Lib.hid (show r = false from bool_no HR.out fun ho => by have := ho.1; omega)
    go_enter Try.func30, Try.ntmps30
    go_wp2
    go_ret
    exact ⟨ret_bool Hz.out.symm, Below.refl _ _⟩
  · have h1I : ¬ (ws.length : Int) < 1 := by omega
    by_cases h4 : 4 < ws.length
    · have h4I : (4 : Int) < (ws.length : Int) := by omega
      have Hz := Lib.hid (show r = false from bool_no HR.out fun ho => by have := ho.1; omega)
      go_enter Try.func30, Try.ntmps30
      go_wp2
      go_ret
      exact ⟨ret_bool Hz.out.symm, Below.refl _ _⟩
    · have h4I : ¬ (4 : Int) < (ws.length : Int) := by omega
      go_enter Try.func30, Try.ntmps30
      go_wp2
      go_loopg [4, 15] ws.length (fun g cv iv wr => ∃ i : Nat, i ≤ ws.length ∧ g = ws.length - i ∧ iv = .int .i64 i ∧ w = wr ∧ ∀ j (hj : j < ws.length), j < i → 1 ≤ ws[j] ∧ ws[j] ≤ 6)
      case atStart => exact ⟨0, by omega, by omega, rfl, rfl, fun j hj hn => absurd hn (by omega)⟩
      case round =>
        obtain ⟨i, hi, rfl, rfl, rfl, hall⟩ := hrel
        have HA := Lib.hid hall
        clear hall
        by_cases hlt : i < ws.length
        · obtain ⟨b1, o1, hA, hB1, c1⟩ := HH.out.at1 hlt
          subst hA
          obtain ⟨q, hq⟩ : ∃ q, (decide (1 ≤ ws[i]) && decide (ws[i] ≤ 6)) = q := ⟨_, rfl⟩
          have HI := Lib.hid (validWidth_ok ws[i] w q hq)
          have Hq := Lib.hid hq
          have hil : (i : Int) < (ws.length : Int) := by omega
          clear hq
          go_wp2_with fail
          refine HI.out.mono ?_
          rintro e w3 ⟨rfl, rfl⟩
          cases q
          · go_wp2
            go_ret
            refine ⟨ret_bool (bool_no HR.out fun ho => ?_).symm, Below.refl _ _⟩
            have h1 := Hq.out
            have := ho.2 _ (List.getElem_mem hlt)
            simp at h1
            omega
          · go_wp2
            go_roundg (ws.length - (i + 1))
            case measure => omega
            case rel =>
              refine ⟨i + 1, by omega, rfl, by go_num, rfl, fun j hj hn => ?_⟩
              by_cases hji : j < i
              · exact HA.out j hj hji
              · have : j = i := by omega
                subst this
                have h1 := Hq.out
                simpa using h1
        · have hrt : r = true := HR.out.2 ⟨by omega, fun y hy => by
            obtain ⟨j, hj, rfl⟩ := List.getElem_of_mem hy
            exact HA.out j hj (by omega)⟩
          go_wp2
          go_ret
          exact ⟨ret_bool hrt.symm, Below.refl _ _⟩

def WoI (p : Pl) : Prop := ∀ (f : FP) (ws : List Int) (b o : Nat) (x y : Int) (w : World) (R : Int), b < w.heap.size → FpAt w b o f → PlIn w w.heap.size f p → OnlyF p → p.kind ≠ 1 → (p.kind = 3 → p.exprs.length ≤ 6) → (0 ≤ x ∧ x ≤ 6) → (0 ≤ y ∧ y ≤ 6) → topW ws p x y = R →
  Calls Try.prog 51 #[.pointer (some ⟨b, o, none⟩), .int .i64 x, .int .i64 y] w fun e w' => e = .returned (.int .i64 R) ∧ Below w.heap.size w w'
theorem topW3' {ws : List Int} {p : Pl} {a b : Int} (h : p.kind = 3) (h6 : p.exprs.length ≤ 6) : (topW ws p a b = p.exprs.length ∧ ∀ e ∈ p.exprs, EOk a e) ∨ (topW ws p a b = 0 ∧ ∃ e ∈ p.exprs, ¬ EOk a e) := by
  rw [topW3 h]
  unfold projW
  by_cases hh : ∀ e ∈ p.exprs, EOk a e
  · exact .inl ⟨by rw [if_pos ⟨hh, h6⟩], hh⟩
  · refine .inr ⟨by rw [if_neg fun k => hh k.1], ?_⟩
    apply Classical.byContradiction
    intro hn
    exact hh fun e he => Classical.byContradiction fun h1 => hn ⟨e, he, h1⟩

set_option maxRecDepth 20000 in
set_option maxHeartbeats 4000000 in
theorem widthOver_ok (p : Pl) : WoI p := fun f ws b o x y w R hb hat h hof hk1 hk3 hx hy hr => by
  obtain ⟨a1, a2, ⟨a3, a3', a3''⟩, ⟨a4, a4', a4''⟩, ⟨a5, a5', a5''⟩, a6, a7⟩ := h.flat
  obtain ⟨c0, c1, c2, c3, c4⟩ := hat
  rw [a1] at c0
  rw [a3] at c2
  rw [a4] at c3
  have BX := Lib.hid (fun (z : World) (hz : Below w.heap.size w z) => show z.cell? ⟨b, o, none⟩ = some (.int .i64 p.kind) ∧ z.cell? ⟨b, o + 2, none⟩ = some (.slice f.es.A p.exprs.length f.es.c)
    from ⟨(hz.cell (p := ⟨b, o, none⟩) hb).trans c0, (hz.cell (p := ⟨b, o + 2, none⟩) hb).trans c2⟩)
  have HE := Lib.hid a6
  have HC := Lib.hid a7
  have Hof := Lib.hid hof
  have HR := Lib.hid hr
  have H3 := Lib.hid hk3
  have hxl : p.exprs.length ≤ maxLen ∧ p.cols.length ≤ maxLen := by omega
  unfold maxLen at hxl
  obtain ⟨hx1, hx3⟩ := hxl
  clear h hof hr hk3 a1 a2 a3 a4 a5 a3' a3'' a4' a4'' a5' a5'' a6 a7 c1 c4
  have hk8 : p.kind = 2 ∨ p.kind = 3 ∨ p.kind = 4 ∨ p.kind = 5 ∨ p.kind = 6 ∨ p.kind = 7 ∨ p.kind = 8 := by have := Hof.out.1; omega
  rcases hk8 with hk | hk | hk | hk | hk | hk | hk
  · rw [hk] at c0
    have Hno := Lib.hid (show (∃ e ∈ p.exprs, ¬ EOk x e) → R = 0 from fun ⟨e, he, hn⟩ => by rw [← HR.out, topW2 hk, if_neg fun k => hn (k e he)])
    have Hyes := Lib.hid (show (∀ e ∈ p.exprs, EOk x e) → R = x from fun hh => by rw [← HR.out, topW2 hk, if_pos hh])
    go_enter Try.func51, Try.ntmps51
    go_wp2
    go_loopg [8, 47] p.exprs.length (fun g iv cv wr => ∃ i : Nat, i ≤ p.exprs.length ∧ g = p.exprs.length - i ∧ cv = .int .i64 i ∧ Below w.heap.size w wr ∧ ∀ j (hj : j < p.exprs.length), j < i → EOk (x) p.exprs[j])
    case atStart => exact ⟨0, by omega, by omega, rfl, Below.refl _ _, fun j hj hn => absurd hn (by omega)⟩
    case round =>
      obtain ⟨i, hi, rfl, rfl, hbb, hall⟩ := hrel
      have HB := Lib.hid hbb
      have HA := Lib.hid hall
      have c0 := (BX.out wr hbb).1
      have c2 := (BX.out wr hbb).2
      rw [hk] at c0
      clear hbb hall
      by_cases hlt : i < p.exprs.length
      · obtain ⟨b1, o1, g, hA, hB1, ⟨d0, d1, d2, d3, d4⟩, hg⟩ := (HE.out.on HB.out).at_ hlt
        obtain ⟨q, hq⟩ := bool_of (P := EOk (x) p.exprs[i])
        have HV := Lib.hid (implValidExpr_ok p.exprs[i] g (x) wr q hg hq)
        unfold feV at HV
        have Hq := Lib.hid hq
        have hil : (i : Int) < (p.exprs.length : Int) := by omega
        rw [hA] at c2
        clear hq hg hA
        go_wp2_with fail
        refine HV.out.mono ?_
        rintro e w3 ⟨rfl, hb3⟩
        cases q
        · have Hz := Lib.hid (Hno.out ⟨_, List.getElem_mem hlt, fun ho => by have := Hq.out.2 ho; cases this⟩)
          go_wp2
          go_ret
          exact ⟨ret_int Hz.out.symm, bch HB.out hb3⟩
        · go_wp2
          go_roundg (p.exprs.length - (i + 1))
          case measure => omega
          case rel =>
            refine ⟨i + 1, by omega, rfl, by go_num, bch HB.out hb3, fun j hj hn => ?_⟩
            by_cases hji : j < i
            · exact HA.out j hj hji
            · have : j = i := by omega
              subst this
              exact (by simpa using Hq.out)
      · have Hz := Lib.hid (Hyes.out (fun e he => by
          obtain ⟨j, hj, rfl⟩ := List.getElem_of_mem he
          exact HA.out j hj (by omega)))
        go_wp2
        go_ret
        exact ⟨ret_int Hz.out.symm, HB.out⟩
  · rw [hk] at c0
    have h6 := H3.out hk
    have Hno := Lib.hid (show (∃ e ∈ p.exprs, ¬ EOk x e) → R = 0 from fun ⟨e, he, hn⟩ => by
      rcases topW3' (ws := ws) (a := x) (b := y) hk h6 with h1 | h1
      · exact absurd (h1.2 e he) hn
      · exact HR.out.symm.trans h1.1)
    have Hyes := Lib.hid (show (∀ e ∈ p.exprs, EOk x e) → R = (p.exprs.length : Int) from fun hh => by
      rcases topW3' (ws := ws) (a := x) (b := y) hk h6 with h1 | ⟨h1, e, he, hn⟩
      · exact HR.out.symm.trans h1.1
      · exact absurd (hh e he) hn)
    go_enter Try.func51, Try.ntmps51
    go_wp2
    go_loopg [8, 47] p.exprs.length (fun g iv cv wr => ∃ i : Nat, i ≤ p.exprs.length ∧ g = p.exprs.length - i ∧ cv = .int .i64 i ∧ Below w.heap.size w wr ∧ ∀ j (hj : j < p.exprs.length), j < i → EOk (x) p.exprs[j])
    case atStart => exact ⟨0, by omega, by omega, rfl, Below.refl _ _, fun j hj hn => absurd hn (by omega)⟩
    case round =>
      obtain ⟨i, hi, rfl, rfl, hbb, hall⟩ := hrel
      have HB := Lib.hid hbb
      have HA := Lib.hid hall
      have c0 := (BX.out wr hbb).1
      have c2 := (BX.out wr hbb).2
      rw [hk] at c0
      clear hbb hall
      by_cases hlt : i < p.exprs.length
      · obtain ⟨b1, o1, g, hA, hB1, ⟨d0, d1, d2, d3, d4⟩, hg⟩ := (HE.out.on HB.out).at_ hlt
        obtain ⟨q, hq⟩ := bool_of (P := EOk (x) p.exprs[i])
        have HV := Lib.hid (implValidExpr_ok p.exprs[i] g (x) wr q hg hq)
        unfold feV at HV
        have Hq := Lib.hid hq
        have hil : (i : Int) < (p.exprs.length : Int) := by omega
        rw [hA] at c2
        clear hq hg hA
        go_wp2_with fail
        refine HV.out.mono ?_
        rintro e w3 ⟨rfl, hb3⟩
        cases q
        · have Hz := Lib.hid (Hno.out ⟨_, List.getElem_mem hlt, fun ho => by have := Hq.out.2 ho; cases this⟩)
          go_wp2
          go_ret
          exact ⟨ret_int Hz.out.symm, bch HB.out hb3⟩
        · go_wp2
          go_roundg (p.exprs.length - (i + 1))
          case measure => omega
          case rel =>
            refine ⟨i + 1, by omega, rfl, by go_num, bch HB.out hb3, fun j hj hn => ?_⟩
            by_cases hji : j < i
            · exact HA.out j hj hji
            · have : j = i := by omega
              subst this
              exact (by simpa using Hq.out)
      · have Hz := Lib.hid (Hyes.out (fun e he => by
          obtain ⟨j, hj, rfl⟩ := List.getElem_of_mem he
          exact HA.out j hj (by omega)))
        go_wp2
        go_ret
        exact ⟨ret_int Hz.out.symm, HB.out⟩
  · rw [hk] at c0
    by_cases h6 : 6 < x + y
    · have Hz := Lib.hid (show R = 0 by rw [← HR.out, topW45 (.inl hk), if_neg fun k => by omega])
      go_enter Try.func51, Try.ntmps51
      go_wp2
      go_ret
      exact ⟨ret_int Hz.out.symm, Below.refl _ _⟩
    · have Hno := Lib.hid (show (∃ e ∈ p.exprs, ¬ EOk (x + y) e) → R = 0 from fun ⟨e, he, hn⟩ => by rw [← HR.out, topW45 (.inl hk), if_neg fun k => hn (k.2 e he)])
      have Hyes := Lib.hid (show (∀ e ∈ p.exprs, EOk (x + y) e) → R = x + y from fun hh => by rw [← HR.out, topW45 (.inl hk), if_pos ⟨by omega, hh⟩])
      go_enter Try.func51, Try.ntmps51
      go_wp2
      go_loopg [8, 47] p.exprs.length (fun g iv cv wr => ∃ i : Nat, i ≤ p.exprs.length ∧ g = p.exprs.length - i ∧ cv = .int .i64 i ∧ Below w.heap.size w wr ∧ ∀ j (hj : j < p.exprs.length), j < i → EOk (x + y) p.exprs[j])
      case atStart => exact ⟨0, by omega, by omega, rfl, Below.refl _ _, fun j hj hn => absurd hn (by omega)⟩
      case round =>
        obtain ⟨i, hi, rfl, rfl, hbb, hall⟩ := hrel
        have HB := Lib.hid hbb
        have HA := Lib.hid hall
        have c0 := (BX.out wr hbb).1
        have c2 := (BX.out wr hbb).2
        rw [hk] at c0
        clear hbb hall
        by_cases hlt : i < p.exprs.length
        · obtain ⟨b1, o1, g, hA, hB1, ⟨d0, d1, d2, d3, d4⟩, hg⟩ := (HE.out.on HB.out).at_ hlt
          obtain ⟨q, hq⟩ := bool_of (P := EOk (x + y) p.exprs[i])
          have HV := Lib.hid (implValidExpr_ok p.exprs[i] g (x + y) wr q hg hq)
          unfold feV at HV
          have Hq := Lib.hid hq
          have hil : (i : Int) < (p.exprs.length : Int) := by omega
          rw [hA] at c2
          clear hq hg hA
          go_wp2_with fail
          refine HV.out.mono ?_
          rintro e w3 ⟨rfl, hb3⟩
          cases q
          · have Hz := Lib.hid (Hno.out ⟨_, List.getElem_mem hlt, fun ho => by have := Hq.out.2 ho; cases this⟩)
            go_wp2
            go_ret
            exact ⟨ret_int Hz.out.symm, bch HB.out hb3⟩
          · go_wp2
            go_roundg (p.exprs.length - (i + 1))
            case measure => omega
            case rel =>
              refine ⟨i + 1, by omega, rfl, by go_num, bch HB.out hb3, fun j hj hn => ?_⟩
              by_cases hji : j < i
              · exact HA.out j hj hji
              · have : j = i := by omega
                subst this
                exact (by simpa using Hq.out)
        · have Hz := Lib.hid (Hyes.out (fun e he => by
            obtain ⟨j, hj, rfl⟩ := List.getElem_of_mem he
            exact HA.out j hj (by omega)))
          go_wp2
          go_ret
          exact ⟨ret_int Hz.out.symm, HB.out⟩
  · rw [hk] at c0
    by_cases h6 : 6 < x + y
    · have Hz := Lib.hid (show R = 0 by rw [← HR.out, topW45 (.inr hk), if_neg fun k => by omega])
      go_enter Try.func51, Try.ntmps51
      go_wp2
      go_ret
      exact ⟨ret_int Hz.out.symm, Below.refl _ _⟩
    · have Hno := Lib.hid (show (∃ e ∈ p.exprs, ¬ EOk (x + y) e) → R = 0 from fun ⟨e, he, hn⟩ => by rw [← HR.out, topW45 (.inr hk), if_neg fun k => hn (k.2 e he)])
      have Hyes := Lib.hid (show (∀ e ∈ p.exprs, EOk (x + y) e) → R = x + y from fun hh => by rw [← HR.out, topW45 (.inr hk), if_pos ⟨by omega, hh⟩])
      go_enter Try.func51, Try.ntmps51
      go_wp2
      go_loopg [8, 47] p.exprs.length (fun g iv cv wr => ∃ i : Nat, i ≤ p.exprs.length ∧ g = p.exprs.length - i ∧ cv = .int .i64 i ∧ Below w.heap.size w wr ∧ ∀ j (hj : j < p.exprs.length), j < i → EOk (x + y) p.exprs[j])
      case atStart => exact ⟨0, by omega, by omega, rfl, Below.refl _ _, fun j hj hn => absurd hn (by omega)⟩
      case round =>
        obtain ⟨i, hi, rfl, rfl, hbb, hall⟩ := hrel
        have HB := Lib.hid hbb
        have HA := Lib.hid hall
        have c0 := (BX.out wr hbb).1
        have c2 := (BX.out wr hbb).2
        rw [hk] at c0
        clear hbb hall
        by_cases hlt : i < p.exprs.length
        · obtain ⟨b1, o1, g, hA, hB1, ⟨d0, d1, d2, d3, d4⟩, hg⟩ := (HE.out.on HB.out).at_ hlt
          obtain ⟨q, hq⟩ := bool_of (P := EOk (x + y) p.exprs[i])
          have HV := Lib.hid (implValidExpr_ok p.exprs[i] g (x + y) wr q hg hq)
          unfold feV at HV
          have Hq := Lib.hid hq
          have hil : (i : Int) < (p.exprs.length : Int) := by omega
          rw [hA] at c2
          clear hq hg hA
          go_wp2_with fail
          refine HV.out.mono ?_
          rintro e w3 ⟨rfl, hb3⟩
          cases q
          · have Hz := Lib.hid (Hno.out ⟨_, List.getElem_mem hlt, fun ho => by have := Hq.out.2 ho; cases this⟩)
            go_wp2
            go_ret
            exact ⟨ret_int Hz.out.symm, bch HB.out hb3⟩
          · go_wp2
            go_roundg (p.exprs.length - (i + 1))
            case measure => omega
            case rel =>
              refine ⟨i + 1, by omega, rfl, by go_num, bch HB.out hb3, fun j hj hn => ?_⟩
              by_cases hji : j < i
              · exact HA.out j hj hji
              · have : j = i := by omega
                subst this
                exact (by simpa using Hq.out)
        · have Hz := Lib.hid (Hyes.out (fun e he => by
            obtain ⟨j, hj, rfl⟩ := List.getElem_of_mem he
            exact HA.out j hj (by omega)))
          go_wp2
          go_ret
          exact ⟨ret_int Hz.out.symm, HB.out⟩
  · rw [hk] at c0
    have hel : p.exprs.length = 0 := by have := Hof.out.2.2.1; rw [hk] at this; simp [nexprs] at this; simpa using this
    have hpe : p.exprs = [] := List.eq_nil_of_length_eq_zero hel
    by_cases hxy : x = y
    · have hxy' : (x != y) = false := by simpa using hxy
      have Hno := Lib.hid (show (∃ e ∈ p.exprs, ¬ EOk x e) → R = 0 from fun ⟨e, he, hn⟩ => by rw [hpe] at he; cases he)
      have Hyes := Lib.hid (show (∀ e ∈ p.exprs, EOk x e) → R = x from fun _ => by rw [← HR.out, topW6 hk, if_pos hxy])
      clear hel hpe hxy
      go_enter Try.func51, Try.ntmps51
      go_wp2
      go_loopg [8, 47] p.exprs.length (fun g iv cv wr => ∃ i : Nat, i ≤ p.exprs.length ∧ g = p.exprs.length - i ∧ cv = .int .i64 i ∧ Below w.heap.size w wr ∧ ∀ j (hj : j < p.exprs.length), j < i → EOk (x) p.exprs[j])
      case atStart => exact ⟨0, by omega, by omega, rfl, Below.refl _ _, fun j hj hn => absurd hn (by omega)⟩
      case round =>
        obtain ⟨i, hi, rfl, rfl, hbb, hall⟩ := hrel
        have HB := Lib.hid hbb
        have HA := Lib.hid hall
        have c0 := (BX.out wr hbb).1
        have c2 := (BX.out wr hbb).2
        rw [hk] at c0
        clear hbb hall
        by_cases hlt : i < p.exprs.length
        · obtain ⟨b1, o1, g, hA, hB1, ⟨d0, d1, d2, d3, d4⟩, hg⟩ := (HE.out.on HB.out).at_ hlt
          obtain ⟨q, hq⟩ := bool_of (P := EOk (x) p.exprs[i])
          have HV := Lib.hid (implValidExpr_ok p.exprs[i] g (x) wr q hg hq)
          unfold feV at HV
          have Hq := Lib.hid hq
          have hil : (i : Int) < (p.exprs.length : Int) := by omega
          rw [hA] at c2
          clear hq hg hA
          go_wp2_with fail
          refine HV.out.mono ?_
          rintro e w3 ⟨rfl, hb3⟩
          cases q
          · have Hz := Lib.hid (Hno.out ⟨_, List.getElem_mem hlt, fun ho => by have := Hq.out.2 ho; cases this⟩)
            go_wp2
            go_ret
            exact ⟨ret_int Hz.out.symm, bch HB.out hb3⟩
          · go_wp2
            go_roundg (p.exprs.length - (i + 1))
            case measure => omega
            case rel =>
              refine ⟨i + 1, by omega, rfl, by go_num, bch HB.out hb3, fun j hj hn => ?_⟩
              by_cases hji : j < i
              · exact HA.out j hj hji
              · have : j = i := by omega
                subst this
                exact (by simpa using Hq.out)
        · have Hz := Lib.hid (Hyes.out (fun e he => by
            obtain ⟨j, hj, rfl⟩ := List.getElem_of_mem he
            exact HA.out j hj (by omega)))
          go_wp2
          go_ret
          exact ⟨ret_int Hz.out.symm, HB.out⟩
    · have hxy' : (x != y) = true := by simpa using hxy
      have Hz := Lib.hid (show R = 0 by rw [← HR.out, topW6 hk, if_neg hxy])
      clear hel hpe hxy
      go_enter Try.func51, Try.ntmps51
      go_wp2
      go_ret
      exact ⟨ret_int Hz.out.symm, Below.refl _ _⟩
  · rw [hk] at c0
    have hel : p.exprs.length = 0 := by have := Hof.out.2.2.1; rw [hk] at this; simp [nexprs] at this; simpa using this
    have hpe : p.exprs = [] := List.eq_nil_of_length_eq_zero hel
    have Hno := Lib.hid (show (∃ e ∈ p.exprs, ¬ EOk x e) → R = 0 from fun ⟨e, he, hn⟩ => by rw [hpe] at he; cases he)
    have Hyes := Lib.hid (show (∀ e ∈ p.exprs, EOk x e) → R = x from fun _ => by rw [← HR.out, topW7 hk])
    clear hel hpe
    go_enter Try.func51, Try.ntmps51
    go_wp2
    go_loopg [8, 47] p.exprs.length (fun g iv cv wr => ∃ i : Nat, i ≤ p.exprs.length ∧ g = p.exprs.length - i ∧ cv = .int .i64 i ∧ Below w.heap.size w wr ∧ ∀ j (hj : j < p.exprs.length), j < i → EOk (x) p.exprs[j])
    case atStart => exact ⟨0, by omega, by omega, rfl, Below.refl _ _, fun j hj hn => absurd hn (by omega)⟩
    case round =>
      obtain ⟨i, hi, rfl, rfl, hbb, hall⟩ := hrel
      have HB := Lib.hid hbb
      have HA := Lib.hid hall
      have c0 := (BX.out wr hbb).1
      have c2 := (BX.out wr hbb).2
      rw [hk] at c0
      clear hbb hall
      by_cases hlt : i < p.exprs.length
      · obtain ⟨b1, o1, g, hA, hB1, ⟨d0, d1, d2, d3, d4⟩, hg⟩ := (HE.out.on HB.out).at_ hlt
        obtain ⟨q, hq⟩ := bool_of (P := EOk (x) p.exprs[i])
        have HV := Lib.hid (implValidExpr_ok p.exprs[i] g (x) wr q hg hq)
        unfold feV at HV
        have Hq := Lib.hid hq
        have hil : (i : Int) < (p.exprs.length : Int) := by omega
        rw [hA] at c2
        clear hq hg hA
        go_wp2_with fail
        refine HV.out.mono ?_
        rintro e w3 ⟨rfl, hb3⟩
        cases q
        · have Hz := Lib.hid (Hno.out ⟨_, List.getElem_mem hlt, fun ho => by have := Hq.out.2 ho; cases this⟩)
          go_wp2
          go_ret
          exact ⟨ret_int Hz.out.symm, bch HB.out hb3⟩
        · go_wp2
          go_roundg (p.exprs.length - (i + 1))
          case measure => omega
          case rel =>
            refine ⟨i + 1, by omega, rfl, by go_num, bch HB.out hb3, fun j hj hn => ?_⟩
            by_cases hji : j < i
            · exact HA.out j hj hji
            · have : j = i := by omega
              subst this
              exact (by simpa using Hq.out)
      · have Hz := Lib.hid (Hyes.out (fun e he => by
          obtain ⟨j, hj, rfl⟩ := List.getElem_of_mem he
          exact HA.out j hj (by omega)))
        go_wp2
        go_ret
        exact ⟨ret_int Hz.out.symm, HB.out⟩
  · obtain ⟨q, hq⟩ := bool_of (P := ColsOk p.cols x ∧ p.cols.length < 6)
    have HV := Lib.hid (validGroup_ok p.cols f.cs.A f.cs.c x w q (by unfold maxLen; exact hx3) HC.out hq)
    have Hz := Lib.hid (show R = if q = true then (p.cols.length : Int) + 1 else 0 by
      rw [← HR.out, topW8 hk]
      by_cases h0 : ColsOk p.cols x ∧ p.cols.length < 6
      · rw [if_pos h0, if_pos (hq.2 h0)]
      · rw [if_neg h0, if_neg (fun h1 => h0 (hq.1 h1))])
    have Hl := Lib.hid (show q = true → p.cols.length < 6 from fun h => (hq.1 h).2)
    rw [hk] at c0
    clear hq hk
    cases q
    · go_enter Try.func51, Try.ntmps51
      go_wp2_with fail
      refine HV.out.mono ?_
      rintro e w3 ⟨rfl, hb3⟩
      go_wp2
      go_ret
      exact ⟨ret_int (by simpa using Hz.out.symm), hb3⟩
    · have h6 : p.cols.length < 6 := Hl.out (by trivial)
      have h6I : (p.cols.length : Int) < 6 := by omega
      go_enter Try.func51, Try.ntmps51
      go_wp2_with fail
      refine HV.out.mono ?_
      rintro e w3 ⟨rfl, hb3⟩
      have C3 : w3.cell? ⟨b, o + 3, none⟩ = some (.slice f.cs.A p.cols.length f.cs.c) := (hb3.cell (p := ⟨b, o + 3, none⟩) hb).trans c3
      go_wp2
      go_ret
      exact ⟨ret_int (by simpa using Hz.out.symm), hb3⟩

def PwI (p : Pl) : Prop := ∀ (f : FP) (b o : Nat) (ws : List Int) (A : Option Addr) (c d : Nat) (w : World) (R : Int), b < w.heap.size → FpAt w b o f → PlIn w w.heap.size f p → (∀ x ∈ ws, 1 ≤ x ∧ x ≤ 6) → ws.length ≤ maxLen → Sl 1 intC w w.heap.size A ws → d ≤ 100 → plW ws d p = R →
  Calls Try.prog 31 #[.pointer (some ⟨b, o, none⟩), .slice A ws.length c, .int .i64 d] w fun e w' => e = .returned (.int .i64 R) ∧ Below w.heap.size w w'
theorem plW_bad3 {ws : List Int} {d : Nat} {p : Pl} (hk : p.kind = 3) (hn : ¬ (1 ≤ p.exprs.length ∧ p.exprs.length ≤ 6)) : plW ws d p = 0 := by
  have hz : ∀ a b, topW ws p a b = 0 := fun a b => by
    rw [topW3 hk]
    unfold projW
    split
    · omega
    · rfl
  cases d <;> unfold plW <;> split
  · exact hz _ _
  · rfl
  · exact hz _ _
  · rfl

set_option maxRecDepth 20000 in
set_option maxHeartbeats 8000000 in
theorem widthBelow_ok : ∀ p : Pl, PwI p := Pl.ind fun p ih f b o ws A c d w R hb hat h hws hwl hsl hd hr => by
  obtain ⟨a1, a2, ⟨a3, a3', a3''⟩, ⟨a4, a4', a4''⟩, ⟨a5, a5', a5''⟩, a6, a7⟩ := h.flat
  have Hat := Lib.hid hat
  obtain ⟨c0, c1, c2, c3, c4⟩ := hat
  rw [a1] at c0
  rw [a2] at c1
  rw [a3] at c2
  rw [a4] at c3
  rw [a5] at c4
  have BX := Lib.hid (fun (z : World) (hz : Below w.heap.size w z) => show FpAt z b o f ∧ z.cell? ⟨b, o + 4, none⟩ = some (.slice f.ks.A p.kids.length f.ks.c)
    from ⟨⟨(hz.cell (p := ⟨b, o, none⟩) hb).trans Hat.out.1, (hz.cell (p := ⟨b, o + 1, none⟩) hb).trans Hat.out.2.1, (hz.cell (p := ⟨b, o + 2, none⟩) hb).trans Hat.out.2.2.1, (hz.cell (p := ⟨b, o + 3, none⟩) hb).trans Hat.out.2.2.2.1, (hz.cell (p := ⟨b, o + 4, none⟩) hb).trans Hat.out.2.2.2.2⟩, (hz.cell (p := ⟨b, o + 4, none⟩) hb).trans c4⟩)
  have HP := Lib.hid (fun (z : World) (hz : Below w.heap.size w z) => h.on hz)
  have HS := Lib.hid (fun (z : World) (hz : Below w.heap.size w z) => hsl.on hz)
  have IH := Lib.hid ih
  have HR := Lib.hid hr
  have HWS := Lib.hid hws
  have hx : p.exprs.length ≤ maxLen ∧ p.kids.length ≤ maxLen ∧ p.cols.length ≤ maxLen := by omega
  unfold maxLen at hx hwl
  obtain ⟨hx1, hx2, hx3⟩ := hx
  clear h hws hsl ih hr a1 a2 a3 a4 a5 a3' a3'' a4' a4'' a5' a5'' a6 a7
  obtain ⟨K, hK⟩ : ∃ K, ipK p.kind = K := ⟨_, rfl⟩
  obtain ⟨E0, hE⟩ : ∃ E, ipE p.kind = E := ⟨_, rfl⟩
  have HPK := Lib.hid (partsOfKind_ok p.kind w)
  rw [hK, hE] at HPK
  have HVW := Lib.hid (fun (r : Bool) hr => validWidth_ok p.exprs.length w r hr)
  have Hno := Lib.hid (show ¬ OnlyF p → R = 0 from fun hn => by rw [← HR.out]; exact plW_no hn)
  have HKE := Lib.hid (And.intro hK hE)
  clear hK hE
  by_cases hk3 : p.kind = 3
  · have HK3 := Lib.hid hk3
    have hk3' : (p.kind == 3) = true := by simpa using hk3
    by_cases hne : 1 ≤ p.exprs.length ∧ p.exprs.length ≤ 6
    · obtain ⟨hne1, hne6⟩ := hne
      clear hk3
      by_cases hn : (p.kids.length : Int) = K
      · have Hn := Lib.hid hn
        have hnB : ((p.kids.length : Int) != K) = false := by simpa using hn
        clear hn

        have HEx := Lib.hid (show (p.exprs.length : Int) = nexprs p.kind p.exprs.length by unfold nexprs; rw [if_neg (by have := HK3.out; omega), if_pos HK3.out])
        by_cases hKd : 0 < K ∧ d = 0
        · obtain ⟨hKp, rfl⟩ := hKd
          have Hz := Lib.hid (show R = 0 by rw [← HR.out]; exact plW_deep (by have := Hn.out; omega))
          go_enter Try.func31, Try.ntmps31
          go_wp2_with fail
          refine HPK.out.mono ?_
          rintro e w2 ⟨rfl, rfl⟩

          go_wp2_with fail
          refine (HVW.out true (by simp; omega)).mono ?_
          rintro e w2 ⟨rfl, rfl⟩

          go_wp2
          go_ret
          exact ⟨ret_int Hz.out.symm, Below.refl _ _⟩

        · have hcase : (0 < K ∧ ((d : Int) == 0) = false) ∨ ¬ 0 < K := by
            by_cases h0 : 0 < K
            · refine .inl ⟨h0, ?_⟩
              have : d ≠ 0 := by omega
              simpa using this
            · exact .inr h0
          have Hdz := Lib.hid (show 0 < p.kids.length → 0 < d from fun h1 => by have := Hn.out; omega)
          clear hKd
          have hcs : (¬ p.table = 0 ∧ ¬ p.kind = 1) ∨ ((p.table = 0 ∨ (¬ p.table = 0 ∧ p.kind = 1)) ∧ ((¬ p.cols.length = 0 ∧ ¬ p.kind = 8) ∨ (p.cols.length = 0 ∨ (¬ p.cols.length = 0 ∧ p.kind = 8)))) := by omega
          rcases hcs with ⟨h1, h2⟩ | ⟨h1, h2 | h2⟩
          · have Hz := Lib.hid (Hno.out fun ho => by have := ho.2.2.2.1; omega)
            have h1' : (p.table != 0) = true := by simpa using h1
            have h2' : (p.kind != 1) = true := by simpa using h2
            clear h1 h2
            rcases hcase with ⟨hKp, hdB⟩ | hKp
            all_goals
              go_enter Try.func31, Try.ntmps31
              go_wp2_with fail
              refine HPK.out.mono ?_
              rintro e w2 ⟨rfl, rfl⟩

              go_wp2_with fail
              refine (HVW.out true (by simp; omega)).mono ?_
              rintro e w2 ⟨rfl, rfl⟩

              go_wp2
              go_ret
              exact ⟨ret_int Hz.out.symm, Below.refl _ _⟩

          · have Hz := Lib.hid (Hno.out fun ho => by have := ho.2.2.2.2; omega)
            have h3' : (p.cols.length != 0) = true := by simpa using h2.1
            have h3'' : ((p.cols.length : Int) != 0) = true := by simpa using h2.1
            have h2' : (p.kind != 8) = true := by simpa using h2.2
            clear h2
            rcases h1 with h1 | ⟨h1, h4⟩
            · have h1' : (p.table != 0) = false := by simpa using h1
              by_cases h5 : p.kind = 1
              · have h5' : (p.kind != 1) = false := by simpa using h5
                clear h1 h5
                rcases hcase with ⟨hKp, hdB⟩ | hKp
                all_goals
                  go_enter Try.func31, Try.ntmps31
                  go_wp2_with fail
                  refine HPK.out.mono ?_
                  rintro e w2 ⟨rfl, rfl⟩

                  go_wp2_with fail
                  refine (HVW.out true (by simp; omega)).mono ?_
                  rintro e w2 ⟨rfl, rfl⟩

                  go_wp2
                  go_ret
                  exact ⟨ret_int Hz.out.symm, Below.refl _ _⟩

              · have h5' : (p.kind != 1) = true := by simpa using h5
                clear h1 h5
                rcases hcase with ⟨hKp, hdB⟩ | hKp
                all_goals
                  go_enter Try.func31, Try.ntmps31
                  go_wp2_with fail
                  refine HPK.out.mono ?_
                  rintro e w2 ⟨rfl, rfl⟩

                  go_wp2_with fail
                  refine (HVW.out true (by simp; omega)).mono ?_
                  rintro e w2 ⟨rfl, rfl⟩

                  go_wp2
                  go_ret
                  exact ⟨ret_int Hz.out.symm, Below.refl _ _⟩

            · have h4' : (p.kind != 1) = false := by simpa using h4
              clear h1 h4
              rcases hcase with ⟨hKp, hdB⟩ | hKp
              all_goals
                go_enter Try.func31, Try.ntmps31
                go_wp2_with fail
                refine HPK.out.mono ?_
                rintro e w2 ⟨rfl, rfl⟩

                go_wp2_with fail
                refine (HVW.out true (by simp; omega)).mono ?_
                rintro e w2 ⟨rfl, rfl⟩

                go_wp2
                go_ret
                exact ⟨ret_int Hz.out.symm, Below.refl _ _⟩

          · have HKr := Lib.hid (show 1 ≤ p.kind ∧ p.kind ≤ 8 ∧ K = nkids p.kind by
              have h5 := HKE.out.1
              have h6 := Hn.out
              rw [← h5] at h6
              unfold ipK at h5 h6
              unfold nkids
              split at h5
              · rename_i h7
                rw [if_pos h7]
                omega
              · rename_i h7
                rw [if_neg h7]
                split at h5
                · rename_i h8
                  rw [if_pos h8]
                  omega
                · rename_i h8
                  rw [if_neg h8]
                  split at h5
                  · omega
                  · rename_i h9
                    rw [if_neg h7, if_neg h8, if_neg h9] at h6
                    omega)
            have Hof := Lib.hid (show OnlyF p from ⟨⟨HKr.out.1, HKr.out.2.1⟩, Hn.out.trans HKr.out.2.2, HEx.out, by omega, by omega⟩)
            have hkl := Hof.out.kids_le
            by_cases hk1 : p.kind = 1
            · exact absurd hk1 (by have := HK3.out; omega)

            · have h4' : (p.table != 0) = false := by have : p.table = 0 := by omega
                                                      simpa using this
              have h5' : (p.kind != 1) = true := by simpa using hk1
              have h6' : (p.kind == 1) = false := by simpa using hk1
              have Hk1 := Lib.hid hk1
              have H36 := Lib.hid (show p.kind = 3 → p.exprs.length ≤ 6 from fun _ => by omega)
              have hk8b : (p.kind != 8) = true ∨ (p.kind != 8) = false := by cases (p.kind != 8) <;> simp
              have hcl : ((p.cols.length != 0) = false ∧ ((p.cols.length : Int) != 0) = false ∧ ((p.kind != 8) = true ∨ (p.kind != 8) = false)) ∨ ((p.cols.length != 0) = true ∧ ((p.cols.length : Int) != 0) = true ∧ (p.kind != 8) = false) := by
                rcases h2 with h2 | ⟨h2, h3⟩
                · exact .inl ⟨by simpa using h2, by simpa using h2, hk8b⟩
                · exact .inr ⟨by simpa using h2, by simpa using h2, by simpa using h3⟩
              have hKp : 0 < K := by
                have h7 := HKr.out.2.2
                unfold nkids at h7
                rw [if_neg hk1] at h7
                split at h7 <;> omega
              have hdB : ((d : Int) == 0) = false := by
                rcases hcase with h7 | h7
                · exact h7.2
                · exact absurd hKp h7
              have HRg := Lib.hid (show ∀ x, 0 ≤ plW ws (d - 1) x ∧ plW ws (d - 1) x ≤ 6 from fun x => plW_range HWS.out _ _)
              have hd0 : 0 < d := by have := Hn.out; have := Hdz.out; omega
              clear h1 h2 hk1 hcase
              obtain ⟨Wi, hWi⟩ : ∃ z, w.alloc (.cells #[.int .i64 0, .int .i64 0] 81) = z := ⟨_, rfl⟩
              have Bi : Below w.heap.size w Wi := by rw [← hWi]; exact balloc (Below.refl _ _) _
              have Ri : Row Wi w.heap.size 81 [.int .i64 0, .int .i64 0] := by rw [← hWi]; exact Row.new _ _ _
              have HWi := Lib.hid hWi
              have HBi := Lib.hid Bi
              have HRi := Lib.hid Ri
              clear hWi Bi Ri
              clear hk8b
              rcases hcl with ⟨h7, h8, h9 | h9⟩ | ⟨h7, h8, h9⟩
              all_goals
                go_enter Try.func31, Try.ntmps31
                go_wp2_with fail
                refine HPK.out.mono ?_
                rintro e w2 ⟨rfl, rfl⟩

                go_wp2_with fail
                refine (HVW.out true (by simp; omega)).mono ?_
                rintro e w2 ⟨rfl, rfl⟩

                go_upto_region 13 with fail
                rw [HWi.out]
                have c4 := (BX.out Wi HBi.out).2
                go_wp2
                clear c0 c1 c2 c3 c4 h4' h5' h6' h7 h8 h9 HPK HVW
                go_loopg [10, 119] p.kids.length (fun g iv nv wr => ∃ i : Nat, i ≤ p.kids.length ∧ g = p.kids.length - i ∧ nv = .int .i64 i ∧ Below w.heap.size w wr ∧ (∀ j (hj : j < p.kids.length), j < i → plW ws (d - 1) p.kids[j] ≠ 0) ∧ Row wr w.heap.size 81 [.int .i64 (if 0 < i then kidW (plW ws (d - 1)) p 0 else 0), .int .i64 (if 1 < i then kidW (plW ws (d - 1)) p 1 else 0)])
                case atStart => exact ⟨0, by omega, by omega, rfl, HBi.out, fun j hj hn => absurd hn (by omega), HRi.out⟩
                case round =>
                  obtain ⟨i, hi, rfl, rfl, hbb, hall, hrow⟩ := hrel
                  have HA := Lib.hid hall
                  have HB := Lib.hid hbb
                  have Hrow := Lib.hid hrow
                  have c4 := (BX.out wr hbb).2
                  have hsz := hrow.lt
                  clear hbb hall hrow
                  by_cases hlt : i < p.kids.length
                  · obtain ⟨b1, o1, g, hA, hBl, hgat, hg⟩ := (HP.out wr HB.out).kid hlt
                    obtain ⟨rk, hrk⟩ : ∃ rk, plW ws (d - 1) p.kids[i] = rk := ⟨_, rfl⟩
                    have HX := Lib.hid (IH.out _ (List.getElem_mem hlt) g b1 _ ws A c (d - 1) wr rk hBl hgat hg HWS.out (by unfold maxLen; exact hwl) (HS.out wr HB.out) (by omega) hrk)
                    have ed : ((d - 1 : Nat) : Int) = (d : Int) - 1 := by omega
                    rw [ed] at HX
                    have Hrk := Lib.hid hrk
                    have Hkw := Lib.hid (show kidW (plW ws (d - 1)) p i = rk by unfold kidW; rw [List.getElem?_eq_getElem hlt]; exact hrk)
                    have hil : (i : Int) < (p.kids.length : Int) := by omega
                    rw [hA] at c4
                    clear hrk hg hA ed hgat
                    have hi2 : i = 0 ∨ i = 1 := by omega
                    rcases hi2 with rfl | rfl
                    all_goals
                      have Hrow0 := Hrow
                      go_wp2_with fail
                      refine HX.out.mono ?_
                      rintro e w4 ⟨rfl, hb4⟩
                      have HB4 := Lib.hid (bch HB.out hb4)
                      have Hr4 := Lib.hid (Hrow.out.on hb4)
                      have e0 := Hr4.out.cell 0
                      have e1 := Hr4.out.cell 1
                      have f0 := Hr4.out.frozen 0
                      have f1 := Hr4.out.frozen 1
                      clear hb4
                      by_cases hz : rk = 0
                      · have Hz := Lib.hid (show R = 0 by
                          rw [← HR.out, show d = (d - 1) + 1 by omega]
                          exact plW_kid (List.getElem_mem hlt) (Hrk.out.trans hz))
                        subst hz
                        go_wp2
                        go_ret
                        exact ⟨ret_int Hz.out.symm, HB4.out.setCell (p := ⟨_, _, none⟩) (Nat.le_refl _) _⟩
                      · have Hz := Lib.hid hz
                        have hz' : (rk == 0) = false := by simpa using hz
                        clear hz
                        go_wp2
                        first
                        | go_roundg (p.kids.length - (0 + 1))
                          case measure => omega
                          case rel =>
                            refine ⟨1, by omega, by omega, by go_num, HB4.out.setCell (p := ⟨_, _, none⟩) (Nat.le_refl _) _, fun j hj hn => ?_, ?_⟩
                            · have : j = 0 := by omega
                              subst this
                              rw [Hrk.out]
                              exact Hz.out
                            · rw [Hkw.out]
                              exact Hr4.out.set 0 _
                        | go_roundg (p.kids.length - (1 + 1))
                          case measure => omega
                          case rel =>
                            refine ⟨2, by omega, by omega, by go_num, HB4.out.setCell (p := ⟨_, _, none⟩) (Nat.le_refl _) _, fun j hj hn => ?_, ?_⟩
                            · by_cases hji : j < 1
                              · exact HA.out j hj hji
                              · have : j = 1 := by omega
                                subst this
                                rw [Hrk.out]
                                exact Hz.out
                            · rw [Hkw.out]
                              exact Hr4.out.set 1 _
                  · have hie : i = p.kids.length := by omega
                    have Hall := Lib.hid (show ∀ y ∈ p.kids, plW ws (d - 1) y ≠ 0 from fun y hy => by
                      obtain ⟨j, hj, rfl⟩ := List.getElem_of_mem hy
                      exact HA.out j hj (by omega))
                    have HT := Lib.hid (show topW ws p (kidW (plW ws (d - 1)) p 0) (kidW (plW ws (d - 1)) p 1) = R by
                      rw [← HR.out, plW_top Hof.out Hdz.out Hall.out])
                    have r0 := kidW_range HRg.out p 0
                    have r1 := kidW_range HRg.out p 1
                    have hkw : ∀ j, (if j < i then kidW (plW ws (d - 1)) p j else 0) = kidW (plW ws (d - 1)) p j := fun j => by
                      split
                      · rfl
                      · unfold kidW
                        rw [List.getElem?_eq_none (by omega)]
                    have hrow := Hrow.out
                    rw [hkw 0, hkw 1] at hrow
                    obtain ⟨x0, hx0⟩ : ∃ x, kidW (plW ws (d - 1)) p 0 = x := ⟨_, rfl⟩
                    obtain ⟨x1, hx1'⟩ : ∃ x, kidW (plW ws (d - 1)) p 1 = x := ⟨_, rfl⟩
                    rw [hx0] at r0 HT hrow
                    rw [hx1'] at r1 HT hrow
                    have e0 := hrow.cell 0
                    have e1 := hrow.cell 1
                    have bw : b < wr.heap.size := by have := HB.out.size; omega
                    have HO := Lib.hid (widthOver_ok p f ws b o x0 x1 wr R bw (BX.out wr HB.out).1 (HP.out wr HB.out) Hof.out Hk1.out H36.out r0 r1 HT.out)
                    clear hkw hrow hx0 hx1' hie r0 r1
                    go_wp2_with fail
                    refine HO.out.mono ?_
                    rintro e w5 ⟨rfl, hb5⟩
                    go_wp2
                    go_ret
                    exact ⟨rfl, bch HB.out hb5⟩
      · have Hz := Lib.hid (Hno.out fun ho => hn (by
          rw [ho.2.1, ← HKE.out.1]
          unfold nkids ipK
          have := ho.1
          by_cases h1 : p.kind = 1
          · rw [if_pos h1, if_pos h1]
          · rw [if_neg h1, if_neg h1]
            by_cases h2 : p.kind = 4 ∨ p.kind = 5 ∨ p.kind = 6
            · rw [if_pos h2, if_pos h2]
            · rw [if_neg h2, if_neg h2, if_pos (by omega)]))
        have hnB : ((p.kids.length : Int) != K) = true := by simpa using hn
        clear hn

        go_enter Try.func31, Try.ntmps31
        go_wp2_with fail
        refine HPK.out.mono ?_
        rintro e w2 ⟨rfl, rfl⟩

        go_wp2_with fail
        refine (HVW.out true (by simp; omega)).mono ?_
        rintro e w2 ⟨rfl, rfl⟩

        go_wp2
        go_ret
        exact ⟨ret_int Hz.out.symm, Below.refl _ _⟩
    · have Hz := Lib.hid (show R = 0 by rw [← HR.out]; exact plW_bad3 hk3 hne)
      have hE1 : E0 = 1 := by rw [← HKE.out.2, hk3]; rfl
      subst hE1
      have he1 : ((p.exprs.length : Int) != 1) = true := by have : (p.exprs.length : Int) ≠ 1 := by omega
                                                            simpa using this
      have hcn : ((p.kids.length : Int) != K) = true ∨ ((p.kids.length : Int) != K) = false := by cases ((p.kids.length : Int) != K) <;> simp
      have hq : (decide ((1 : Int) ≤ (p.exprs.length : Int)) && decide ((p.exprs.length : Int) ≤ 6)) = false := by
        rw [Bool.eq_false_iff]
        intro h9
        simp at h9
        omega
      have HV0 := Lib.hid (HVW.out false hq)
      clear hk3 hne hq
      rcases hcn with hcn | hcn
      all_goals
        go_enter Try.func31, Try.ntmps31
        go_wp2_with fail
        refine HPK.out.mono ?_
        rintro e w2 ⟨rfl, rfl⟩

        go_wp2_with fail
        refine HV0.out.mono ?_
        rintro e w2 ⟨rfl, rfl⟩

        go_wp2
        go_ret
        exact ⟨ret_int Hz.out.symm, Below.refl _ _⟩
  · have HK3 := Lib.hid hk3
    have hk3' : (p.kind == 3) = false := by simpa using hk3
    clear hk3
    by_cases hn : (p.kids.length : Int) = K
    · have Hn := Lib.hid hn
      have hnB : ((p.kids.length : Int) != K) = false := by simpa using hn
      clear hn

      by_cases he : (p.exprs.length : Int) = E0
      · have HEx := Lib.hid (show (p.exprs.length : Int) = nexprs p.kind p.exprs.length by
          rw [he, ← HKE.out.2]
          unfold nexprs ipE
          have := HK3.out
          by_cases h1 : p.kind = 2 ∨ p.kind = 4 ∨ p.kind = 5
          · rw [if_pos (by omega), if_pos h1]
          · rw [if_neg (by omega), if_neg h1, if_neg this])
        have heB : ((p.exprs.length : Int) != E0) = false := by simpa using he
        clear he

        by_cases hKd : 0 < K ∧ d = 0
        · obtain ⟨hKp, rfl⟩ := hKd
          have Hz := Lib.hid (show R = 0 by rw [← HR.out]; exact plW_deep (by have := Hn.out; omega))
          go_enter Try.func31, Try.ntmps31
          go_wp2_with fail
          refine HPK.out.mono ?_
          rintro e w2 ⟨rfl, rfl⟩

          go_wp2
          go_ret
          exact ⟨ret_int Hz.out.symm, Below.refl _ _⟩

        · have hcase : (0 < K ∧ ((d : Int) == 0) = false) ∨ ¬ 0 < K := by
            by_cases h0 : 0 < K
            · refine .inl ⟨h0, ?_⟩
              have : d ≠ 0 := by omega
              simpa using this
            · exact .inr h0
          have Hdz := Lib.hid (show 0 < p.kids.length → 0 < d from fun h1 => by have := Hn.out; omega)
          clear hKd
          have hcs : (¬ p.table = 0 ∧ ¬ p.kind = 1) ∨ ((p.table = 0 ∨ (¬ p.table = 0 ∧ p.kind = 1)) ∧ ((¬ p.cols.length = 0 ∧ ¬ p.kind = 8) ∨ (p.cols.length = 0 ∨ (¬ p.cols.length = 0 ∧ p.kind = 8)))) := by omega
          rcases hcs with ⟨h1, h2⟩ | ⟨h1, h2 | h2⟩
          · have Hz := Lib.hid (Hno.out fun ho => by have := ho.2.2.2.1; omega)
            have h1' : (p.table != 0) = true := by simpa using h1
            have h2' : (p.kind != 1) = true := by simpa using h2
            clear h1 h2
            rcases hcase with ⟨hKp, hdB⟩ | hKp
            all_goals
              go_enter Try.func31, Try.ntmps31
              go_wp2_with fail
              refine HPK.out.mono ?_
              rintro e w2 ⟨rfl, rfl⟩

              go_wp2
              go_ret
              exact ⟨ret_int Hz.out.symm, Below.refl _ _⟩

          · have Hz := Lib.hid (Hno.out fun ho => by have := ho.2.2.2.2; omega)
            have h3' : (p.cols.length != 0) = true := by simpa using h2.1
            have h3'' : ((p.cols.length : Int) != 0) = true := by simpa using h2.1
            have h2' : (p.kind != 8) = true := by simpa using h2.2
            clear h2
            rcases h1 with h1 | ⟨h1, h4⟩
            · have h1' : (p.table != 0) = false := by simpa using h1
              by_cases h5 : p.kind = 1
              · have h5' : (p.kind != 1) = false := by simpa using h5
                clear h1 h5
                rcases hcase with ⟨hKp, hdB⟩ | hKp
                all_goals
                  go_enter Try.func31, Try.ntmps31
                  go_wp2_with fail
                  refine HPK.out.mono ?_
                  rintro e w2 ⟨rfl, rfl⟩

                  go_wp2
                  go_ret
                  exact ⟨ret_int Hz.out.symm, Below.refl _ _⟩

              · have h5' : (p.kind != 1) = true := by simpa using h5
                clear h1 h5
                rcases hcase with ⟨hKp, hdB⟩ | hKp
                all_goals
                  go_enter Try.func31, Try.ntmps31
                  go_wp2_with fail
                  refine HPK.out.mono ?_
                  rintro e w2 ⟨rfl, rfl⟩

                  go_wp2
                  go_ret
                  exact ⟨ret_int Hz.out.symm, Below.refl _ _⟩

            · have h4' : (p.kind != 1) = false := by simpa using h4
              clear h1 h4
              rcases hcase with ⟨hKp, hdB⟩ | hKp
              all_goals
                go_enter Try.func31, Try.ntmps31
                go_wp2_with fail
                refine HPK.out.mono ?_
                rintro e w2 ⟨rfl, rfl⟩

                go_wp2
                go_ret
                exact ⟨ret_int Hz.out.symm, Below.refl _ _⟩

          · have HKr := Lib.hid (show 1 ≤ p.kind ∧ p.kind ≤ 8 ∧ K = nkids p.kind by
              have h5 := HKE.out.1
              have h6 := Hn.out
              rw [← h5] at h6
              unfold ipK at h5 h6
              unfold nkids
              split at h5
              · rename_i h7
                rw [if_pos h7]
                omega
              · rename_i h7
                rw [if_neg h7]
                split at h5
                · rename_i h8
                  rw [if_pos h8]
                  omega
                · rename_i h8
                  rw [if_neg h8]
                  split at h5
                  · omega
                  · rename_i h9
                    rw [if_neg h7, if_neg h8, if_neg h9] at h6
                    omega)
            have Hof := Lib.hid (show OnlyF p from ⟨⟨HKr.out.1, HKr.out.2.1⟩, Hn.out.trans HKr.out.2.2, HEx.out, by omega, by omega⟩)
            have hkl := Hof.out.kids_le
            by_cases hk1 : p.kind = 1
            · have hl0 : p.kids.length = 0 := by have := Hof.out.2.1; rw [hk1] at this; simp [nkids] at this; simpa using this
              have HT := Lib.hid (show topW ws p 0 0 = R by
                rw [← HR.out, plW_top Hof.out Hdz.out (fun x hx => absurd (List.length_pos_of_mem hx) (by omega))]
                have e : p.kids = [] := List.eq_nil_of_length_eq_zero hl0
                unfold kidW
                rw [e]
                rfl)
              have hT := HT.out
              rw [topW1 hk1] at hT
              have HTb := Lib.hid hT
              obtain ⟨tb, htb⟩ : ∃ t, p.table = t := ⟨_, rfl⟩
              rw [htb] at c1 HTb h1
              have h1x : (tb != 0) = false ∨ (tb != 0) = true := by cases (tb != 0) <;> simp
              have h8 : p.cols.length = 0 := by omega
              have h8' : (p.cols.length != 0) = false := by simpa using h8
              have h8'' : ((p.cols.length : Int) != 0) = false := by simpa using h8
              have hKp : ¬ 0 < K := by have := Hn.out; omega
              rw [hk1] at c0 HPK
              clear hT h1 h2 htb hl0 h8 hcase
              by_cases ht0 : tb < 0
              · have Hz := Lib.hid (show R = 0 by rw [← HTb.out, if_neg (by omega)])
                rcases h1x with h1x | h1x
                all_goals
                  go_enter Try.func31, Try.ntmps31
                  go_wp2_with fail
                  refine HPK.out.mono ?_
                  rintro e w2 ⟨rfl, rfl⟩

                  go_wp2
                  go_ret
                  exact ⟨ret_int Hz.out.symm, Below.refl _ _⟩
              · by_cases htn : (ws.length : Int) ≤ tb
                · have Hz := Lib.hid (show R = 0 by rw [← HTb.out, if_neg (by omega)])
                  rcases h1x with h1x | h1x
                  all_goals
                    go_enter Try.func31, Try.ntmps31
                    go_wp2_with fail
                    refine HPK.out.mono ?_
                    rintro e w2 ⟨rfl, rfl⟩

                    go_wp2
                    go_ret
                    exact ⟨ret_int Hz.out.symm, Below.refl _ _⟩
                · obtain ⟨j, rfl⟩ := Int.eq_ofNat_of_zero_le (show 0 ≤ tb by omega)
                  have hjl : j < ws.length := by omega
                  have hjI : (j : Int) < (ws.length : Int) := by omega
                  have Hz := Lib.hid (show R = ws[j] by rw [← HTb.out, if_pos (by omega)]; simp [List.getD_eq_getElem?_getD, hjl])
                  obtain ⟨bs, os, hAs, hBs, cs⟩ := (HS.out w (Below.refl _ _)).at1 hjl
                  subst hAs
                  rcases h1x with h1x | h1x
                  all_goals
                    go_enter Try.func31, Try.ntmps31
                    go_wp2_with fail
                    refine HPK.out.mono ?_
                    rintro e w2 ⟨rfl, rfl⟩

                    go_wp2
                    go_ret
                    exact ⟨ret_int Hz.out.symm, Below.refl _ _⟩
            · have h4' : (p.table != 0) = false := by have : p.table = 0 := by omega
                                                      simpa using this
              have h5' : (p.kind != 1) = true := by simpa using hk1
              have h6' : (p.kind == 1) = false := by simpa using hk1
              have Hk1 := Lib.hid hk1
              have H36 := Lib.hid (show p.kind = 3 → p.exprs.length ≤ 6 from fun h0 => absurd h0 HK3.out)
              have hk8b : (p.kind != 8) = true ∨ (p.kind != 8) = false := by cases (p.kind != 8) <;> simp
              have hcl : ((p.cols.length != 0) = false ∧ ((p.cols.length : Int) != 0) = false ∧ ((p.kind != 8) = true ∨ (p.kind != 8) = false)) ∨ ((p.cols.length != 0) = true ∧ ((p.cols.length : Int) != 0) = true ∧ (p.kind != 8) = false) := by
                rcases h2 with h2 | ⟨h2, h3⟩
                · exact .inl ⟨by simpa using h2, by simpa using h2, hk8b⟩
                · exact .inr ⟨by simpa using h2, by simpa using h2, by simpa using h3⟩
              have hKp : 0 < K := by
                have h7 := HKr.out.2.2
                unfold nkids at h7
                rw [if_neg hk1] at h7
                split at h7 <;> omega
              have hdB : ((d : Int) == 0) = false := by
                rcases hcase with h7 | h7
                · exact h7.2
                · exact absurd hKp h7
              have HRg := Lib.hid (show ∀ x, 0 ≤ plW ws (d - 1) x ∧ plW ws (d - 1) x ≤ 6 from fun x => plW_range HWS.out _ _)
              have hd0 : 0 < d := by have := Hn.out; have := Hdz.out; omega
              clear h1 h2 hk1 hcase
              obtain ⟨Wi, hWi⟩ : ∃ z, w.alloc (.cells #[.int .i64 0, .int .i64 0] 81) = z := ⟨_, rfl⟩
              have Bi : Below w.heap.size w Wi := by rw [← hWi]; exact balloc (Below.refl _ _) _
              have Ri : Row Wi w.heap.size 81 [.int .i64 0, .int .i64 0] := by rw [← hWi]; exact Row.new _ _ _
              have HWi := Lib.hid hWi
              have HBi := Lib.hid Bi
              have HRi := Lib.hid Ri
              clear hWi Bi Ri
              clear hk8b
              rcases hcl with ⟨h7, h8, h9 | h9⟩ | ⟨h7, h8, h9⟩
              all_goals
                go_enter Try.func31, Try.ntmps31
                go_wp2_with fail
                refine HPK.out.mono ?_
                rintro e w2 ⟨rfl, rfl⟩

                go_upto_region 13 with fail
                rw [HWi.out]
                have c4 := (BX.out Wi HBi.out).2
                go_wp2
                clear c0 c1 c2 c3 c4 h4' h5' h6' h7 h8 h9 HPK HVW
                go_loopg [10, 119] p.kids.length (fun g iv nv wr => ∃ i : Nat, i ≤ p.kids.length ∧ g = p.kids.length - i ∧ nv = .int .i64 i ∧ Below w.heap.size w wr ∧ (∀ j (hj : j < p.kids.length), j < i → plW ws (d - 1) p.kids[j] ≠ 0) ∧ Row wr w.heap.size 81 [.int .i64 (if 0 < i then kidW (plW ws (d - 1)) p 0 else 0), .int .i64 (if 1 < i then kidW (plW ws (d - 1)) p 1 else 0)])
                case atStart => exact ⟨0, by omega, by omega, rfl, HBi.out, fun j hj hn => absurd hn (by omega), HRi.out⟩
                case round =>
                  obtain ⟨i, hi, rfl, rfl, hbb, hall, hrow⟩ := hrel
                  have HA := Lib.hid hall
                  have HB := Lib.hid hbb
                  have Hrow := Lib.hid hrow
                  have c4 := (BX.out wr hbb).2
                  have hsz := hrow.lt
                  clear hbb hall hrow
                  by_cases hlt : i < p.kids.length
                  · obtain ⟨b1, o1, g, hA, hBl, hgat, hg⟩ := (HP.out wr HB.out).kid hlt
                    obtain ⟨rk, hrk⟩ : ∃ rk, plW ws (d - 1) p.kids[i] = rk := ⟨_, rfl⟩
                    have HX := Lib.hid (IH.out _ (List.getElem_mem hlt) g b1 _ ws A c (d - 1) wr rk hBl hgat hg HWS.out (by unfold maxLen; exact hwl) (HS.out wr HB.out) (by omega) hrk)
                    have ed : ((d - 1 : Nat) : Int) = (d : Int) - 1 := by omega
                    rw [ed] at HX
                    have Hrk := Lib.hid hrk
                    have Hkw := Lib.hid (show kidW (plW ws (d - 1)) p i = rk by unfold kidW; rw [List.getElem?_eq_getElem hlt]; exact hrk)
                    have hil : (i : Int) < (p.kids.length : Int) := by omega
                    rw [hA] at c4
                    clear hrk hg hA ed hgat
                    have hi2 : i = 0 ∨ i = 1 := by omega
                    rcases hi2 with rfl | rfl
                    all_goals
                      have Hrow0 := Hrow
                      go_wp2_with fail
                      refine HX.out.mono ?_
                      rintro e w4 ⟨rfl, hb4⟩
                      have HB4 := Lib.hid (bch HB.out hb4)
                      have Hr4 := Lib.hid (Hrow.out.on hb4)
                      have e0 := Hr4.out.cell 0
                      have e1 := Hr4.out.cell 1
                      have f0 := Hr4.out.frozen 0
                      have f1 := Hr4.out.frozen 1
                      clear hb4
                      by_cases hz : rk = 0
                      · have Hz := Lib.hid (show R = 0 by
                          rw [← HR.out, show d = (d - 1) + 1 by omega]
                          exact plW_kid (List.getElem_mem hlt) (Hrk.out.trans hz))
                        subst hz
                        go_wp2
                        go_ret
                        exact ⟨ret_int Hz.out.symm, HB4.out.setCell (p := ⟨_, _, none⟩) (Nat.le_refl _) _⟩
                      · have Hz := Lib.hid hz
                        have hz' : (rk == 0) = false := by simpa using hz
                        clear hz
                        go_wp2
                        first
                        | go_roundg (p.kids.length - (0 + 1))
                          case measure => omega
                          case rel =>
                            refine ⟨1, by omega, by omega, by go_num, HB4.out.setCell (p := ⟨_, _, none⟩) (Nat.le_refl _) _, fun j hj hn => ?_, ?_⟩
                            · have : j = 0 := by omega
                              subst this
                              rw [Hrk.out]
                              exact Hz.out
                            · rw [Hkw.out]
                              exact Hr4.out.set 0 _
                        | go_roundg (p.kids.length - (1 + 1))
                          case measure => omega
                          case rel =>
                            refine ⟨2, by omega, by omega, by go_num, HB4.out.setCell (p := ⟨_, _, none⟩) (Nat.le_refl _) _, fun j hj hn => ?_, ?_⟩
                            · by_cases hji : j < 1
                              · exact HA.out j hj hji
                              · have : j = 1 := by omega
                                subst this
                                rw [Hrk.out]
                                exact Hz.out
                            · rw [Hkw.out]
                              exact Hr4.out.set 1 _
                  · have hie : i = p.kids.length := by omega
                    have Hall := Lib.hid (show ∀ y ∈ p.kids, plW ws (d - 1) y ≠ 0 from fun y hy => by
                      obtain ⟨j, hj, rfl⟩ := List.getElem_of_mem hy
                      exact HA.out j hj (by omega))
                    have HT := Lib.hid (show topW ws p (kidW (plW ws (d - 1)) p 0) (kidW (plW ws (d - 1)) p 1) = R by
                      rw [← HR.out, plW_top Hof.out Hdz.out Hall.out])
                    have r0 := kidW_range HRg.out p 0
                    have r1 := kidW_range HRg.out p 1
                    have hkw : ∀ j, (if j < i then kidW (plW ws (d - 1)) p j else 0) = kidW (plW ws (d - 1)) p j := fun j => by
                      split
                      · rfl
                      · unfold kidW
                        rw [List.getElem?_eq_none (by omega)]
                    have hrow := Hrow.out
                    rw [hkw 0, hkw 1] at hrow
                    obtain ⟨x0, hx0⟩ : ∃ x, kidW (plW ws (d - 1)) p 0 = x := ⟨_, rfl⟩
                    obtain ⟨x1, hx1'⟩ : ∃ x, kidW (plW ws (d - 1)) p 1 = x := ⟨_, rfl⟩
                    rw [hx0] at r0 HT hrow
                    rw [hx1'] at r1 HT hrow
                    have e0 := hrow.cell 0
                    have e1 := hrow.cell 1
                    have bw : b < wr.heap.size := by have := HB.out.size; omega
                    have HO := Lib.hid (widthOver_ok p f ws b o x0 x1 wr R bw (BX.out wr HB.out).1 (HP.out wr HB.out) Hof.out Hk1.out H36.out r0 r1 HT.out)
                    clear hkw hrow hx0 hx1' hie r0 r1
                    go_wp2_with fail
                    refine HO.out.mono ?_
                    rintro e w5 ⟨rfl, hb5⟩
                    go_wp2
                    go_ret
                    exact ⟨rfl, bch HB.out hb5⟩
      · have Hz := Lib.hid (Hno.out fun ho => he (by
          have h1 := ho.2.2.1
          have h2 := HK3.out
          rw [h1, ← HKE.out.2]
          unfold nexprs ipE
          by_cases h3 : p.kind = 2 ∨ p.kind = 4 ∨ p.kind = 5
          · rw [if_pos h3, if_pos (by omega)]
          · rw [if_neg h3, if_neg h2, if_neg (by omega)]))
        have heB : ((p.exprs.length : Int) != E0) = true := by simpa using he
        clear he

        go_enter Try.func31, Try.ntmps31
        go_wp2_with fail
        refine HPK.out.mono ?_
        rintro e w2 ⟨rfl, rfl⟩

        go_wp2
        go_ret
        exact ⟨ret_int Hz.out.symm, Below.refl _ _⟩
    · have Hz := Lib.hid (Hno.out fun ho => hn (by
        rw [ho.2.1, ← HKE.out.1]
        unfold nkids ipK
        have := ho.1
        by_cases h1 : p.kind = 1
        · rw [if_pos h1, if_pos h1]
        · rw [if_neg h1, if_neg h1]
          by_cases h2 : p.kind = 4 ∨ p.kind = 5 ∨ p.kind = 6
          · rw [if_pos h2, if_pos h2]
          · rw [if_neg h2, if_neg h2, if_pos (by omega)]))
      have hnB : ((p.kids.length : Int) != K) = true := by simpa using hn
      clear hn

      go_enter Try.func31, Try.ntmps31
      go_wp2_with fail
      refine HPK.out.mono ?_
      rintro e w2 ⟨rfl, rfl⟩

      go_wp2
      go_ret
      exact ⟨ret_int Hz.out.symm, Below.refl _ _⟩

set_option maxRecDepth 20000 in
set_option maxHeartbeats 1000000 in
theorem PlanWidth_ok (p : Pl) (f : FP) (ws : List Int) (A : Option Addr) (c : Nat) (w : World) (R : Int) (h : PlIn w w.heap.size f p) (hwl : ws.length ≤ maxLen) (hsl : Sl 1 intC w w.heap.size A ws) (hr : widthP ws p = R) :
    Calls Try.prog 15 #[fpV f, .slice A ws.length c] w fun e w' => e = .returned (.int .i64 R) ∧ Below w.heap.size w w' := by
  obtain ⟨W1, hW1⟩ : ∃ z, w.alloc (.cells #[.int .i64 f.kind, .int .i64 f.table, .slice f.es.A f.es.n f.es.c, .slice f.cs.A f.cs.n f.cs.c, .slice f.ks.A f.ks.n f.ks.c] 27) = z := ⟨_, rfl⟩
  have B1 : Below w.heap.size w W1 := by rw [← hW1]; exact balloc (Below.refl _ _) _
  have r1 : Row W1 w.heap.size 27 [.int .i64 f.kind, .int .i64 f.table, .slice f.es.A f.es.n f.es.c, .slice f.cs.A f.cs.n f.cs.c, .slice f.ks.A f.ks.n f.ks.c] := by rw [← hW1]; exact Row.new _ _ _
  obtain ⟨q, hq⟩ := bool_of (P := WsOk ws)
  have HV := Lib.hid (implValidWidths_ok ws A c W1 q hwl (hsl.on B1) hq)
  have Hq := Lib.hid hq
  have HW1 := Lib.hid hW1
  have HB1 := Lib.hid B1
  have HR := Lib.hid hr
  have Hrow := Lib.hid r1
  have HP := Lib.hid (fun (z : World) (hz : Below w.heap.size w z) => And.intro (h.on hz) (hsl.on hz))
  have Hwl := Lib.hid hwl
  unfold fpV
  clear hq hW1 B1 hr r1 h hsl hwl
  cases q
  · have Hz := Lib.hid (show R = 0 by rw [← HR.out]; unfold widthP; rw [if_neg fun ho => by have := Hq.out.2 ho; cases this])
    go_enter Try.func15, Try.ntmps15
    go_upto_region 1 with fail
    rw [HW1.out]
    go_wp2_with fail
    refine HV.out.mono ?_
    rintro e w3 ⟨rfl, hb3⟩
    go_wp2
    go_ret
    exact ⟨ret_int Hz.out.symm, bch HB1.out hb3⟩
  · have hws : WsOk ws := Hq.out.1 rfl
    have HX := Lib.hid (fun (z : World) (hz : Below w.heap.size w z) (hrow : Row z w.heap.size 27 [.int .i64 f.kind, .int .i64 f.table, .slice f.es.A f.es.n f.es.c, .slice f.cs.A f.cs.n f.cs.c, .slice f.ks.A f.ks.n f.ks.c]) =>
      widthBelow_ok p f w.heap.size 0 ws A c 8 z R hrow.lt ⟨hrow.cell 0, hrow.cell 1, hrow.cell 2, hrow.cell 3, hrow.cell 4⟩ (HP.out z hz).1 hws.2 Hwl.out (HP.out z hz).2 (by omega) (by rw [← HR.out]; unfold widthP; rw [if_pos hws]))
    clear hws
    go_enter Try.func15, Try.ntmps15
    go_upto_region 1 with fail
    rw [HW1.out]
    go_wp2_with fail
    refine HV.out.mono ?_
    rintro e w3 ⟨rfl, hb3⟩
    have HB3 := Lib.hid (bch HB1.out hb3)
    have hrow := Lib.hid (Hrow.out.on hb3)
    clear hb3
    go_wp2_with fail
    refine (HX.out w3 HB3.out hrow.out).mono ?_
    rintro e w4 ⟨rfl, hb4⟩
    go_wp2
    go_ret
    exact ⟨rfl, bch HB3.out hb4⟩
end Go.Proofs.Ytcbfbgngkdiijaa
