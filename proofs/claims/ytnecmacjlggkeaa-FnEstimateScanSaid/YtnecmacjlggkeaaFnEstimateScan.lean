/-
  FnEstimateScan returns true for all bytes and leaves them as they were. No condition.
-/
import Derived.Test.YtnecmacjlggkeaaRows
import Derived.OpenShut
import Derived.Test.YtnecmacjlggkeaaDrE
import Derived.Test.YtnecmacjlggkeaaEsb
import Derived.Test.YtnecmacjlggkeaaGeP
import Derived.Test.YtnecmacjlggkeaaRgG
import Derived.Test.YtnecmacjlggkeaaArgB
namespace Go.Proofs.Ytnecmacjlggkeaa
open Go.RowKit Go.Qo
open Go.ChangeShapes Go.WideShapes Go.ChangeAt
set_option linter.unusedVariables false
set_option linter.unusedSimpArgs false

/-- The scan of the first table, and a union of two of them. -/
def scP : Pl := .mk 1 0 [] [] []
def scF : FP := ⟨1, 0, ⟨none, 0, 0⟩, ⟨none, 0, 0⟩, ⟨none, 0, 0⟩⟩
def unP : Pl := .mk 6 0 [] [] [scP, scP]
theorem scT {S : Nat → Prop} {w : World} : PlT S w scF scP := PlT.make SVok.nil SVok.nil SVok.nil ExsT.nil SlS.nil PlsT.nil
theorem only_sc : OnlyF scP := ⟨by decide, by decide, by decide, Or.inl rfl, Or.inl rfl⟩
theorem only_un : OnlyF unP := ⟨by decide, by decide, by decide, Or.inl rfl, Or.inl rfl⟩
theorem w_sc {ws : List Int} (h : WsOk ws) (d : Nat) : plW ws d scP = ws.getD 0 0 ∧ ws.getD 0 0 ≠ 0 := by
  have hl : 0 < ws.length := by have := h.1.1; omega
  have h1 := h.2 _ (List.getElem_mem hl)
  refine ⟨?_, ?_⟩
  · rw [plW_top only_sc (fun h0 => absurd h0 (by decide)) (fun x hx => by cases hx)]
    unfold topW
    rw [if_pos (show scP.kind = 1 from rfl), if_pos ⟨by decide, by show (0 : Int) < ws.length; omega⟩]
    rfl
  · rw [List.getD_eq_getElem?_getD, List.getElem?_eq_getElem hl]
    simp
    omega
theorem es_sc {ss : List St} (h : esOk ss scP ∨ ∃ p, esOk ss p) : erP ss scP = (stAt ss 0).rows ∧ erP ss unP = 2 * (stAt ss 0).rows := by
  obtain ⟨p, hp⟩ : ∃ p, esOk ss p := by
    rcases h with h | h
    · exact ⟨_, h⟩
    · exact h
  have hw := (esOk_w hp).1
  have h1 : esOk ss scP := ⟨hp.1, by unfold widthP; rw [if_pos hw, (w_sc hw 8).1]; exact (w_sc hw 8).2⟩
  have h2 : esOk ss unP := ⟨hp.1, by
    unfold widthP
    rw [if_pos hw, plW_top only_un (fun _ => by decide) (fun x hx => by
      have : x = scP := by
        have hx : x ∈ [scP, scP] := hx
        simpa using hx
      subst this
      rw [(w_sc hw _).1]; exact (w_sc hw 7).2)]
    have e0 : kidW (plW (wsOf ss) (8 - 1)) unP 0 = (wsOf ss).getD 0 0 := (w_sc hw _).1
    have e1 : kidW (plW (wsOf ss) (8 - 1)) unP 1 = (wsOf ss).getD 0 0 := (w_sc hw _).1
    rw [e0, e1]
    unfold topW
    rw [if_neg (by decide), if_neg (by decide), if_neg (by decide), if_neg (by decide), if_pos (by decide), if_pos rfl]
    exact (w_sc hw 7).2⟩
  have e1 : scP.est ss = (stAt ss 0).rows := by rw [est_eq]; rfl
  refine ⟨by rw [erP_yes h1, e1], ?_⟩
  rw [erP_yes h2, est_eq]
  have hr := (stAt_ok hp.1 0).1
  have : topE ss 6 0 [] 0 [scP, scP] [scP.est ss, scP.est ss] = 2 * (stAt ss 0).rows := by
    unfold topE
    rw [if_neg (by decide), if_neg (by decide), if_neg (by decide), if_neg (by decide), if_pos rfl]
    rw [e1]
    simp only [at0]
    simp only [List.getD_eq_getElem?_getD, List.getElem?_cons_zero, List.getElem?_cons_succ, Option.getD_some]
    omega
  exact this
set_option maxRecDepth 20000 in
set_option maxHeartbeats 4000000 in
theorem FnEstimateScan_walk (A : Option Addr) (c : Nat) (xs : List Int) (w : World) (hc : xs.length ≤ c) (hm : c ≤ maxLen) (hg : ∀ x ∈ xs, 0 ≤ x ∧ x ≤ 255) (h : Sl 1 byteC w w.heap.size A xs) :
    Calls Try.prog 3 #[.slice A xs.length c] w fun e w' => e = .returned (.bool true) ∧ Below w.heap.size w w' := by
  have HD := Lib.hid (drawEstimateRows_ok A c xs w hc hm hg h)
  have hx63 : xs.length ≤ 9223372036854775807 := by unfold maxLen at hm; omega
  clear h hg hc hm
  by_cases hx : (1048576 : Int) < xs.length
  · clear HD
    go_enter Try.func3, Try.ntmps3
    go_wp2
    go_ret
    exact ⟨rfl, Below.refl _ _⟩
  go_enter Try.func3, Try.ntmps3
  go_wp2_with fail
  refine HD.out.mono ?_
  rintro e w3 ⟨pf, px, A2, m, c2, fs, ss, rfl, hpt, ho, hst, hsl, hm, hsm, hb3⟩
  subst hsl
  unfold fpV
  obtain ⟨R, hR⟩ : ∃ R, erP ss px = R := ⟨_, rfl⟩
  obtain ⟨W4, hW4⟩ : ∃ z, w3.alloc (.cells #[.int .i64 pf.kind, .int .i64 pf.table, .slice pf.es.A pf.es.n pf.es.c, .slice pf.cs.A pf.cs.n pf.cs.c, .slice pf.ks.A pf.ks.n pf.ks.c] 27) = z := ⟨_, rfl⟩
  have B4 : Below w3.heap.size w3 W4 := by rw [← hW4]; exact balloc (Below.refl _ _) _
  have r4 : Row W4 w3.heap.size 27 (fpC pf) := by rw [← hW4]; exact Row.new _ _ _
  have BX := Lib.hid (fun (z : World) (hz : Below W4.heap.size W4 z) => show (z.cell? ⟨w3.heap.size, 0, none⟩ = some (.int .i64 pf.kind) ∧ z.cell? ⟨w3.heap.size, 1, none⟩ = some (.int .i64 pf.table) ∧ z.cell? ⟨w3.heap.size, 2, none⟩ = some (.slice pf.es.A pf.es.n pf.es.c) ∧ z.cell? ⟨w3.heap.size, 3, none⟩ = some (.slice pf.cs.A pf.cs.n pf.cs.c) ∧ z.cell? ⟨w3.heap.size, 4, none⟩ = some (.slice pf.ks.A pf.ks.n pf.ks.c)) from ⟨(r4.on hz).cell 0, (r4.on hz).cell 1, (r4.on hz).cell 2, (r4.on hz).cell 3, (r4.on hz).cell 4⟩)
  have hsi := StsT.in_ hst ho
  have KK := Lib.hid (fun (z : World) (g : FP) (x : Pl) (E : Int) (hg : PlIn z z.heap.size g x) (hE : erP ss x = E) (hz : Below w3.heap.size w3 z) => implEstimateRows_ok x g ss A2 c2 z E hg (hsi.on hz) hsm (by omega) hE)
  have KI := Lib.hid (fun (z : World) (hz : Below w3.heap.size w3 z) => implEstimateRows_ok px pf ss A2 c2 z R (hpt.in_.on hz) (hsi.on hz) hsm (by omega) hR)
  have KS := Lib.hid (fun (z : World) (hz : Below w3.heap.size w3 z) => specEstimateRows_ok px pf ss A2 c2 z R (hpt.in_.on hz) (hsi.on hz) hsm (by omega) hR)
  have HSI := Lib.hid (fun (z : World) (hz : Below w3.heap.size w3 z) => hsi.on hz)
  unfold fpV at KI KS KK
  have HR := Lib.hid hR
  have HB3 := Lib.hid (And.intro hb3 B4)
  have HW4 := Lib.hid hW4
  have HP := Lib.hid hpt
  obtain ⟨x0, x1, x2, x3, x4⟩ := BX.out _ (Below.refl _ _)
  clear hpt ho hst hsm hb3 B4 r4 hW4 hR HD hsi
  go_upto_region 4 with fail
  rw [HW4.out]
  go_wp2_with fail
  refine (KI.out _ HB3.out.2).mono ?_
  rintro e w5 ⟨rfl, hb5⟩
  have H5 := Lib.hid hb5
  obtain ⟨x0, x1, x2, x3, x4⟩ := BX.out _ hb5
  clear hb5
  go_wp2_with fail
  refine (KS.out _ (bch HB3.out.2 H5.out)).mono ?_
  rintro e w6 ⟨rfl, hb6⟩
  have H6 := Lib.hid (bch H5.out hb6)
  obtain ⟨x0, x1, x2, x3, x4⟩ := BX.out _ H6.out
  clear hb6
  have hnn : (R != R) = false := by simp
  by_cases hRn : R < 0
  · have hee : (R == R) = true := by simp
    go_wp2_with fail
    refine (KS.out _ (bch HB3.out.2 H6.out)).mono ?_
    rintro e w7 ⟨rfl, hb7⟩
    have H7 := Lib.hid (bch H6.out hb7)
    clear hb7
    go_wp2
    go_ret
    exact ⟨rfl, bch HB3.out.1 (bch HB3.out.2 H7.out)⟩
  · have hok : esOk ss px := Classical.byContradiction fun hn => by have := HR.out; rw [erP_no hn] at this; omega
    have hl0 : 0 < ss.length := by have := (esOk_w hok).1.1.1; rw [wsOf_length] at this; omega
    have hsc := es_sc (Or.inr ⟨px, hok⟩)
    obtain ⟨bs, os, sf, hAs, hBs, ⟨hF0, _, _⟩, hsi0⟩ := (HSI.out _ (Below.refl _ _)).at_ hl0
    rw [Nat.zero_mul, Nat.add_zero, hsi0.1] at hF0
    have hst0 : (stAt ss 0).rows = (ss[0]).rows := by
      show (ss.getD (0 : Int).toNat default).rows = _
      rw [List.getD_eq_getElem?_getD]
      show (ss[0]?.getD default).rows = _
      rw [List.getElem?_eq_getElem hl0]; rfl
    have hrr := (stAt_ok hok.1 0).1
    rw [hst0] at hsc hrr
    obtain ⟨rl, hrl⟩ : ∃ r, (ss[0]).rows = r := ⟨_, rfl⟩
    rw [hrl] at hsc hrr hF0
    obtain ⟨W7, hW7⟩ : ∃ z, w6.alloc (.cells #[.int .i64 1, .int .i64 0, .slice none 0 0, .slice none 0 0, .slice none 0 0] 27) = z := ⟨_, rfl⟩
    have b7 : Below w6.heap.size w6 W7 := by rw [← hW7]; exact balloc (Below.refl _ _) _
    have r7 : Row W7 w6.heap.size 27 [.int .i64 1, .int .i64 0, .slice none 0 0, .slice none 0 0, .slice none 0 0] := by rw [← hW7]; exact Row.new _ _ _
    have H7 := Lib.hid (bch H6.out b7)
    have hF7 := Lib.hid (fun (z : World) (hz : Below W7.heap.size W7 z) => (bch HB3.out.2 (bch H7.out hz)).cell (p := ⟨bs, os, none⟩) hBs |>.trans hF0)
    have SB := Lib.hid (fun (z : World) (hz : Below W7.heap.size W7 z) => show z.cell? ⟨w6.heap.size, 0, none⟩ = some (.int .i64 1) ∧ z.cell? ⟨w6.heap.size, 1, none⟩ = some (.int .i64 0) ∧ z.cell? ⟨w6.heap.size, 2, none⟩ = some (.slice none 0 0) ∧ z.cell? ⟨w6.heap.size, 3, none⟩ = some (.slice none 0 0) ∧ z.cell? ⟨w6.heap.size, 4, none⟩ = some (.slice none 0 0) ∧ z.cell? ⟨bs, os, none⟩ = some (.int .i64 rl) from
      have h := r7.on hz
      ⟨h.cell 0, h.cell 1, h.cell 2, h.cell 3, h.cell 4, hF7.out z hz⟩)
    have KZ := Lib.hid (fun (z : World) (hz : Below W7.heap.size W7 z) => KK.out z scF scP rl (scT (S := fun _ => True)).in_ hsc.1 (bch HB3.out.2 (bch H7.out hz)))
    have KU := Lib.hid (fun (z : World) (c : SV) (hg : PlIn z z.heap.size ⟨6, 0, ⟨none, 0, 0⟩, ⟨none, 0, 0⟩, c⟩ unP) (hz : Below W7.heap.size W7 z) => KK.out z ⟨6, 0, ⟨none, 0, 0⟩, ⟨none, 0, 0⟩, c⟩ unP (2 * rl) hg hsc.2 (bch HB3.out.2 (bch H7.out hz)))
    unfold scF at KZ
    have hbs7 : bs < W7.heap.size := Nat.lt_of_lt_of_le hBs (bch HB3.out.2 H7.out).size
    have h67 : w6.heap.size < W7.heap.size := r7.lt
    have HW7 := Lib.hid hW7
    have hi0 : (0 : Int) < (ss.length : Int) := by omega
    have hw2 : IntKind.i64.wrap (2 * rl) = 2 * rl := IntWalk.i64_in _ (by omega)
    subst hAs
    clear hok hsc hsi0 hst0 hrl hW7 b7 r7 hF0
    go_upto_region 8 with fail
    rw [HW7.out]
    obtain ⟨u0, hu0⟩ : ∃ z, W7.drew = z := ⟨_, rfl⟩
    have Bu0 := Lib.hid (show Below W7.heap.size W7 u0 from hu0 ▸ (Below.refl _ _).drew)
    have Hu0 := Lib.hid hu0
    clear hu0
    refine wp_region_g 22 (fun z => z.cell? ⟨w6.heap.size, 0, none⟩ = some (.int .i64 1) ∧ z.cell? ⟨w6.heap.size, 1, none⟩ = some (.int .i64 0) ∧ z.cell? ⟨w6.heap.size, 2, none⟩ = some (.slice none 0 0) ∧ z.cell? ⟨w6.heap.size, 3, none⟩ = some (.slice none 0 0) ∧ z.cell? ⟨w6.heap.size, 4, none⟩ = some (.slice none 0 0) ∧ z.cell? ⟨bs, os, none⟩ = some (.int .i64 rl)) (by kernel_rfl) ?_ (fun hHeld => ?_)
    · exact SB.out _ (Below.refl _ _).drew
    rw [Hu0.out] at hHeld ⊢
    refine takeG (i := 0) (v := ?v1) rfl (by kernel_rfl) (by kernel_rfl) (by kernel_rfl) (by kernel_rfl) (fun _ _ _ h => h) (Or.inl ⟨by rfl, ?hy1⟩) (by assumption) ?_
    case hy1 => ((intro w' hSw; (try dsimp only at hSw); go_simp) <;> with_reducible rfl)
    try simp only [Act.put, List.setIfInBounds_toArray, List.set_cons_zero, List.set_cons_succ]
    refine takeG (i := 1) (v := ?v2) rfl (by kernel_rfl) (by kernel_rfl) (by kernel_rfl) (by kernel_rfl) (fun _ _ _ h => h) (Or.inl ⟨by rfl, ?hy2⟩) (by assumption) ?_
    case hy2 => ((intro w' hSw; (try dsimp only at hSw); go_simp) <;> with_reducible rfl)
    try simp only [Act.put, List.setIfInBounds_toArray, List.set_cons_zero, List.set_cons_succ]
    refine takeG (i := 3) (v := ?v3) rfl (by kernel_rfl) (by kernel_rfl) (by kernel_rfl) (by kernel_rfl) (fun _ _ _ h => h) (Or.inl ⟨by rfl, ?hy3⟩) (by assumption) ?_
    case hy3 => ((intro w' hSw; (try dsimp only at hSw); go_simp) <;> with_reducible rfl)
    try simp only [Act.put, List.setIfInBounds_toArray, List.set_cons_zero, List.set_cons_succ]
    refine takeG (i := 4) (v := ?v4) rfl (by kernel_rfl) (by kernel_rfl) (by kernel_rfl) (by kernel_rfl) (fun _ _ _ h => h) (Or.inl ⟨by rfl, ?hy4⟩) (by assumption) ?_
    case hy4 => ((intro w' hSw; (try dsimp only at hSw); go_simp) <;> with_reducible rfl)
    try simp only [Act.put, List.setIfInBounds_toArray, List.set_cons_zero, List.set_cons_succ]
    refine takeG (i := 5) (v := ?v5) rfl (by kernel_rfl) (by kernel_rfl) (by kernel_rfl) (by kernel_rfl) (fun _ _ _ h => h) (Or.inl ⟨by rfl, ?hy5⟩) (by assumption) ?_
    case hy5 => ((intro w' hSw; (try dsimp only at hSw); go_simp) <;> with_reducible rfl)
    try simp only [Act.put, List.setIfInBounds_toArray, List.set_cons_zero, List.set_cons_succ]
    refine takeG (i := 6) (v := ?v6) rfl (by kernel_rfl) (by kernel_rfl) (by kernel_rfl) (by kernel_rfl) (fun _ _ _ h => h) (Or.inl ⟨by rfl, ?hy6⟩) (by assumption) ?_
    case hy6 => ((intro w' hSw; (try dsimp only at hSw); go_simp) <;> with_reducible rfl)
    try simp only [Act.put, List.setIfInBounds_toArray, List.set_cons_zero, List.set_cons_succ]
    refine wpAnyG_ready (rs := [2]) (by kernel_rfl) (by simp) ?_
    refine readyG rfl (fun K hK => ?_) AllReadyG.nil
    have HF := Lib.hid (KZ.out u0 Bu0.out)
    go_simp
    go_at_call 10
    refine HF.out.mono ?_
    rintro e x1 ⟨rfl, hb⟩
    have Bx1 := Lib.hid (bch Bu0.out hb)
    clear hb HF
    refine hK.out _ _ ?hS7 (fun hHeld => ?_)
    case hS7 => exact fun _ => SB.out _ Bx1.out
    replace hHeld := hHeld (by decide)
    clear hK K
    try simp only [Act.put, List.setIfInBounds_toArray, List.set_cons_zero, List.set_cons_succ]
    refine takeG (i := 7) (v := ?v8) rfl (by kernel_rfl) (by kernel_rfl) (by kernel_rfl) (by kernel_rfl) (fun _ _ _ h => h) (Or.inl ⟨by rfl, ?hy8⟩) (by assumption) ?_
    case hy8 => ((intro w' hSw; (try dsimp only at hSw); go_simp) <;> with_reducible rfl)
    try simp only [Act.put, List.setIfInBounds_toArray, List.set_cons_zero, List.set_cons_succ]
    refine takeG (i := 8) (v := ?v9) rfl (by kernel_rfl) (by kernel_rfl) (by kernel_rfl) (by kernel_rfl) (fun _ _ _ h => h) (Or.inl ⟨by rfl, ?hy9⟩) (by assumption) ?_
    case hy9 => ((intro w' hSw; (try dsimp only at hSw); go_simp) <;> with_reducible rfl)
    try simp only [Act.put, List.setIfInBounds_toArray, List.set_cons_zero, List.set_cons_succ]
    refine takeG (i := 9) (v := ?v10) rfl (by kernel_rfl) (by kernel_rfl) (by kernel_rfl) (by kernel_rfl) (fun _ _ _ h => h) (Or.inl ⟨by rfl, ?hy10⟩) (by assumption) ?_
    case hy10 => ((intro w' hSw; (try dsimp only at hSw); go_simp) <;> with_reducible rfl)
    try simp only [Act.put, List.setIfInBounds_toArray, List.set_cons_zero, List.set_cons_succ]
    refine takeG (i := 10) (v := ?v11) rfl (by kernel_rfl) (by kernel_rfl) (by kernel_rfl) (by kernel_rfl) (fun _ _ _ h => h) (Or.inl ⟨by rfl, ?hy11⟩) (by assumption) ?_
    case hy11 => ((intro w' hSw; (try dsimp only at hSw); go_simp) <;> with_reducible rfl)
    try simp only [Act.put, List.setIfInBounds_toArray, List.set_cons_zero, List.set_cons_succ]
    refine takeG (i := 13) (v := ?v12) rfl (by kernel_rfl) (by kernel_rfl) (by kernel_rfl) (by kernel_rfl) (fun _ _ _ h => h) (Or.inl ⟨by rfl, ?hy12⟩) (by assumption) ?_
    case hy12 => ((intro w' hSw; (try dsimp only at hSw); go_simp) <;> with_reducible rfl)
    try simp only [Act.put, List.setIfInBounds_toArray, List.set_cons_zero, List.set_cons_succ]
    refine takeG (i := 15) (v := ?v13) rfl (by kernel_rfl) (by kernel_rfl) (by kernel_rfl) (by kernel_rfl) (fun _ _ _ h => h) (Or.inl ⟨by rfl, ?hy13⟩) (by assumption) ?_
    case hy13 => ((intro w' hSw; (try dsimp only at hSw); go_simp) <;> with_reducible rfl)
    try simp only [Act.put, List.setIfInBounds_toArray, List.set_cons_zero, List.set_cons_succ]
    refine takeG (i := 16) (v := ?v14) rfl (by kernel_rfl) (by kernel_rfl) (by kernel_rfl) (by kernel_rfl) (fun _ _ _ h => h) (Or.inl ⟨by rfl, ?hy14⟩) (by assumption) ?_
    case hy14 => ((intro w' hSw; (try dsimp only at hSw); go_simp) <;> with_reducible rfl)
    try simp only [Act.put, List.setIfInBounds_toArray, List.set_cons_zero, List.set_cons_succ]
    refine takeG (i := 17) (v := ?v15) rfl (by kernel_rfl) (by kernel_rfl) (by kernel_rfl) (by kernel_rfl) (fun _ _ _ h => h) (Or.inl ⟨by rfl, ?hy15⟩) (by assumption) ?_
    case hy15 => ((intro w' hSw; (try dsimp only at hSw); go_simp) <;> with_reducible rfl)
    try simp only [Act.put, List.setIfInBounds_toArray, List.set_cons_zero, List.set_cons_succ]
    refine takeG (i := 18) (v := ?v16) rfl (by kernel_rfl) (by kernel_rfl) (by kernel_rfl) (by kernel_rfl) (fun _ _ _ h => h) (Or.inl ⟨by rfl, ?hy16⟩) (by assumption) ?_
    case hy16 => ((intro w' hSw; (try dsimp only at hSw); go_simp) <;> with_reducible rfl)
    try simp only [Act.put, List.setIfInBounds_toArray, List.set_cons_zero, List.set_cons_succ]
    refine takeG (i := 19) (v := ?v17) rfl (by kernel_rfl) (by kernel_rfl) (by kernel_rfl) (by kernel_rfl) (fun _ _ _ h => h) (Or.inl ⟨by rfl, ?hy17⟩) (by assumption) ?_
    case hy17 => ((intro w' hSw; (try dsimp only at hSw); go_simp) <;> with_reducible rfl)
    try simp only [Act.put, List.setIfInBounds_toArray, List.set_cons_zero, List.set_cons_succ]
    refine wpAnyG_ready (rs := [11]) (by kernel_rfl) (by simp) ?_
    refine readyG rfl (fun K hK => ?_) AllReadyG.nil
    obtain ⟨x2, hx2⟩ : ∃ z, x1.alloc (.cells #[.int .i64 1, .int .i64 0, .slice none 0 0, .slice none 0 0, .slice none 0 0, .int .i64 1, .int .i64 0, .slice none 0 0, .slice none 0 0, .slice none 0 0] 27) = z := ⟨_, rfl⟩
    have hp2 : PlsT (fun _ => True) x2 (some ⟨x1.heap.size, 0, none⟩) [scP, scP] := by rw [← hx2]; exact pls_lit2 (scT (S := fun _ => True)) (scT (S := fun _ => True)) _ rfl trivial _
    have Hp2 := Lib.hid hp2
    have b2 : Below x1.heap.size x1 x2 := by rw [← hx2]; exact balloc (Below.refl _ _) _
    have Bx2 := Lib.hid (bch Bx1.out b2)
    go_simp
    (try rw [hx2])
    have Hx2 := Lib.hid hx2
    clear hp2 b2 hx2
    refine hK.out _ _ ?hS18 (fun hHeld => ?_)
    case hS18 => exact fun _ => SB.out _ Bx2.out
    replace hHeld := hHeld (by decide)
    clear hK K
    try simp only [Act.put, List.setIfInBounds_toArray, List.set_cons_zero, List.set_cons_succ]
    refine takeG (i := 12) (v := ?v19) rfl (by kernel_rfl) (by kernel_rfl) (by kernel_rfl) (by kernel_rfl) (fun _ _ _ h => h) (Or.inl ⟨by rfl, ?hy19⟩) (by assumption) ?_
    case hy19 => ((intro w' hSw; (try dsimp only at hSw); go_simp) <;> with_reducible rfl)
    try simp only [Act.put, List.setIfInBounds_toArray, List.set_cons_zero, List.set_cons_succ]
    refine wpAnyG_ready (rs := [14]) (by kernel_rfl) (by simp) ?_
    refine readyG rfl (fun K hK => ?_) AllReadyG.nil
    have HF := Lib.hid (KU.out x2 ⟨some ⟨x1.heap.size, 0, none⟩, 2, 2⟩ (PlT.make SVok.nil SVok.nil (SVok.lit (by decide)) ExsT.nil SlS.nil Hp2.out).in_ Bx2.out)
    go_simp
    go_at_call 10
    refine HF.out.mono ?_
    rintro e x3 ⟨rfl, hb⟩
    have Bx3 := Lib.hid (bch Bx2.out hb)
    clear hb HF
    refine hK.out _ _ ?hS20 (fun hHeld => ?_)
    case hS20 => exact fun _ => SB.out _ Bx3.out
    replace hHeld := hHeld (by decide)
    clear hK K
    try simp only [Act.put, List.setIfInBounds_toArray, List.set_cons_zero, List.set_cons_succ]
    refine takeG (i := 20) (v := ?v21) rfl (by kernel_rfl) (by kernel_rfl) (by kernel_rfl) (by kernel_rfl) (fun _ _ _ h => h) (Or.inl ⟨by rfl, ?hy21⟩) (by assumption) ?_
    case hy21 => ((intro w' hSw; (try dsimp only at hSw); go_simp) <;> with_reducible rfl)
    try simp only [Act.put, List.setIfInBounds_toArray, List.set_cons_zero, List.set_cons_succ]
    refine takeG (i := 21) (v := ?v22) rfl (by kernel_rfl) (by kernel_rfl) (by kernel_rfl) (by kernel_rfl) (fun _ _ _ h => h) (Or.inl ⟨by rfl, ?hy22⟩) (by assumption) ?_
    case hy22 => ((intro w' hSw; (try dsimp only at hSw); go_simp) <;> with_reducible rfl)
    try simp only [Act.put, List.setIfInBounds_toArray, List.set_cons_zero, List.set_cons_succ]
    refine wpAnyG_ready (rs := [22]) (by kernel_rfl) (by simp) ?_
    refine readyG rfl (fun K hK => ?_) AllReadyG.nil
    go_simp
    refine hK.out _ _ ?hS23 (fun hHeld => ?_)
    case hS23 => exact fun h => absurd rfl h
    clear hK K
    try simp only [Act.put, List.setIfInBounds_toArray, List.set_cons_zero, List.set_cons_succ]
    refine wpAnyG_done (by kernel_rfl) ?_ _
    go_wp2
    go_ret
    exact ⟨rfl, bch HB3.out.1 (bch HB3.out.2 (bch H7.out Bx3.out))⟩

namespace lawFnEstimateScan
theorem own : ownKnob Try.prog.godebug = none := by kernel_rfl
theorem laidOut : laidOutB Try.prog = true := by kernel_rfl

set_option maxRecDepth 100000 in
theorem lifted (os : Os) (started : os.Started) (H : Type) (enc : TypeId × Value → H) :
    ReturnsInHanded {} Try.checked os 3 .any (Rows.fnEstimateScanSpec.pre6 enc Try.prog Try.f3 Rows.fnEstimateScanRow.domain false) (Rows.fnEstimateScanSpec.post enc Try.prog Try.f3 false true false false) := by
  refine returnsInHanded_of_change (C := Try.checked) own started (by kernel_rfl) Try.func3
    (ChangeSpec.witness6 (enc := enc) (C := Try.checked) false ⟨#[], #[.slice none 0 0], []⟩ 8 (by kernel_rfl) (by kernel_rfl) (by kernel_rfl) (by kernel_rfl)) ?_
  intro W base args ds gs before hval0 hW hcnd _
  have hval : ∀ (j : Nat) t v, Try.f3.params[j]? = some t → args[j]? = some v → Value.okWide Try.prog W .any base t v := hval0
  have hW' := hW
  obtain ⟨p, q, hA0, hV, rfl, hfz, hnd⟩ := hW
  have hA : DataW.TrodAll enc Try.prog W 0 (fun _ => true) true Try.f3.params.toList args.toList ds p := hA0
  rw [Try.params3] at hA hval
  obtain ⟨v0, vs0, d0, ds0, p0, q0, hargs, rfl, rfl, h0, r0⟩ := trodAll_cons hA
  obtain ⟨rfl, rfl, rfl⟩ := trodAll_nil r0
  obtain rfl : args = #[v0] := by cases args; simp_all
  obtain ⟨rfl, rfl⟩ := trodVars_none hV
  obtain ⟨a0, len0, c0, rfl⟩ := okWide_slice Try.underlying22 (hval 0 22 v0 rfl rfl)
  have k0 := h0
  have lt0 : ∀ x ∈ p0, x.block < W.heap.size := by obtain ⟨m, hm⟩ := k0; exact DataW.trod_lt m _ _ _ hm
  obtain ⟨f0, h0⟩ := h0
  obtain ⟨xs0, rfl, hc0, hm0, g0, s0⟩ := open_sl (sz := 1) (ec := byteC) Try.underlying22 (by kernel_rfl) (by omega) byteC_length (el_byte Try.underlying5) h0
  clear hA0 hval0
  refine (FnEstimateScan_walk a0 c0 xs0 W hc0 hm0 g0 s0).mono fun e W' ⟨he, bel⟩ => ?_
  subst he
  exact ⟨_, rfl, _, _, _, [], _, [], hW', trodAll_mk1 (shut_bool Try.underlying4 _), (trodAll_cons_mk (Below.trod laidOut (by kernel_rfl) (of_decide_eq_true (by kernel_rfl)) k0 bel lt0) trodAll_mk0), rfl, bel.frame _, fun h => by cases h⟩

theorem over : Rows.fnEstimateScanRow.holds Try.pinned (OpenSpec.ofChange Rows.fnEstimateScanSpec) :=
  OpenClaim.holds_of_wide 3 Try.f3 rfl rfl rfl rfl rfl rfl rfl ⟨rfl, rfl, rfl, rfl, rfl⟩ rfl rfl rfl rfl rfl (by kernel_rfl) Try.func3 (by kernel_rfl)
    (of_decide_eq_true (by kernel_rfl)) (by unfold Func.isWrapper; first | (rw [if_pos (by decide +kernel)]; kernel_rfl) | (rw [if_neg (by decide +kernel)]; exact ⟨rfl, rfl⟩))
    (fun os started H enc _ => lifted os started H enc)

theorem proved : Rows.FnEstimateScanSaid := over
end lawFnEstimateScan
#print axioms lawFnEstimateScan.proved

end Go.Proofs.Ytnecmacjlggkeaa
