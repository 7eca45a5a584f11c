/-
  FnTopRows returns true for all bytes and leaves them as they were. No condition.
-/
import Derived.Test.YtmljhkoabhjiaaaRows
import Derived.OpenShut
import Derived.Deep.RegionLaw
import Derived.Deep.DeepCutAuto
import Derived.Test.YtmljhkoabhjiaaaTop
import Derived.Test.YtmljhkoabhjiaaaTopS
import Derived.Test.YtmljhkoabhjiaaaDraS
import Derived.Test.YtmljhkoabhjiaaaEqL
import Derived.Test.YtmljhkoabhjiaaaArgB
namespace Go.Proofs.Ytmljhkoabhjiaaa
open Go.RowKit Go.Qo
open Go.ChangeShapes Go.WideShapes Go.ChangeAt
set_option linter.unusedVariables false
set_option linter.unusedSimpArgs false

set_option maxRecDepth 20000 in
set_option maxHeartbeats 2000000 in
theorem FnTopRows_walk (A : Option Addr) (c : Nat) (xs : List Int) (w : World) (hc : xs.length ≤ c) (hm : c ≤ maxLen) (hg : ∀ x ∈ xs, 0 ≤ x ∧ x ≤ 255) (h : Sl 1 byteC w w.heap.size A xs) :
    Calls Try.prog 10 #[.slice A xs.length c] w fun e w' => e = .returned (.bool true) ∧ Below w.heap.size w w' := by
  have HD := Lib.hid (drawTopRows_ok A c xs w hc hm hg h)
  have hx63 : xs.length ≤ 9223372036854775807 := by unfold maxLen at hm; omega
  clear h hg hc hm
  by_cases hx : (1048576 : Int) < xs.length
  · clear HD
    go_enter Try.func10, Try.ntmps10
    go_wp2
    go_ret
    exact ⟨rfl, Below.refl _ _⟩
  · go_enter Try.func10, Try.ntmps10
    go_wp2_with fail
    refine HD.out.mono ?_
    rintro e w3 ⟨W, v3, v4, N, rfl, hNm, svs, rows, keys, hW, hrl, hkl, hrw, how3, hrt3, how4, hb3⟩
    have hN9 : -1 ≤ N ∧ N ≤ 9 := by simp at hNm; omega
    obtain ⟨hNa, hNb⟩ := hN9
    obtain ⟨A3, c3, rfl, hc31, hc32, hs3⟩ := how3.shape svC_length
    obtain ⟨A4, c4, rfl, hc41, hc42, hs4⟩ := how4.shape keyC_length
    have hsl : svs.length = rows.length := hrt3.1
    have hso : (sortK keys rows).length ≤ 16 := by rw [sortK_length]; exact hrl
    obtain ⟨d0, hd0⟩ : ∃ d : Bool, d = true ↔ (TabOk W rows ∧ KeysOk W keys) := ⟨_, @decide_eq_true_iff _ (Classical.propDecidable _)⟩
    -- what TopRows at n returns
    have HTI := Lib.hid (fun (n : Int) (out : List Row1) (d : Bool) (hd : d = true ↔ (TabOk W rows ∧ KeysOk W keys ∧ 0 ≤ n)) (hout : (if d then (sortK keys rows).take n.toNat else []) = out) (z : World) (hz : Below w3.heap.size w3 z) => implTopRows0_ok W n A3 A4 c3 c4 rows keys z (by omega) (by omega) (sls_of' (hs3.on hz).sl (hrt3.on hz)) (hs4.sl.on hz) d hd out hout)
    have HTS := Lib.hid (fun (n : Int) (out : List Row1) (d : Bool) (hd : d = true ↔ (TabOk W rows ∧ KeysOk W keys ∧ 0 ≤ n)) (hout : (if d then (sortK keys rows).take n.toNat else []) = out) (z : World) (hz : Below w3.heap.size w3 z) => specTopRows_ok W n A3 A4 c3 c4 rows keys z (by omega) (by omega) (sls_of' (hs3.on hz).sl (hrt3.on hz)) (hs4.sl.on hz) d hd out hout)
    have HSR := Lib.hid (fun (out : List Row1) (d : Bool) (hd : d = true ↔ (TabOk W rows ∧ KeysOk W keys)) (hout : (if d then sortK keys rows else []) = out) (z : World) (hz : Below w3.heap.size w3 z) => implSortRows_ok W A3 A4 c3 c4 rows keys z (by omega) (by omega) (sls_of' (hs3.on hz).sl (hrt3.on hz)) (hs4.sl.on hz) d hd out hout)
    rw [← hsl] at HTI HTS HSR
    have HB3 := Lib.hid hb3
    have HM := Lib.hid (And.intro hso (And.intro hd0 hrl))
    clear hsl how3 how4 hrt3 hs3 hs4 hb3 hrw hrl hW hNm hd0 hso
    obtain ⟨W3, hW3⟩ : ∃ z, w3.alloc (.cells #[.int .i64 W, .slice A3 svs.length c3] 50) = z := ⟨_, rfl⟩
    have B3 := Lib.hid (show Below w3.heap.size w3 W3 from hW3 ▸ balloc (Below.refl _ _) _)
    have R3 := Lib.hid (show Row W3 w3.heap.size 50 [.int .i64 W, .slice A3 svs.length c3] from hW3 ▸ Row.new _ _ _)
    have HW3 := Lib.hid hW3
    clear hW3
    obtain ⟨d, hd⟩ : ∃ d : Bool, d = true ↔ (TabOk W rows ∧ KeysOk W keys ∧ 0 ≤ N) := ⟨_, @decide_eq_true_iff _ (Classical.propDecidable _)⟩
    obtain ⟨out, hout⟩ : ∃ out, (if d then (sortK keys rows).take N.toNat else []) = out := ⟨_, rfl⟩
    have HT1 := Lib.hid (HTI.out N out d hd hout W3 B3.out)
    have HT2 := Lib.hid (fun z hz => HTS.out N out d hd hout z hz)
    have HO := Lib.hid (And.intro hd hout)
    have hol : out.length ≤ 16 := by
      rw [← hout]; split
      · rw [List.length_take]; have := HM.out.1; omega
      · simp
    clear hd hout
    have r3 := R3.out
    have e0 : W3.cell? ⟨w3.heap.size, 0, none⟩ = some (.int .i64 W) := r3.cell 0
    have e1 : W3.cell? ⟨w3.heap.size, 1, none⟩ = some (.slice A3 svs.length c3) := r3.cell 1
    have hcs : ∀ v0 v1, (w3.alloc (.cells #[v0, v1] 50)).cell? ⟨w3.heap.size, 0, none⟩ = some v0 ∧ (w3.alloc (.cells #[v0, v1] 50)).cell? ⟨w3.heap.size, 1, none⟩ = some v1 := fun v0 v1 => ⟨(Row.new _ _ _).cell 0, (Row.new _ _ _).cell 1⟩
    clear r3 hcs
    go_wp2_with fail
    rw [HW3.out]
    refine HT1.out.mono ?_
    rintro e w4 ⟨v5, sv5, rfl, how5, hrt5, hb4⟩
    obtain ⟨A5, c5, rfl, hc51, hc52, hs5⟩ := how5.shape svC_length
    have hsl5 : sv5.length = out.length := hrt5.1
    have H4 := Lib.hid (bch B3.out hb4)
    have r4 := R3.out.on hb4
    have RS5 := Lib.hid (And.intro hs5 hrt5)
    have HSL5 := Lib.hid hsl5
    have e0' : w4.cell? ⟨w3.heap.size, 0, none⟩ = some (.int .i64 W) := r4.cell 0
    have e1' : w4.cell? ⟨w3.heap.size, 1, none⟩ = some (.slice A3 svs.length c3) := r4.cell 1
    have R4 := Lib.hid r4
    have hsv5 : sv5.length ≤ 16 := by omega
    have HT4 := Lib.hid (HT2.out w4 H4.out)
    clear how5 hrt5 hb4 hs5 hsl5 r4
    go_wp2_with fail
    refine HT4.out.mono ?_
    rintro e w5 ⟨v6, sv6, rfl, how6, hrt6, hb5⟩
    obtain ⟨A6, c6, rfl, hc61, hc62, hs6⟩ := how6.shape svC_length
    have HE := Lib.hid (equalBagsT_ok (A := A5) (A' := A6) (c := c5) (c' := c6) HSL5.out hrt6.1 (by omega) (sls_of' (RS5.out.1.on hb5).sl (RS5.out.2.on hb5)) (sls_of' hs6.sl hrt6))
    have r5 := R4.out.on hb5
    have H5 := Lib.hid (bch H4.out hb5)
    have RS5' := Lib.hid (And.intro (RS5.out.1.on hb5) (RS5.out.2.on hb5))
    have R5 := Lib.hid r5
    clear how6 hrt6 hb5 hs6 r5 e0' e1'
    go_wp2_with fail
    refine HE.out.mono ?_
    rintro e w6 ⟨rfl, hb6⟩
    have r6 := R5.out.on hb6
    have e0 : w6.cell? ⟨w3.heap.size, 0, none⟩ = some (.int .i64 W) := r6.cell 0
    have e1 : w6.cell? ⟨w3.heap.size, 1, none⟩ = some (.slice A3 svs.length c3) := r6.cell 1
    have R6 := Lib.hid r6
    have H6 := Lib.hid (bch H5.out hb6)
    have RS6 := Lib.hid (And.intro (RS5'.out.1.on hb6) (RS5'.out.2.on hb6))
    clear hb6 r6
    rcases Nat.eq_zero_or_pos sv5.length with hz | hz
    · have hz0 : (sv5.length : Int) = 0 := by omega
      have hzz := Lib.hid hz
      clear hz
      have HT6 := Lib.hid (HT2.out w6 H6.out)
      go_wp2_with fail
      refine HT6.out.mono ?_
      rintro e w7 ⟨v7, sv7, rfl, how7, hrt7, hb7⟩
      obtain ⟨A7, c7, rfl, hc71, hc72, hs7⟩ := how7.shape svC_length
      have HE := Lib.hid (fun n (hn : n = sv5.length) => equalBagsT_ok (A := A5) (A' := A7) (c := c5) (c' := c7) (hn.trans HSL5.out) hrt7.1 (by omega) (sls_of' (RS6.out.1.on hb7).sl (RS6.out.2.on hb7)) (sls_of' hs7.sl hrt7))
      have H7 := Lib.hid (bch H6.out hb7)
      clear how7 hrt7 hb7 hs7
      go_wp2_with fail
      refine (HE.out _ (by first | rfl | exact hzz.out.symm)).mono ?_
      rintro e w8 ⟨rfl, hb8⟩
      go_wp2
      go_ret
      exact ⟨rfl, bch HB3.out (bch H7.out hb8)⟩
    · have hz0 : ¬ ((sv5.length : Int) = 0) := by omega
      have hdt : d = true := by
        cases d with
        | true => rfl
        | false =>
          have h0 : [] = out := HO.out.2
          have h2 := HSL5.out
          rw [← h0] at h2
          have h3 : sv5.length = 0 := h2
          omega
      obtain ⟨hT, hK, hN0⟩ := HO.out.1.1 hdt
      have ho : (sortK keys rows).take N.toNat = out := by have := HO.out.2; rwa [hdt] at this
      obtain ⟨M, hM⟩ : ∃ M, N / 2 = M := ⟨_, rfl⟩
      have hM2 : N.tdiv 2 = M := by rw [← hM]; exact Int.tdiv_eq_ediv_of_nonneg hN0
      have hM0 : 0 ≤ M := by omega
      have hMN : M ≤ N := by omega
      obtain ⟨few, hfew⟩ : ∃ few, (sortK keys rows).take M.toNat = few := ⟨_, rfl⟩
      have hfl : few.length ≤ out.length := by rw [← ho, ← hfew, List.length_take, List.length_take]; omega
      have hft : out.take few.length = few := by
        rw [← ho, ← hfew, List.take_take, List.length_take]
        rcases Nat.le_total M.toNat (sortK keys rows).length with h1 | h1
        · rw [Nat.min_eq_left h1, Nat.min_eq_left (by omega)]
        · rw [Nat.min_eq_right h1, List.take_of_length_le (by omega), List.take_of_length_le (by omega)]
      have HT6 := Lib.hid (HTI.out M few true (iff_of_true rfl ⟨hT, hK, hM0⟩) (by simpa using hfew) w6 H6.out)
      have HT8 := Lib.hid (fun z hz => HTI.out 400 (sortK keys rows) true (iff_of_true rfl ⟨hT, hK, by omega⟩) (List.take_of_length_le (show (sortK keys rows).length ≤ 400 by have := HM.out.1; omega)) z hz)
      have HS8 := Lib.hid (fun z hz => HSR.out (sortK keys rows) true (iff_of_true rfl ⟨hT, hK⟩) (by simp) z hz)
      have HF := Lib.hid (And.intro hfl hft)
      subst hdt
      clear hT hK ho hfew hfl hft
      go_wp2_with fail
      refine HT6.out.mono ?_
      rintro e w7 ⟨v7, sv7, rfl, how7, hrt7, hb7⟩
      obtain ⟨A7, c7, rfl, hc71, hc72, hs7⟩ := how7.shape svC_length
      have H7 := Lib.hid (bch H6.out hb7)
      have r7 := R6.out.on hb7
      have hsl7 := hrt7.1
      have g1 : sv7.length ≤ sv5.length := by have := HF.out.1; have := HSL5.out; omega
      have g2 : sv7.length ≤ c5 := by omega
      have HE7 := Lib.hid (equalBagsT_ok (A := A7) (A' := A5) (c := c7) (c' := c5) (n' := sv7.length) (w := w7.drew) hsl7 hsl7 (by have := HF.out.1; omega) ((sls_of' hs7.sl hrt7).on (Below.refl _ _).drew) ((sls_of' (svs := sv5.take sv7.length) ((RS6.out.1.on hb7).sl.cut _) (by have := (RS6.out.2.on hb7).take sv7.length; rw [hsl7, HF.out.2] at this; exact hsl7 ▸ this)).on (Below.refl _ _).drew))
      have H7' := Lib.hid (bdrewN H7.out 1)
      have R7 := Lib.hid r7
      have HSL7 := Lib.hid hsl7
      have hm5 : sv5.length ≤ c5 := by omega
      clear hsl7 how7 hrt7 hs7 hb7 r7 e0 e1
      have e0 : w7.cell? ⟨w3.heap.size, 0, none⟩ = some (.int .i64 W) := R7.out.cell 0
      have e1 : w7.cell? ⟨w3.heap.size, 1, none⟩ = some (.slice A3 svs.length c3) := R7.out.cell 1
      go_upto_region 8 with fail
      have KC := Lib.hid (fun (z : World) (hz : Below w7.heap.size w7 z) => show (z.cell? ⟨w3.heap.size, 0, none⟩ = some (.int .i64 W) ∧ z.cell? ⟨w3.heap.size, 1, none⟩ = some (.slice A3 svs.length c3)) from ⟨(R7.out.on hz).cell 0, (R7.out.on hz).cell 1⟩)
      have D7 := Lib.hid (show Below w7.heap.size w7 w7.drew from (Below.refl _ w7).drew)
      have x7 := KC.out _ D7.out
      clear e0 e1
      go_region_held3 (fun z => z.cell? ⟨w3.heap.size, 0, none⟩ = some (.int .i64 W) ∧ z.cell? ⟨w3.heap.size, 1, none⟩ = some (.slice A3 svs.length c3))
        (first
          | assumption
          | exact KC.out _ H11.out
          | exact KC.out _ H10.out
          | exact KC.out _ H9.out
          | exact KC.out _ H8.out
          | exact KC.out _ D7.out)
        (first
          | (go_at_call 34; refine HE10.out.mono ?_; rintro e w11 ⟨rfl, hb11⟩; have H11 := Lib.hid (bch H10.out hb11); have x11 := KC.out _ H11.out; clear hb11)
          | (go_at_call 30; refine HSS.out.mono ?_; rintro e w10 ⟨v10, sv10, rfl, how10, hrt10, hb10⟩; obtain ⟨A10, c10, rfl, _, _, hs10⟩ := how10.shape svC_length; have H10 := Lib.hid (bch H9.out hb10); have x10 := KC.out _ H10.out; have HE10 := Lib.hid (equalBagsT_ok (A := A9) (A' := A10) (c := c9) (c' := c10) RS9.out.2.1 hrt10.1 (by have := HM.out.1; omega) (sls_of' (RS9.out.1.on hb10).sl (RS9.out.2.on hb10)) (sls_of' hs10.sl hrt10)); clear hb10 how10 hrt10 hs10)
          | (go_at_call 33; refine HTT.out.mono ?_; rintro e w9 ⟨v9, sv9, rfl, how9, hrt9, hb9⟩; obtain ⟨A9, c9, rfl, hc91, hc92, hs9⟩ := how9.shape svC_length; have H9 := Lib.hid (bch H8.out hb9); have x9 := KC.out _ H9.out; have RS9 := Lib.hid (And.intro hs9 hrt9); have HSS := Lib.hid (HS8.out w9 (bch H7.out H9.out)); clear hb9 how9 hrt9 hs9)
          | (go_at_call 34; refine HE7.out.mono ?_; rintro e w8 ⟨rfl, hb8⟩; have H8 := Lib.hid (bch D7.out hb8); have x8 := KC.out _ H8.out; have HTT := Lib.hid (HT8.out w8 (bch H7.out H8.out)); clear hb8))
      all_goals (
        go_wp2
        go_ret
        exact ⟨rfl, bch HB3.out (bch H7.out H11.out)⟩)

namespace lawFnTopRows
theorem own : ownKnob Try.prog.godebug = none := by kernel_rfl
theorem laidOut : laidOutB Try.prog = true := by kernel_rfl

set_option maxRecDepth 100000 in
theorem lifted (os : Os) (started : os.Started) (H : Type) (enc : TypeId × Value → H) :
    ReturnsInHanded {} Try.checked os 10 .any (Rows.fnTopRowsSpec.pre6 enc Try.prog Try.f10 Rows.fnTopRowsRow.domain false) (Rows.fnTopRowsSpec.post enc Try.prog Try.f10 false true false false) := by
  refine returnsInHanded_of_change (C := Try.checked) own started (by kernel_rfl) Try.func10
    (ChangeSpec.witness6 (enc := enc) (C := Try.checked) false ⟨#[], #[.slice none 0 0], []⟩ 8 (by kernel_rfl) (by kernel_rfl) (by kernel_rfl) (by kernel_rfl)) ?_
  intro W base args ds gs before hval0 hW hcnd _
  have hval : ∀ (j : Nat) t v, Try.f10.params[j]? = some t → args[j]? = some v → Value.okWide Try.prog W .any base t v := hval0
  have hW' := hW
  obtain ⟨p, q, hA0, hV, rfl, hfz, hnd⟩ := hW
  have hA : DataW.TrodAll enc Try.prog W 0 (fun _ => true) true Try.f10.params.toList args.toList ds p := hA0
  rw [Try.params10] at hA hval
  obtain ⟨v0, vs0, d0, ds0, p0, q0, hargs, rfl, rfl, h0, r0⟩ := trodAll_cons hA
  obtain ⟨rfl, rfl, rfl⟩ := trodAll_nil r0
  obtain rfl : args = #[v0] := by cases args; simp_all
  obtain ⟨rfl, rfl⟩ := trodVars_none hV
  obtain ⟨a0, len0, c0, rfl⟩ := okWide_slice Try.underlying37 (hval 0 37 v0 rfl rfl)
  have k0 := h0
  have lt0 : ∀ x ∈ p0, x.block < W.heap.size := by obtain ⟨m, hm⟩ := k0; exact DataW.trod_lt m _ _ _ hm
  obtain ⟨f0, h0⟩ := h0
  obtain ⟨xs0, rfl, hc0, hm0, g0, s0⟩ := open_sl (sz := 1) (ec := byteC) Try.underlying37 (by kernel_rfl) (by omega) byteC_length (el_byte Try.underlying5) h0
  clear hA0 hval0
  refine (FnTopRows_walk a0 c0 xs0 W hc0 hm0 g0 s0).mono fun e W' ⟨he, bel⟩ => ?_
  subst he
  exact ⟨_, rfl, _, _, _, [], _, [], hW', trodAll_mk1 (shut_bool Try.underlying4 _), (trodAll_cons_mk (Below.trod laidOut (by kernel_rfl) (of_decide_eq_true (by kernel_rfl)) k0 bel lt0) trodAll_mk0), rfl, bel.frame _, fun h => by cases h⟩

theorem over : Rows.fnTopRowsRow.holds Try.pinned (OpenSpec.ofChange Rows.fnTopRowsSpec) :=
  OpenClaim.holds_of_wide 10 Try.f10 rfl rfl rfl rfl rfl rfl rfl ⟨rfl, rfl, rfl, rfl, rfl⟩ rfl rfl rfl rfl rfl (by kernel_rfl) Try.func10 (by kernel_rfl)
    (of_decide_eq_true (by kernel_rfl)) (by unfold Func.isWrapper; first | (rw [if_pos (by decide +kernel)]; kernel_rfl) | (rw [if_neg (by decide +kernel)]; exact ⟨rfl, rfl⟩))
    (fun os started H enc _ => lifted os started H enc)

theorem proved : Rows.FnTopRowsSaid := over
end lawFnTopRows
#print axioms lawFnTopRows.proved

end Go.Proofs.Ytmljhkoabhjiaaa
