/-
  FnEstimateCost returns true for all bytes and leaves them as they were. No condition.
-/
import Derived.Test.YtnecmacjlggkeaaRows
import Derived.OpenShut
import Derived.Test.YtnecmacjlggkeaaDrF
import Derived.Test.YtnecmacjlggkeaaEsb
import Derived.Test.YtnecmacjlggkeaaArgB
namespace Go.Proofs.Ytnecmacjlggkeaa
open Go.RowKit Go.Qo
open Go.ChangeShapes Go.WideShapes Go.ChangeAt
set_option linter.unusedVariables false
set_option linter.unusedSimpArgs false

theorem costL_mono {ss : List St} (h : SsOk ss) {ks : List Pl} {i : Nat} : ∀ j, i ≤ j → j ≤ ks.length → 0 ≤ costL ss (ks.take i) ∧ costL ss (ks.take i) ≤ costL ss (ks.take j)
  | 0, hij, hj => by
    have : i = 0 := by omega
    subst this
    rw [List.take_zero, costL_nil]; omega
  | j + 1, hij, hj => by
    have hx : 0 ≤ costP ss ks[j] := (sum_range h _).1
    by_cases hi : i = j + 1
    · subst hi
      refine ⟨?_, Int.le_refl _⟩
      have h0 := costL_mono (i := j) (ks := ks) h j (Nat.le_refl _) (by omega)
      rw [costL_take (ks := ks) (i := j) (show j < ks.length by omega)]
      omega
    · have h0 := costL_mono (ks := ks) (i := i) h j (by omega) (by omega)
      rw [costL_take (ks := ks) (i := j) (show j < ks.length by omega)]
      omega
theorem ec_kid {ss : List St} {p x : Pl} (h : esOk ss p) (hx : x ∈ p.kids) : ecP ss x = costP ss x := by
  have hw := esOk_w h
  refine ecP_yes ⟨h.1, ?_⟩
  obtain ⟨_, k, hk, hne⟩ := plW_kids hw.2.1 hx
  unfold widthP
  rw [if_pos hw.1, plW_more k 8 x (by omega) hne]
  exact hne
set_option maxRecDepth 20000 in
set_option maxHeartbeats 4000000 in
theorem FnEstimateCost_walk (A : Option Addr) (c : Nat) (xs : List Int) (w : World) (hc : xs.length ≤ c) (hm : c ≤ maxLen) (hg : ∀ x ∈ xs, 0 ≤ x ∧ x ≤ 255) (h : Sl 1 byteC w w.heap.size A xs) :
    Calls Try.prog 5 #[.slice A xs.length c] w fun e w' => e = .returned (.bool true) ∧ Below w.heap.size w w' := by
  have HD := Lib.hid (drawEstimateCost_ok A c xs w hc hm hg h)
  have hx63 : xs.length ≤ 9223372036854775807 := by unfold maxLen at hm; omega
  clear h hg hc hm
  by_cases hx : (1048576 : Int) < xs.length
  · clear HD
    go_enter Try.func5, Try.ntmps5
    go_wp2
    go_ret
    exact ⟨rfl, Below.refl _ _⟩
  go_enter Try.func5, Try.ntmps5
  go_wp2_with fail
  refine HD.out.mono ?_
  rintro e w3 ⟨pf, px, A2, m, c2, fs, ss, rfl, hpt, ho, hst, hsl, hm, hsm, hb3⟩
  subst hsl
  unfold fpV
  obtain ⟨R, hR⟩ : ∃ R, ecP ss px = R := ⟨_, rfl⟩
  obtain ⟨W4, hW4⟩ : ∃ z, w3.alloc (.cells #[.int .i64 pf.kind, .int .i64 pf.table, .slice pf.es.A pf.es.n pf.es.c, .slice pf.cs.A pf.cs.n pf.cs.c, .slice pf.ks.A pf.ks.n pf.ks.c] 27) = z := ⟨_, rfl⟩
  have B4 : Below w3.heap.size w3 W4 := by rw [← hW4]; exact balloc (Below.refl _ _) _
  have r4 : Row W4 w3.heap.size 27 (fpC pf) := by rw [← hW4]; exact Row.new _ _ _
  have BX := Lib.hid (fun (z : World) (hz : Below W4.heap.size W4 z) => show (z.cell? ⟨w3.heap.size, 0, none⟩ = some (.int .i64 pf.kind) ∧ z.cell? ⟨w3.heap.size, 1, none⟩ = some (.int .i64 pf.table) ∧ z.cell? ⟨w3.heap.size, 2, none⟩ = some (.slice pf.es.A pf.es.n pf.es.c) ∧ z.cell? ⟨w3.heap.size, 3, none⟩ = some (.slice pf.cs.A pf.cs.n pf.cs.c) ∧ z.cell? ⟨w3.heap.size, 4, none⟩ = some (.slice pf.ks.A pf.ks.n pf.ks.c)) from ⟨(r4.on hz).cell 0, (r4.on hz).cell 1, (r4.on hz).cell 2, (r4.on hz).cell 3, (r4.on hz).cell 4⟩)
  have hsi := StsT.in_ hst ho
  have KE := Lib.hid (fun (z : World) (E : Int) (hE : erP ss px = E) (hz : Below w3.heap.size w3 z) => implEstimateRows_ok px pf ss A2 c2 z E (hpt.in_.on hz) (hsi.on hz) hsm (by omega) hE)
  have KK := Lib.hid (fun (z : World) (x : Pl) (g : FP) (C : Int) (hC : ecP ss x = C) (hx : PlIn z z.heap.size g x) (hz : Below w3.heap.size w3 z) => implEstimateCost_ok x g ss A2 c2 z C hx (hsi.on hz) hsm (by omega) hC)
  have KI := Lib.hid (fun (z : World) (hz : Below w3.heap.size w3 z) => implEstimateCost_ok px pf ss A2 c2 z R (hpt.in_.on hz) (hsi.on hz) hsm (by omega) hR)
  have KS := Lib.hid (fun (z : World) (hz : Below w3.heap.size w3 z) => specEstimateCost_ok px pf ss A2 c2 z R (hpt.in_.on hz) (hsi.on hz) hsm (by omega) hR)
  have HSI := Lib.hid (fun (z : World) (hz : Below w3.heap.size w3 z) => hsi.on hz)
  unfold fpV at KI KS KE KK
  have HR := Lib.hid hR
  have HB3 := Lib.hid (And.intro hb3 B4)
  have HW4 := Lib.hid hW4
  have HP := Lib.hid hpt
  obtain ⟨x0, x1, x2, x3, x4⟩ := BX.out _ (Below.refl _ _)
  clear hpt ho hst hsm hb3 B4 r4 hW4 hR HD hsi
  go_upto_region 4 with fail
  rw [HW4.out]
  go_wp2_with fail
  refine (KI.out _ HB3.out.2).mono ?_
  rintro e w5 ⟨rfl, hb5⟩
  have H5 := Lib.hid hb5
  obtain ⟨x0, x1, x2, x3, x4⟩ := BX.out _ hb5
  clear hb5
  go_wp2_with fail
  refine (KS.out _ (bch HB3.out.2 H5.out)).mono ?_
  rintro e w6 ⟨rfl, hb6⟩
  have H6 := Lib.hid (bch H5.out hb6)
  obtain ⟨x0, x1, x2, x3, x4⟩ := BX.out _ H6.out
  clear hb6
  have hnn : (R != R) = false := by simp
  by_cases hRn : R < 0
  · have hee : (R == R) = true := by simp
    go_wp2_with fail
    refine (KS.out _ (bch HB3.out.2 H6.out)).mono ?_
    rintro e w7 ⟨rfl, hb7⟩
    have H7 := Lib.hid (bch H6.out hb7)
    clear hb7
    go_wp2
    go_ret
    exact ⟨rfl, bch HB3.out.1 (bch HB3.out.2 H7.out)⟩
  · have hok : esOk ss px := Classical.byContradiction fun hn => by have := HR.out; rw [ecP_no hn] at this; omega
    have hw8 := esOk_w hok
    have hcr := cost_range hok.1 hw8.2.1 (Nat.le_refl 8)
    have hRe : R = px.est ss + costL ss px.kids := by rw [← HR.out, ecP_yes hok]; exact costP_eq ss px
    have her := est_range hok.1 px
    have hcp : costP ss px = R := by rw [← ecP_yes hok]; exact HR.out
    rw [hcp] at hcr
    obtain ⟨E, hE⟩ : ∃ E, px.est ss = E := ⟨_, rfl⟩
    rw [hE] at hRe her
    have HE := Lib.hid (KE.out _ E (by rw [erP_yes hok]; exact hE) (bch HB3.out.2 H6.out))
    have HRe := Lib.hid hRe
    have HOK := Lib.hid hok
    have hkn := (HP.out.in_).flat.2.2.2.2.1.1
    have Hkn := Lib.hid hkn
    have HKID := Lib.hid (fun (z : World) (hz : Below w3.heap.size w3 z) (i : Nat) (hi : i < px.kids.length) => (HP.out.in_.on hz).kid hi)
    clear hw8 hRe hcp hok hE hkn
    go_wp2_with fail
    refine HE.out.mono ?_
    rintro e w7 ⟨rfl, hb7⟩
    have H7 := Lib.hid (bch H6.out hb7)
    clear hb7
    obtain ⟨nk, hnk⟩ : ∃ n, px.kids.length = n := ⟨_, rfl⟩
    have HNK := Lib.hid hnk
    have hsumT : E + costL ss px.kids ≤ 511000000000 := by rw [← HRe.out]; exact hcr.2
    have HL := Lib.hid (fun (i : Nat) (hi : i ≤ nk) => show 0 ≤ costL ss (px.kids.take i) ∧ costL ss (px.kids.take i) ≤ 511000000000 from by
      have h0 := costL_mono HOK.out.1 (ks := px.kids) (i := i) nk hi (by omega)
      rw [List.take_of_length_le (i := nk) (by omega)] at h0
      omega)
    obtain ⟨x0, x1, x2, x3, x4⟩ := BX.out _ H7.out
    have hkn : pf.ks.n = nk := by rw [Hkn.out, hnk]
    have hnk40 : nk ≤ 9223372036854775807 := by have h5 := (HP.out.in_).flat.2.2.2.2.1; have h6 := h5.2.1; have h7 := h5.2.2; unfold maxLen at h7; omega
    rw [hkn] at x4
    have HKN := Lib.hid hkn
    clear hnk hsumT hkn
    go_wp2
    go_loopg [6, 7] nk (fun g sv iv wr => ∃ i : Nat, i ≤ nk ∧ g = nk - i ∧ iv = .int .i64 i ∧ sv = .int .i64 (E + costL ss (px.kids.take i)) ∧ Below W4.heap.size W4 wr)
    case atStart => exact ⟨0, by omega, by omega, rfl, by rw [List.take_zero, costL_nil]; simp, H7.out⟩
    case round =>
      obtain ⟨i, hi, rfl, rfl, rfl, hb⟩ := hrel
      have HB := Lib.hid hb
      obtain ⟨x0, x1, x2, x3, x4⟩ := BX.out _ hb
      rw [HKN.out] at x4
      clear hb
      by_cases hil : i < nk
      · have hiI : (i : Int) < (nk : Int) := by omega
        have hik : i < px.kids.length := by rw [HNK.out]; exact hil
        obtain ⟨bk, ok, g, hA, hB, ⟨k0, k1, k2, k3, k4⟩, hpk⟩ := HKID.out _ (bch HB3.out.2 HB.out) i hik
        have hC := ec_kid HOK.out (List.getElem_mem hik)
        have ht := costL_take (ss := ss) hik
        obtain ⟨C, hCe⟩ : ∃ C, costP ss px.kids[i] = C := ⟨_, rfl⟩
        rw [hCe] at hC ht
        have hl1 := HL.out i hi
        have hl2 := HL.out (i + 1) (by omega)
        rw [ht] at hl2
        have HT := Lib.hid ht
        have HC := Lib.hid (KK.out _ _ g C hC hpk (bch HB3.out.2 HB.out))
        obtain ⟨S0, hS0⟩ : ∃ s, costL ss (px.kids.take i) = s := ⟨_, rfl⟩
        rw [hS0] at hl1 hl2 ⊢
        have HS0 := Lib.hid hS0
        have hwr : IntKind.i64.wrap (E + S0 + C) = E + S0 + C := IntWalk.i64_in _ (by omega)
        rw [hA] at x4
        clear hCe ht hC hpk hS0 hA
        go_wp2_with fail
        refine HC.out.mono ?_
        rintro e w8 ⟨rfl, hb8⟩
        have H8 := Lib.hid (bch HB.out hb8)
        clear hb8
        go_wp2
        go_roundg (nk - (i + 1))
        case measure => omega
        case rel => exact ⟨i + 1, by omega, rfl, by go_num, by rw [HT.out, HS0.out, ← Int.add_assoc], H8.out⟩
      · have hiI : ¬ (i : Int) < (nk : Int) := by omega
        have he : costL ss (px.kids.take i) = costL ss px.kids := by rw [List.take_of_length_le (by rw [HNK.out]; omega)]
        rw [he, ← HRe.out]
        have hee : (R == R) = true := by simp
        clear he
        go_wp2
        go_ret
        exact ⟨rfl, bch HB3.out.1 (bch HB3.out.2 HB.out)⟩

namespace lawFnEstimateCost
theorem own : ownKnob Try.prog.godebug = none := by kernel_rfl
theorem laidOut : laidOutB Try.prog = true := by kernel_rfl

set_option maxRecDepth 100000 in
theorem lifted (os : Os) (started : os.Started) (H : Type) (enc : TypeId × Value → H) :
    ReturnsInHanded {} Try.checked os 5 .any (Rows.fnEstimateCostSpec.pre6 enc Try.prog Try.f5 Rows.fnEstimateCostRow.domain false) (Rows.fnEstimateCostSpec.post enc Try.prog Try.f5 false true false false) := by
  refine returnsInHanded_of_change (C := Try.checked) own started (by kernel_rfl) Try.func5
    (ChangeSpec.witness6 (enc := enc) (C := Try.checked) false ⟨#[], #[.slice none 0 0], []⟩ 8 (by kernel_rfl) (by kernel_rfl) (by kernel_rfl) (by kernel_rfl)) ?_
  intro W base args ds gs before hval0 hW hcnd _
  have hval : ∀ (j : Nat) t v, Try.f5.params[j]? = some t → args[j]? = some v → Value.okWide Try.prog W .any base t v := hval0
  have hW' := hW
  obtain ⟨p, q, hA0, hV, rfl, hfz, hnd⟩ := hW
  have hA : DataW.TrodAll enc Try.prog W 0 (fun _ => true) true Try.f5.params.toList args.toList ds p := hA0
  rw [Try.params5] at hA hval
  obtain ⟨v0, vs0, d0, ds0, p0, q0, hargs, rfl, rfl, h0, r0⟩ := trodAll_cons hA
  obtain ⟨rfl, rfl, rfl⟩ := trodAll_nil r0
  obtain rfl : args = #[v0] := by cases args; simp_all
  obtain ⟨rfl, rfl⟩ := trodVars_none hV
  obtain ⟨a0, len0, c0, rfl⟩ := okWide_slice Try.underlying22 (hval 0 22 v0 rfl rfl)
  have k0 := h0
  have lt0 : ∀ x ∈ p0, x.block < W.heap.size := by obtain ⟨m, hm⟩ := k0; exact DataW.trod_lt m _ _ _ hm
  obtain ⟨f0, h0⟩ := h0
  obtain ⟨xs0, rfl, hc0, hm0, g0, s0⟩ := open_sl (sz := 1) (ec := byteC) Try.underlying22 (by kernel_rfl) (by omega) byteC_length (el_byte Try.underlying5) h0
  clear hA0 hval0
  refine (FnEstimateCost_walk a0 c0 xs0 W hc0 hm0 g0 s0).mono fun e W' ⟨he, bel⟩ => ?_
  subst he
  exact ⟨_, rfl, _, _, _, [], _, [], hW', trodAll_mk1 (shut_bool Try.underlying4 _), (trodAll_cons_mk (Below.trod laidOut (by kernel_rfl) (of_decide_eq_true (by kernel_rfl)) k0 bel lt0) trodAll_mk0), rfl, bel.frame _, fun h => by cases h⟩

theorem over : Rows.fnEstimateCostRow.holds Try.pinned (OpenSpec.ofChange Rows.fnEstimateCostSpec) :=
  OpenClaim.holds_of_wide 5 Try.f5 rfl rfl rfl rfl rfl rfl rfl ⟨rfl, rfl, rfl, rfl, rfl⟩ rfl rfl rfl rfl rfl (by kernel_rfl) Try.func5 (by kernel_rfl)
    (of_decide_eq_true (by kernel_rfl)) (by unfold Func.isWrapper; first | (rw [if_pos (by decide +kernel)]; kernel_rfl) | (rw [if_neg (by decide +kernel)]; exact ⟨rfl, rfl⟩))
    (fun os started H enc _ => lifted os started H enc)

theorem proved : Rows.FnEstimateCostSaid := over
end lawFnEstimateCost
#print axioms lawFnEstimateCost.proved

end Go.Proofs.Ytnecmacjlggkeaa
