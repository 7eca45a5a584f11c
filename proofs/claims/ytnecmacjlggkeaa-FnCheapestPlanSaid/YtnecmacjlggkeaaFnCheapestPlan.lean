/-
  FnCheapestPlan returns true for all bytes and leaves them as they were. No condition.
-/
import Derived.Test.YtnecmacjlggkeaaRows
import Derived.OpenShut
import Derived.Test.YtnecmacjlggkeaaDrC
import Derived.Test.YtnecmacjlggkeaaCpn
import Derived.Test.YtnecmacjlggkeaaArgB
namespace Go.Proofs.Ytnecmacjlggkeaa
open Go.RowKit Go.Qo
open Go.ChangeShapes Go.WideShapes Go.ChangeAt
set_option linter.unusedVariables false
set_option linter.unusedSimpArgs false

set_option maxRecDepth 20000 in
set_option maxHeartbeats 4000000 in
theorem FnCheapestPlan_walk (A : Option Addr) (c : Nat) (xs : List Int) (w : World) (hc : xs.length ≤ c) (hm : c ≤ maxLen) (hg : ∀ x ∈ xs, 0 ≤ x ∧ x ≤ 255) (h : Sl 1 byteC w w.heap.size A xs) :
    Calls Try.prog 7 #[.slice A xs.length c] w fun e w' => e = .returned (.bool true) ∧ Below w.heap.size w w' := by
  have HD := Lib.hid (drawCheapestPlan_ok A c xs w hc hm hg h)
  have hx63 : xs.length ≤ 9223372036854775807 := by unfold maxLen at hm; omega
  clear h hg hc hm
  by_cases hx : (1048576 : Int) < xs.length
  · clear HD
    go_enter Try.func7, Try.ntmps7
    go_wp2
    go_ret
    exact ⟨rfl, Below.refl _ _⟩
  go_enter Try.func7, Try.ntmps7
  go_wp2_with fail
  refine HD.out.mono ?_
  rintro e w3 ⟨A1, m, c1, ps, A2, m2, c2, fs, ss, rfl, hpm, hm21, hpt, ho, hst, hsl, hm, hsm, hb3⟩
  subst hsl
  subst hpm
  obtain ⟨K, hK⟩ : ∃ K, cheP ss ps = K := ⟨_, rfl⟩
  have hsi := StsT.in_ hst ho
  have hpi := PlsT.in_ hpt
  have KI := Lib.hid (fun (z : World) (hz : Below w3.heap.size w3 z) => implCheapestPlan_ok ps ss A1 A2 c1 c2 z K (hpi.on hz) (hsi.on hz) hsm (by omega) (by omega) hK)
  have KS := Lib.hid (fun (z : World) (hz : Below w3.heap.size w3 z) => specCheapestPlan_ok ps ss A1 A2 c1 c2 z K (hpi.on hz) (hsi.on hz) hsm (by omega) (by omega) hK)
  have KC := Lib.hid (fun (z : World) (x : Pl) (g : FP) (C : Int) (hx : PlIn z z.heap.size g x) (hC : ecP ss x = C) (hz : Below w3.heap.size w3 z) => implEstimateCost_ok x g ss A2 c2 z C hx (hsi.on hz) hsm (by omega) hC)
  unfold fpV at KC
  have HPI := Lib.hid (fun (z : World) (hz : Below w3.heap.size w3 z) => hpi.on hz)
  have HK := Lib.hid hK
  have HB3 := Lib.hid hb3
  clear hpt ho hst hsm hb3 hK HD hsi hpi
  go_wp2_with fail
  refine (KI.out _ (Below.refl _ _)).mono ?_
  rintro e w5 ⟨rfl, hb5⟩
  have H5 := Lib.hid hb5
  clear hb5
  go_wp2_with fail
  refine (KS.out _ H5.out).mono ?_
  rintro e w6 ⟨rfl, hb6⟩
  have H6 := Lib.hid (bch H5.out hb6)
  clear hb6
  have hnn : (K != K) = false := by simp
  by_cases hKn : K < 0
  · have hee : (K == K) = true := by simp
    go_wp2_with fail
    refine (KS.out _ H6.out).mono ?_
    rintro e w7 ⟨rfl, hb7⟩
    have H7 := Lib.hid (bch H6.out hb7)
    clear hb7
    go_wp2
    go_ret
    exact ⟨rfl, bch HB3.out H7.out⟩
  · have h20 : ps.length ≤ 20 := Classical.byContradiction fun hn => by have := HK.out; unfold cheP at this; rw [if_neg hn] at this; omega
    have hkk : (chk ss ps ps.length).1 = K := by have := HK.out; unfold cheP at this; rwa [if_pos h20] at this
    obtain ⟨k, hk1, hk2, hk3, hk4, hk5⟩ : ∃ k : Nat, k < ps.length ∧ (chk ss ps ps.length).1 = k ∧ (chk ss ps ps.length).2 = ecP ss (kidP ps k) ∧ 0 ≤ ecP ss (kidP ps k) ∧ ∀ j, j < ps.length → 0 ≤ ecP ss (kidP ps j) → ecP ss (kidP ps k) ≤ ecP ss (kidP ps j) ∧ (j < k → ecP ss (kidP ps k) < ecP ss (kidP ps j)) := by
      rcases chk_spec ss ps ps.length with ⟨h, _⟩ | h
      · omega
      · exact h
    have hKk : K = (k : Int) := by omega
    subst hKk
    obtain ⟨B, hB⟩ : ∃ B, ecP ss (kidP ps k) = B := ⟨_, rfl⟩
    rw [hB] at hk4 hk5
    have hBk : ecP ss ps[k] = B := by rw [← kidP_get hk1]; exact hB
    have HMIN := Lib.hid (fun (j : Nat) (hj : j < ps.length) (C : Int) (hC : ecP ss ps[j] = C) => show 0 ≤ C → B ≤ C ∧ (j < k → B < C) from fun h0 => by
      have := hk5 j hj (by rw [kidP_get hj, hC]; exact h0)
      rwa [kidP_get hj, hC] at this)
    obtain ⟨bp, op, g, hA, hbl, ⟨k0, k1, k2, k3, k4⟩, hpx⟩ := (HPI.out _ H6.out).at_ hk1
    have HCk := Lib.hid (KC.out _ _ g B hpx hBk H6.out)
    have hkI : (k : Int) < (ps.length : Int) := by omega
    have hkI0 : (0 : Int) ≤ (k : Int) := by omega
    subst hA
    clear hkk hk2 hk3 hk5 hB hBk hpx h20
    go_wp2_with fail
    refine HCk.out.mono ?_
    rintro e w7 ⟨rfl, hb7⟩
    have H7 := Lib.hid (bch H6.out hb7)
    clear hb7 k0 k1 k2 k3 k4
    go_wp2
    go_loopg [7] ps.length (fun g iv wr => ∃ i : Nat, i ≤ ps.length ∧ g = ps.length - i ∧ iv = .int .i64 i ∧ Below w3.heap.size w3 wr)
    case atStart => exact ⟨0, by omega, by omega, rfl, H7.out⟩
    case round =>
      obtain ⟨i, hi, rfl, rfl, hb⟩ := hrel
      have HB := Lib.hid hb
      clear hb
      by_cases hil : i < ps.length
      · have hiI : (i : Int) < (ps.length : Int) := by omega
        obtain ⟨bq, oq, g2, hA, hbl2, ⟨k0, k1, k2, k3, k4⟩, hpx⟩ := (HPI.out _ HB.out).at_ hil
        obtain ⟨C, hC⟩ : ∃ C, ecP ss ps[i] = C := ⟨_, rfl⟩
        have hmin := HMIN.out i hil C hC
        have HCi := Lib.hid (KC.out _ _ g2 C hpx hC HB.out)
        obtain ⟨rfl, rfl⟩ : bp = bq ∧ op = oq := by
          simp only [Option.some.injEq, Addr.mk.injEq] at hA
          exact ⟨hA.1, hA.2.1⟩
        clear hA hC hpx
        go_wp2_with fail
        refine HCi.out.mono ?_
        rintro e w8 ⟨rfl, hb8⟩
        have H8 := Lib.hid (bch HB.out hb8)
        clear hb8
        have Hmin := Lib.hid hmin
        by_cases hC0 : 0 ≤ C
        · have h1 : ¬ C < B := by have := (Hmin.out hC0).1; omega
          clear hmin
          by_cases hik : i < k
          · have h2 : (C == B) = false := by have := (Hmin.out hC0).2 hik; simp; omega
            have hikI : (i : Int) < (k : Int) := by omega
            go_wp2
            go_roundg (ps.length - (i + 1))
            case measure => omega
            case rel => exact ⟨i + 1, by omega, rfl, by go_num, H8.out⟩
          · have hikI : ¬ (i : Int) < (k : Int) := by omega
            go_wp2
            go_roundg (ps.length - (i + 1))
            case measure => omega
            case rel => exact ⟨i + 1, by omega, rfl, by go_num, H8.out⟩
        · have h1 : C < 0 := by omega
          clear hmin
          go_wp2
          go_roundg (ps.length - (i + 1))
          case measure => omega
          case rel => exact ⟨i + 1, by omega, rfl, by go_num, H8.out⟩
      · have hiI : ¬ (i : Int) < (ps.length : Int) := by omega
        go_wp2
        go_ret
        exact ⟨rfl, bch HB3.out HB.out⟩

namespace lawFnCheapestPlan
theorem own : ownKnob Try.prog.godebug = none := by kernel_rfl
theorem laidOut : laidOutB Try.prog = true := by kernel_rfl

set_option maxRecDepth 100000 in
theorem lifted (os : Os) (started : os.Started) (H : Type) (enc : TypeId × Value → H) :
    ReturnsInHanded {} Try.checked os 7 .any (Rows.fnCheapestPlanSpec.pre6 enc Try.prog Try.f7 Rows.fnCheapestPlanRow.domain false) (Rows.fnCheapestPlanSpec.post enc Try.prog Try.f7 false true false false) := by
  refine returnsInHanded_of_change (C := Try.checked) own started (by kernel_rfl) Try.func7
    (ChangeSpec.witness6 (enc := enc) (C := Try.checked) false ⟨#[], #[.slice none 0 0], []⟩ 8 (by kernel_rfl) (by kernel_rfl) (by kernel_rfl) (by kernel_rfl)) ?_
  intro W base args ds gs before hval0 hW hcnd _
  have hval : ∀ (j : Nat) t v, Try.f7.params[j]? = some t → args[j]? = some v → Value.okWide Try.prog W .any base t v := hval0
  have hW' := hW
  obtain ⟨p, q, hA0, hV, rfl, hfz, hnd⟩ := hW
  have hA : DataW.TrodAll enc Try.prog W 0 (fun _ => true) true Try.f7.params.toList args.toList ds p := hA0
  rw [Try.params7] at hA hval
  obtain ⟨v0, vs0, d0, ds0, p0, q0, hargs, rfl, rfl, h0, r0⟩ := trodAll_cons hA
  obtain ⟨rfl, rfl, rfl⟩ := trodAll_nil r0
  obtain rfl : args = #[v0] := by cases args; simp_all
  obtain ⟨rfl, rfl⟩ := trodVars_none hV
  obtain ⟨a0, len0, c0, rfl⟩ := okWide_slice Try.underlying22 (hval 0 22 v0 rfl rfl)
  have k0 := h0
  have lt0 : ∀ x ∈ p0, x.block < W.heap.size := by obtain ⟨m, hm⟩ := k0; exact DataW.trod_lt m _ _ _ hm
  obtain ⟨f0, h0⟩ := h0
  obtain ⟨xs0, rfl, hc0, hm0, g0, s0⟩ := open_sl (sz := 1) (ec := byteC) Try.underlying22 (by kernel_rfl) (by omega) byteC_length (el_byte Try.underlying5) h0
  clear hA0 hval0
  refine (FnCheapestPlan_walk a0 c0 xs0 W hc0 hm0 g0 s0).mono fun e W' ⟨he, bel⟩ => ?_
  subst he
  exact ⟨_, rfl, _, _, _, [], _, [], hW', trodAll_mk1 (shut_bool Try.underlying4 _), (trodAll_cons_mk (Below.trod laidOut (by kernel_rfl) (of_decide_eq_true (by kernel_rfl)) k0 bel lt0) trodAll_mk0), rfl, bel.frame _, fun h => by cases h⟩

theorem over : Rows.fnCheapestPlanRow.holds Try.pinned (OpenSpec.ofChange Rows.fnCheapestPlanSpec) :=
  OpenClaim.holds_of_wide 7 Try.f7 rfl rfl rfl rfl rfl rfl rfl ⟨rfl, rfl, rfl, rfl, rfl⟩ rfl rfl rfl rfl rfl (by kernel_rfl) Try.func7 (by kernel_rfl)
    (of_decide_eq_true (by kernel_rfl)) (by unfold Func.isWrapper; first | (rw [if_pos (by decide +kernel)]; kernel_rfl) | (rw [if_neg (by decide +kernel)]; exact ⟨rfl, rfl⟩))
    (fun os started H enc _ => lifted os started H enc)

theorem proved : Rows.FnCheapestPlanSaid := over
end lawFnCheapestPlan
#print axioms lawFnCheapestPlan.proved

end Go.Proofs.Ytnecmacjlggkeaa
