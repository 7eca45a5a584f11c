/-
  FnOrderCovers returns true for all bytes and leaves them as they were. No condition.
-/
import Derived.Test.YtmljhkoabhjiaaaRows
import Derived.OpenShut
import Derived.Test.YtmljhkoabhjiaaaIsSrtI
import Derived.Test.YtmljhkoabhjiaaaTop
import Derived.Test.YtmljhkoabhjiaaaDraS
import Derived.Test.YtmljhkoabhjiaaaDraO
import Derived.Test.YtmljhkoabhjiaaaSrtL
import Derived.Test.YtmljhkoabhjiaaaArgB
namespace Go.Proofs.Ytmljhkoabhjiaaa
open Go.RowKit Go.Qo
open Go.ChangeShapes Go.WideShapes Go.ChangeAt
set_option linter.unusedVariables false
set_option linter.unusedSimpArgs false

theorem isSorted_sortK {W : Int} {keys : List Key} {rows : List Row1} (hT : TabOk W rows) (hk : KeysOk W keys) : IsSortedP keys (sortK keys rows) := by
  have hr := TabOk.allRows hT
  have hp := sortK_perm hk.1 hr
  have ho := sortK_ord hk.1 hr
  have hal : AllRows W (sortK keys rows) := fun r h => hr r (hp.mem_iff.1 h)
  intro r0 h0
  have hW : (r0.length : Int) = W := (hal r0 (List.mem_of_getElem? h0)).2
  rw [hW]
  refine ⟨hal, hk, fun i a b ha hb => ?_, by rw [sortK_length]; exact hT.2.2.1⟩
  have hi := (List.getElem?_eq_some_iff.1 hb)
  have hj := (List.getElem?_eq_some_iff.1 ha)
  have := List.pairwise_iff_getElem.1 ho i (i + 1) hj.1 hi.1 (by omega)
  rw [hj.2, hi.2] at this
  exact this
theorem covRefl (xs : List Key) : decide (xs.length ≤ xs.length ∧ xs.take xs.length = xs) = true := by simp
theorem covTake (xs : List Key) (n : Nat) : decide ((xs.take n).length ≤ xs.length ∧ xs.take (xs.take n).length = xs.take n) = true := by
  have h : xs.take (min n xs.length) = xs.take n := by
    rcases Nat.le_total n xs.length with h | h
    · rw [Nat.min_eq_left h]
    · rw [Nat.min_eq_right h, List.take_of_length_le (Nat.le_refl _), List.take_of_length_le h]
  simp [List.length_take, Nat.min_le_right, h]

set_option maxRecDepth 20000 in
set_option maxHeartbeats 2000000 in
theorem FnOrderCovers_walk (A : Option Addr) (c : Nat) (xs : List Int) (A' : Option Addr) (c' : Nat) (ys : List Int) (w : World) (hc : xs.length ≤ c) (hm : c ≤ maxLen) (hg : ∀ x ∈ xs, 0 ≤ x ∧ x ≤ 255) (h : Sl 1 byteC w w.heap.size A xs) (hc' : ys.length ≤ c') (hm' : c' ≤ maxLen) (hg' : ∀ x ∈ ys, 0 ≤ x ∧ x ≤ 255) (h' : Sl 1 byteC w w.heap.size A' ys) :
    Calls Try.prog 9 #[.slice A xs.length c, .slice A' ys.length c'] w fun e w' => e = .returned (.bool true) ∧ Below w.heap.size w w' := by
  have HD := Lib.hid (drawOrderCovers_ok A c xs w hc hm hg h)
  have HD2 := Lib.hid (fun (z : World) (hz : Below w.heap.size w z) => drawSortRows_ok A' c' ys z hc' hm' hg' (h'.on hz))
  have hx63 : xs.length ≤ 9223372036854775807 := by unfold maxLen at hm; omega
  have hy63 : ys.length ≤ 9223372036854775807 := by unfold maxLen at hm'; omega
  clear h h' hg hg' hc hm hc' hm'
  by_cases hx : (1048576 : Int) < xs.length
  · clear HD HD2
    go_enter Try.func9, Try.ntmps9
    go_wp2
    go_ret
    exact ⟨rfl, Below.refl _ _⟩
  · by_cases hy : (1048576 : Int) < ys.length
    · clear HD HD2
      go_enter Try.func9, Try.ntmps9
      go_wp2
      go_ret
      exact ⟨rfl, Below.refl _ _⟩
    · go_enter Try.func9, Try.ntmps9
      go_wp2_with fail
      refine HD.out.mono ?_
      rintro e w1 ⟨v1, v2, rfl, k1, k2, hl1, hl2, how1, how2, hb1⟩
      obtain ⟨A1, c1, rfl, hc11, hc12, hs1⟩ := how1.shape keyC_length
      obtain ⟨A2, c2, rfl, hc21, hc22, hs2⟩ := how2.shape keyC_length
      obtain ⟨b0, hb0⟩ : ∃ b0, decide (k2.length ≤ k1.length ∧ k1.take k2.length = k2) = b0 := ⟨_, rfl⟩
      have HI := Lib.hid (fun (z : World) (hz : Below w1.heap.size w1 z) => implOrderCovers_ok A1 A2 c1 c2 k1 k2 z (by unfold maxLen; omega) (by unfold maxLen; omega) hc11 hc12 (hs1.sl.on hz) (hs2.sl.on hz))
      have HS := Lib.hid (fun (z : World) (hz : Below w1.heap.size w1 z) => specOrderCovers_ok A1 A2 c1 c2 k1 k2 z (by unfold maxLen; omega) (by unfold maxLen; omega) (hs1.sl.on hz) (hs2.sl.on hz))
      have HR := Lib.hid (fun (z : World) (hz : Below w1.heap.size w1 z) => implOrderCovers_ok A1 A1 c1 c1 k1 k1 z (by unfold maxLen; omega) (by unfold maxLen; omega) hc11 hc12 (hs1.sl.on hz) (hs1.sl.on hz))
      rw [hb0] at HI HS
      rw [covRefl] at HR
      have HB1 := Lib.hid hb1
      have HLE := Lib.hid (show b0 = true → k2.length ≤ k1.length from fun h => by rw [h] at hb0; exact (of_decide_eq_true hb0).1)
      have HI1 := Lib.hid (HI.out w1 (Below.refl _ _))
      clear hb0 how1 how2 hs1 hs2 hb1 HI
      go_wp2_with fail
      refine HI1.out.mono ?_
      rintro e w2 ⟨rfl, hb2⟩
      have H2 := Lib.hid hb2
      have HD3 := Lib.hid (HD2.out w2 (bch HB1.out hb2))
      clear hb2
      go_wp2_with fail
      refine HD3.out.mono ?_
      rintro e w3 ⟨W, v3, v4, rfl, svs, rows, keys, hW, hrl, hkl, hrw, how3, hrt3, how4, hb3⟩
      obtain ⟨A3, c3, rfl, hc31, hc32, hs3⟩ := how3.shape svC_length
      obtain ⟨A4, c4, rfl, hc41, hc42, hs4⟩ := how4.shape keyC_length
      have hsl : svs.length = rows.length := hrt3.1
      obtain ⟨d, hd⟩ : ∃ d : Bool, d = true ↔ (TabOk W rows ∧ KeysOk W keys) := ⟨_, @decide_eq_true_iff _ (Classical.propDecidable _)⟩
      obtain ⟨out, hout⟩ : ∃ out, (if d then sortK keys rows else []) = out := ⟨_, rfl⟩
      have HSR := Lib.hid (fun (z : World) (hz : Below w3.heap.size w3 z) => implSortRows_ok W A3 A4 c3 c4 rows keys z (by omega) (by omega) (sls_of' (hs3.on hz).sl (hrt3.on hz)) (hs4.sl.on hz) d hd out hout)
      rw [← hsl] at HSR
      have hol : out.length ≤ 16 := by
        rw [← hout]; split
        · rw [sortK_length]; omega
        · simp
      have HP := Lib.hid (show ∀ n, IsSortedP (keys.take n) out from fun n => by
        rw [← hout]
        split
        · rename_i hdt
          have := hd.1 hdt
          exact (isSorted_sortK this.1 this.2).fewer n
        · intro r0 h0; simp at h0)
      have HK := Lib.hid (fun (z : World) (hz : Below w3.heap.size w3 z) => implOrderCovers_ok A4 A4 c4 c4 keys (keys.take 1) z (by unfold maxLen; omega) (by rw [List.length_take]; unfold maxLen; omega) hc41 hc42 (hs4.sl.on hz) ((hs4.sl.on hz).cut 1))
      rw [covTake] at HK
      have HKS := Lib.hid (fun (z : World) (hz : Below w3.heap.size w3 z) => hs4.sl.on hz)
      have H3 := Lib.hid (bch (Lib.hid H2.out).out hb3)
      have hkc : keys.length ≤ c4 := hc41
      clear hsl hd hout how3 how4 hrt3 hs3 hs4 hb3 hrw hrl hW
      obtain ⟨W3, hW3⟩ : ∃ z, w3.alloc (.cells #[.int .i64 W, .slice A3 svs.length c3] 50) = z := ⟨_, rfl⟩
      have B3 := Lib.hid (show Below w3.heap.size w3 W3 from hW3 ▸ balloc (Below.refl _ _) _)
      have R3 := Lib.hid (show Row W3 w3.heap.size 50 [.int .i64 W, .slice A3 svs.length c3] from hW3 ▸ Row.new _ _ _)
      have HW3 := Lib.hid hW3
      clear hW3
      have HS3 := Lib.hid (HS.out W3 (bch H3.out B3.out))
      obtain ⟨k, hk⟩ : ∃ k, keys.length / 2 = k := ⟨_, rfl⟩
      have ek : (keys.length : Int).tdiv 2 = (k : Int) := by rw [← hk]; exact Int.ofNat_tdiv _ _
      have ek2 : (keys.length : Int) / 2 = (k : Int) := by rw [← hk]; rfl
      have hk1 : k ≤ keys.length := by omega
      have hk2 : k ≤ c4 := by omega
      have HKL := Lib.hid (show (keys.take k).length = k by rw [List.length_take]; omega)
      have hrs : ∀ {p : Bool}, p = true → p = true := fun h => h
      clear hrs hk
      rcases Nat.eq_zero_or_pos keys.length with hz | hz
      · have hz0 : ¬ ((0 : Int) < (keys.length : Int)) := by omega
        have HZ := Lib.hid hz
        clear hz
        cases b0
        all_goals (
          try have hle := HLE.out rfl
          go_wp2_with fail
          rw [HW3.out]
          refine HS3.out.mono ?_
          rintro e w4 ⟨rfl, hb4⟩
          have r4 := R3.out.on hb4
          have e0 : w4.cell? ⟨w3.heap.size, 0, none⟩ = some (.int .i64 W) := r4.cell 0
          have e1 : w4.cell? ⟨w3.heap.size, 1, none⟩ = some (.slice A3 svs.length c3) := r4.cell 1
          have H4 := Lib.hid (bch B3.out hb4)
          have HSR4 := Lib.hid (HSR.out w4 H4.out)
          clear r4 hb4
          go_wp2_with fail
          refine HSR4.out.mono ?_
          rintro e w5 ⟨v5, svs5, rfl, how5, hrt5, hb5⟩
          obtain ⟨A5, c5, rfl, hc51, hc52, hs5⟩ := how5.shape svC_length
          have HSL5 := Lib.hid hrt5.1
          have H5 := Lib.hid (bch H4.out hb5)
          have HR5 := Lib.hid (HR.out w5 (bch H3.out H5.out))
          have HRT5 := Lib.hid (sls_of' hs5.sl hrt5)
          have H05 := Lib.hid (bch HB1.out (bch H3.out H5.out))
          clear how5 hrt5 hb5 hs5 e0 e1
          go_wp2_with fail
          refine HR5.out.mono ?_
          rintro e w6 ⟨rfl, hb6⟩
          have H6 := Lib.hid hb6
          have HIS := implIsSorted_ok A5 A4 c5 c4 out (keys.take k) w6 (by omega) (by rw [HKL.out]; omega) (HRT5.out.on hb6) ((HKS.out w6 (bch H5.out hb6)).cut k) true (iff_of_true rfl (HP.out k))
          rw [HKL.out, ← HSL5.out] at HIS
          have HIS := Lib.hid HIS
          clear hb6
          rcases Nat.eq_zero_or_pos svs5.length with hy | hy
          · have hy0 : (svs5.length : Int) = 0 := by omega
            have hy1 := Lib.hid hy
            clear hy
            go_wp2_with fail
            go_ret
            exact ⟨rfl, bch H05.out H6.out⟩
          · have hy0 : ¬ (svs5.length : Int) = 0 := by omega
            go_wp2_with fail
            all_goals first
              | (go_ret; exact ⟨rfl, bch H05.out H6.out⟩)
              | (refine HIS.out.mono ?_; rintro e w7 ⟨rfl, hb7⟩; go_wp2; go_ret; exact ⟨rfl, bch H05.out (bch H6.out hb7)⟩))
      · have hz0 : (0 : Int) < (keys.length : Int) := by omega
        have hz1 : 1 ≤ c4 := by omega
        have hl1 : (keys.take 1).length = 1 := by rw [List.length_take]; omega
        rw [hl1] at HK
        clear hl1
        cases b0
        all_goals (
          try have hle := HLE.out rfl
          go_wp2_with fail
          rw [HW3.out]
          refine HS3.out.mono ?_
          rintro e w4 ⟨rfl, hb4⟩
          have HK4 := Lib.hid (HK.out w4 (bch B3.out hb4))
          go_wp2_with fail
          refine HK4.out.mono ?_
          rintro e w4' ⟨rfl, hb4'⟩
          have hb4 := bch hb4 hb4'
          clear hb4'
          obtain ⟨w4, rfl⟩ : ∃ z, z = w4' := ⟨_, rfl⟩
          have r4 := R3.out.on hb4
          have e0 : w4.cell? ⟨w3.heap.size, 0, none⟩ = some (.int .i64 W) := r4.cell 0
          have e1 : w4.cell? ⟨w3.heap.size, 1, none⟩ = some (.slice A3 svs.length c3) := r4.cell 1
          have H4 := Lib.hid (bch B3.out hb4)
          have HSR4 := Lib.hid (HSR.out w4 H4.out)
          clear r4 hb4
          go_wp2_with fail
          refine HSR4.out.mono ?_
          rintro e w5 ⟨v5, svs5, rfl, how5, hrt5, hb5⟩
          obtain ⟨A5, c5, rfl, hc51, hc52, hs5⟩ := how5.shape svC_length
          have HSL5 := Lib.hid hrt5.1
          have H5 := Lib.hid (bch H4.out hb5)
          have HR5 := Lib.hid (HR.out w5 (bch H3.out H5.out))
          have HRT5 := Lib.hid (sls_of' hs5.sl hrt5)
          have H05 := Lib.hid (bch HB1.out (bch H3.out H5.out))
          clear how5 hrt5 hb5 hs5 e0 e1
          go_wp2_with fail
          refine HR5.out.mono ?_
          rintro e w6 ⟨rfl, hb6⟩
          have H6 := Lib.hid hb6
          have HIS := implIsSorted_ok A5 A4 c5 c4 out (keys.take k) w6 (by omega) (by rw [HKL.out]; omega) (HRT5.out.on hb6) ((HKS.out w6 (bch H5.out hb6)).cut k) true (iff_of_true rfl (HP.out k))
          rw [HKL.out, ← HSL5.out] at HIS
          have HIS := Lib.hid HIS
          clear hb6
          rcases Nat.eq_zero_or_pos svs5.length with hy | hy
          · have hy0 : (svs5.length : Int) = 0 := by omega
            have hy1 := Lib.hid hy
            clear hy
            go_wp2_with fail
            go_ret
            exact ⟨rfl, bch H05.out H6.out⟩
          · have hy0 : ¬ (svs5.length : Int) = 0 := by omega
            go_wp2_with fail
            all_goals first
              | (go_ret; exact ⟨rfl, bch H05.out H6.out⟩)
              | (refine HIS.out.mono ?_; rintro e w7 ⟨rfl, hb7⟩; go_wp2; go_ret; exact ⟨rfl, bch H05.out (bch H6.out hb7)⟩))

namespace lawFnOrderCovers
theorem own : ownKnob Try.prog.godebug = none := by kernel_rfl
theorem laidOut : laidOutB Try.prog = true := by kernel_rfl

set_option maxRecDepth 100000 in
theorem lifted (os : Os) (started : os.Started) (H : Type) (enc : TypeId × Value → H) :
    ReturnsInHanded {} Try.checked os 9 .any (Rows.fnOrderCoversSpec.pre6 enc Try.prog Try.f9 Rows.fnOrderCoversRow.domain false) (Rows.fnOrderCoversSpec.post enc Try.prog Try.f9 false true false false) := by
  refine returnsInHanded_of_change (C := Try.checked) own started (by kernel_rfl) Try.func9
    (ChangeSpec.witness6 (enc := enc) (C := Try.checked) false ⟨#[], #[.slice none 0 0, .slice none 0 0], []⟩ 8 (by kernel_rfl) (by kernel_rfl) (by kernel_rfl) (by kernel_rfl)) ?_
  intro W base args ds gs before hval0 hW hcnd _
  have hval : ∀ (j : Nat) t v, Try.f9.params[j]? = some t → args[j]? = some v → Value.okWide Try.prog W .any base t v := hval0
  have hW' := hW
  obtain ⟨p, q, hA0, hV, rfl, hfz, hnd⟩ := hW
  have hA : DataW.TrodAll enc Try.prog W 0 (fun _ => true) true Try.f9.params.toList args.toList ds p := hA0
  rw [Try.params9] at hA hval
  obtain ⟨v0, vs0, d0, ds0, p0, q0, hargs, rfl, rfl, h0, r0⟩ := trodAll_cons hA
  obtain ⟨v1, vs1, d1, ds1, p1, q1, rfl, rfl, rfl, h1, r1⟩ := trodAll_cons r0
  obtain ⟨rfl, rfl, rfl⟩ := trodAll_nil r1
  obtain rfl : args = #[v0, v1] := by cases args; simp_all
  obtain ⟨rfl, rfl⟩ := trodVars_none hV
  obtain ⟨a0, len0, c0, rfl⟩ := okWide_slice Try.underlying37 (hval 0 37 v0 rfl rfl)
  obtain ⟨a1, len1, c1, rfl⟩ := okWide_slice Try.underlying37 (hval 1 37 v1 rfl rfl)
  have k0 := h0
  have lt0 : ∀ x ∈ p0, x.block < W.heap.size := by obtain ⟨m, hm⟩ := k0; exact DataW.trod_lt m _ _ _ hm
  obtain ⟨f0, h0⟩ := h0
  have k1 := h1
  have lt1 : ∀ x ∈ p1, x.block < W.heap.size := by obtain ⟨m, hm⟩ := k1; exact DataW.trod_lt m _ _ _ hm
  obtain ⟨f1, h1⟩ := h1
  obtain ⟨xs0, rfl, hc0, hm0, g0, s0⟩ := open_sl (sz := 1) (ec := byteC) Try.underlying37 (by kernel_rfl) (by omega) byteC_length (el_byte Try.underlying5) h0
  obtain ⟨xs1, rfl, hc1, hm1, g1, s1⟩ := open_sl (sz := 1) (ec := byteC) Try.underlying37 (by kernel_rfl) (by omega) byteC_length (el_byte Try.underlying5) h1
  clear hA0 hval0
  refine (FnOrderCovers_walk a0 c0 xs0 a1 c1 xs1 W hc0 hm0 g0 s0 hc1 hm1 g1 s1).mono fun e W' ⟨he, bel⟩ => ?_
  subst he
  exact ⟨_, rfl, _, _, _, [], _, [], hW', trodAll_mk1 (shut_bool Try.underlying4 _), (trodAll_cons_mk (Below.trod laidOut (by kernel_rfl) (of_decide_eq_true (by kernel_rfl)) k0 bel lt0) (trodAll_cons_mk (Below.trod laidOut (by kernel_rfl) (of_decide_eq_true (by kernel_rfl)) k1 bel lt1) trodAll_mk0)), rfl, bel.frame _, fun h => by cases h⟩

theorem over : Rows.fnOrderCoversRow.holds Try.pinned (OpenSpec.ofChange Rows.fnOrderCoversSpec) :=
  OpenClaim.holds_of_wide 9 Try.f9 rfl rfl rfl rfl rfl rfl rfl ⟨rfl, rfl, rfl, rfl, rfl⟩ rfl rfl rfl rfl rfl (by kernel_rfl) Try.func9 (by kernel_rfl)
    (of_decide_eq_true (by kernel_rfl)) (by unfold Func.isWrapper; first | (rw [if_pos (by decide +kernel)]; kernel_rfl) | (rw [if_neg (by decide +kernel)]; exact ⟨rfl, rfl⟩))
    (fun os started H enc _ => lifted os started H enc)

theorem proved : Rows.FnOrderCoversSaid := over
end lawFnOrderCovers
#print axioms lawFnOrderCovers.proved

end Go.Proofs.Ytmljhkoabhjiaaa
