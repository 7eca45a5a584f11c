/-
  FnIsSorted returns true for all bytes and leaves them as they were. No condition.
-/
import Derived.Test.YthijkbkhgphcbaaRows
import Derived.OpenShut
import Derived.Test.YthijkbkhgphcbaaIsSrtI
import Derived.Test.YthijkbkhgphcbaaDIS
import Derived.Test.YthijkbkhgphcbaaSrtL
import Derived.Test.YthijkbkhgphcbaaArgB
namespace Go.Proofs.Ythijkbkhgphcbaa
open Go.RowKit Go.Qo
open Go.ChangeShapes Go.WideShapes Go.ChangeAt
set_option linter.unusedVariables false
set_option linter.unusedSimpArgs false

set_option maxRecDepth 20000 in
set_option maxHeartbeats 2000000 in
theorem FnIsSorted_walk (A : Option Addr) (c : Nat) (xs : List Int) (A' : Option Addr) (c' : Nat) (ys : List Int) (w : World) (hc : xs.length ≤ c) (hm : c ≤ maxLen) (hg : ∀ x ∈ xs, 0 ≤ x ∧ x ≤ 255) (h : Sl 1 byteC w w.heap.size A xs) (hc' : ys.length ≤ c') (hm' : c' ≤ maxLen) (hg' : ∀ x ∈ ys, 0 ≤ x ∧ x ≤ 255) (h' : Sl 1 byteC w w.heap.size A' ys) :
    Calls Try.prog 7 #[.slice A xs.length c, .slice A' ys.length c'] w fun e w' => e = .returned (.bool true) ∧ Below w.heap.size w w' := by
  have HD := Lib.hid (drawIsSorted_ok A c xs w hc hm hg h)
  have hx63 : xs.length ≤ 9223372036854775807 := by unfold maxLen at hm; omega
  have hy63 : ys.length ≤ 9223372036854775807 := by unfold maxLen at hm'; omega
  clear h h' hg hg' hc hm hc' hm'
  by_cases hx : (1048576 : Int) < xs.length
  · clear HD
    go_enter Try.func7, Try.ntmps7
    go_wp2
    go_ret
    exact ⟨rfl, Below.refl _ _⟩
  · by_cases hy : (1048576 : Int) < ys.length
    · clear HD
      go_enter Try.func7, Try.ntmps7
      go_wp2
      go_ret
      exact ⟨rfl, Below.refl _ _⟩
    · go_enter Try.func7, Try.ntmps7
      go_wp2_with fail
      refine HD.out.mono ?_
      rintro e w1 ⟨v1, v2, rfl, svs, rows, keys, hrl, hkl, hrw, how, hrt, hok, hb1⟩
      obtain ⟨A1, c1, rfl, hc11, hc12, hs1⟩ := how.shape svC_length
      obtain ⟨A2, c2, rfl, hc21, hc22, hs2⟩ := hok.shape keyC_length
      obtain ⟨d, hd⟩ : ∃ d : Bool, d = true ↔ IsSortedP keys rows := ⟨_, @decide_eq_true_iff _ (Classical.propDecidable _)⟩
      have HSl := Lib.hid (sls_of' hs1.sl hrt)
      have HKl := Lib.hid hs2.sl
      have hsl : svs.length = rows.length := hrt.1
      have HI := Lib.hid (fun (z : World) (hz : Below w1.heap.size w1 z) => implIsSorted_ok A1 A2 c1 c2 rows keys z (by omega) (by omega) (HSl.out.on hz) (HKl.out.on hz) d hd)
      have HS := Lib.hid (fun (z : World) (hz : Below w1.heap.size w1 z) => specIsSorted_ok A1 A2 c1 c2 rows keys z (by omega) (by omega) (HSl.out.on hz) (HKl.out.on hz) d hd)
      have Hd := Lib.hid hd
      have HB1 := Lib.hid hb1
      have hrl' : rows.length ≤ 400 := hrl
      have HRT := Lib.hid (And.intro hs1 hrt)
      rw [← hsl] at HI HS hrl'
      have HSV := Lib.hid hsl
      clear hb1 hs1 hs2 how hrt hok hd hsl hrl
      have HI1 := Lib.hid (HI.out w1 (Below.refl _ _))
      cases d
      · go_wp2_with fail
        refine HI1.out.mono ?_; rintro e w2 ⟨rfl, hb2⟩
        go_wp2_with fail
        refine (HS.out _ hb2).mono ?_; rintro e w3 ⟨rfl, hb3⟩
        have H3 := Lib.hid (bch hb2 hb3)
        clear hb2 hb3
        go_wp2_with fail
        refine (HS.out _ H3.out).mono ?_; rintro e w4 ⟨rfl, hb4⟩
        go_wp2
        go_ret
        exact ⟨rfl, bch HB1.out (bch H3.out hb4)⟩
      · rcases Nat.eq_zero_or_pos svs.length with hz | hz
        · have hz0 : (svs.length : Int) = 0 := by omega
          have hzz := Lib.hid hz
          clear hz
          go_wp2_with fail
          refine HI1.out.mono ?_; rintro e w2 ⟨rfl, hb2⟩
          go_wp2_with fail
          refine (HS.out _ hb2).mono ?_; rintro e w3 ⟨rfl, hb3⟩
          have H3 := Lib.hid (bch hb2 hb3)
          clear hb2 hb3
          go_wp2_with fail
          refine (HS.out _ H3.out).mono ?_; rintro e w4 ⟨rfl, hb4⟩
          go_wp2
          go_ret
          exact ⟨rfl, bch HB1.out (bch H3.out hb4)⟩
        · have hz0 : ¬ ((svs.length : Int) = 0) := by omega
          obtain ⟨k, hk⟩ : ∃ k, ys.length % (keys.length + 1) = k := ⟨_, rfl⟩
          obtain ⟨n, hn⟩ : ∃ n, ys.length % svs.length = n := ⟨_, rfl⟩
          have hk1 : k ≤ keys.length := by have := Nat.mod_lt ys.length (show 0 < keys.length + 1 by omega); omega
          have hn1 : n < svs.length := by have := Nat.mod_lt ys.length hz; omega
          have ek : (ys.length : Int).tmod ((keys.length : Int) + 1) = (k : Int) := by rw [← hk]; exact Int.ofNat_tmod _ _
          have ek2 : (ys.length : Int) % ((keys.length : Int) + 1) = (k : Int) := by rw [← hk]; rfl
          have en : (ys.length : Int).tmod (svs.length : Int) = (n : Int) := by rw [← hn]; exact Int.ofNat_tmod _ _
          have en2 : (ys.length : Int) % (svs.length : Int) = (n : Int) := by rw [← hn]; rfl
          have hkz : ¬ ((keys.length : Int) + 1 = 0) := by omega
          have hkc : k ≤ c2 := by omega
          have hnc : ¬ (c1 = n) := by omega
          have hP := Hd.out.1 rfl
          have HK := Lib.hid (fun (z : World) (hz : Below w1.heap.size w1 z) => implIsSorted_ok A1 A2 c1 c2 rows (keys.take k) z (by have := HSV.out; omega) (by rw [List.length_take]; omega) (HSl.out.on hz) ((HKl.out.on hz).cut k) true (iff_of_true rfl (hP.fewer k)))
          rw [List.length_take, Nat.min_eq_left hk1, ← HSV.out] at HK
          have HN := Lib.hid (fun (A3 : Option Addr) (c3 : Nat) (z : World) (hz : Below w1.heap.size w1 z) (hA : ∀ b off, A1 = some ⟨b, off, none⟩ → n < svs.length → A3 = some ⟨b, off + n * 1, none⟩) => implIsSorted_ok A3 A2 c3 c2 (rows.drop n) keys z (by rw [List.length_drop]; have := HSV.out; omega) (by omega) (sls_of' (Sl.from_ (HRT.out.1.on hz).sl hA) ((HRT.out.2.on hz).drop n)) (HKl.out.on hz) true (iff_of_true rfl (hP.part n)))
          rw [List.length_drop, ← HSV.out] at HN
          clear hP hk hn
          have hn1' := hn1
          go_wp2_with fail
          refine HI1.out.mono ?_; rintro e w2 ⟨rfl, hb2⟩
          go_wp2_with fail
          refine (HS.out _ hb2).mono ?_; rintro e w3 ⟨rfl, hb3⟩
          have H3 := Lib.hid (bch hb2 hb3)
          clear hb2 hb3
          go_wp2_with fail
          refine (HK.out _ H3.out).mono ?_; rintro e w4 ⟨rfl, hb4⟩
          have H4 := Lib.hid (bch H3.out hb4)
          clear hb4
          go_wp2_with fail
          refine (HN.out _ _ _ H4.out ?_).mono ?_
          · intro b off hA hl
            subst hA
            simp [Addr.add_lit]
          rintro e w5 ⟨rfl, hb5⟩
          go_wp2
          go_ret
          exact ⟨rfl, bch HB1.out (bch H4.out hb5)⟩

namespace lawFnIsSorted
theorem own : ownKnob Try.prog.godebug = none := by kernel_rfl
theorem laidOut : laidOutB Try.prog = true := by kernel_rfl

set_option maxRecDepth 100000 in
theorem lifted (os : Os) (started : os.Started) (H : Type) (enc : TypeId × Value → H) :
    ReturnsInHanded {} Try.checked os 7 .any (Rows.fnIsSortedSpec.pre6 enc Try.prog Try.f7 Rows.fnIsSortedRow.domain false) (Rows.fnIsSortedSpec.post enc Try.prog Try.f7 false true false false) := by
  refine returnsInHanded_of_change (C := Try.checked) own started (by kernel_rfl) Try.func7
    (ChangeSpec.witness6 (enc := enc) (C := Try.checked) false ⟨#[], #[.slice none 0 0, .slice none 0 0], []⟩ 8 (by kernel_rfl) (by kernel_rfl) (by kernel_rfl) (by kernel_rfl)) ?_
  intro W base args ds gs before hval0 hW hcnd _
  have hval : ∀ (j : Nat) t v, Try.f7.params[j]? = some t → args[j]? = some v → Value.okWide Try.prog W .any base t v := hval0
  have hW' := hW
  obtain ⟨p, q, hA0, hV, rfl, hfz, hnd⟩ := hW
  have hA : DataW.TrodAll enc Try.prog W 0 (fun _ => true) true Try.f7.params.toList args.toList ds p := hA0
  rw [Try.params7] at hA hval
  obtain ⟨v0, vs0, d0, ds0, p0, q0, hargs, rfl, rfl, h0, r0⟩ := trodAll_cons hA
  obtain ⟨v1, vs1, d1, ds1, p1, q1, rfl, rfl, rfl, h1, r1⟩ := trodAll_cons r0
  obtain ⟨rfl, rfl, rfl⟩ := trodAll_nil r1
  obtain rfl : args = #[v0, v1] := by cases args; simp_all
  obtain ⟨rfl, rfl⟩ := trodVars_none hV
  obtain ⟨a0, len0, c0, rfl⟩ := okWide_slice Try.underlying49 (hval 0 49 v0 rfl rfl)
  obtain ⟨a1, len1, c1, rfl⟩ := okWide_slice Try.underlying49 (hval 1 49 v1 rfl rfl)
  have k0 := h0
  have lt0 : ∀ x ∈ p0, x.block < W.heap.size := by obtain ⟨m, hm⟩ := k0; exact DataW.trod_lt m _ _ _ hm
  obtain ⟨f0, h0⟩ := h0
  have k1 := h1
  have lt1 : ∀ x ∈ p1, x.block < W.heap.size := by obtain ⟨m, hm⟩ := k1; exact DataW.trod_lt m _ _ _ hm
  obtain ⟨f1, h1⟩ := h1
  obtain ⟨xs0, rfl, hc0, hm0, g0, s0⟩ := open_sl (sz := 1) (ec := byteC) Try.underlying49 (by kernel_rfl) (by omega) byteC_length (el_byte Try.underlying5) h0
  obtain ⟨xs1, rfl, hc1, hm1, g1, s1⟩ := open_sl (sz := 1) (ec := byteC) Try.underlying49 (by kernel_rfl) (by omega) byteC_length (el_byte Try.underlying5) h1
  clear hA0 hval0
  refine (FnIsSorted_walk a0 c0 xs0 a1 c1 xs1 W hc0 hm0 g0 s0 hc1 hm1 g1 s1).mono fun e W' ⟨he, bel⟩ => ?_
  subst he
  exact ⟨_, rfl, _, _, _, [], _, [], hW', trodAll_mk1 (shut_bool Try.underlying4 _), (trodAll_cons_mk (Below.trod laidOut (by kernel_rfl) (of_decide_eq_true (by kernel_rfl)) k0 bel lt0) (trodAll_cons_mk (Below.trod laidOut (by kernel_rfl) (of_decide_eq_true (by kernel_rfl)) k1 bel lt1) trodAll_mk0)), rfl, bel.frame _, fun h => by cases h⟩

theorem over : Rows.fnIsSortedRow.holds Try.pinned (OpenSpec.ofChange Rows.fnIsSortedSpec) :=
  OpenClaim.holds_of_wide 7 Try.f7 rfl rfl rfl rfl rfl rfl rfl ⟨rfl, rfl, rfl, rfl, rfl⟩ rfl rfl rfl rfl rfl (by kernel_rfl) Try.func7 (by kernel_rfl)
    (of_decide_eq_true (by kernel_rfl)) (by unfold Func.isWrapper; first | (rw [if_pos (by decide +kernel)]; kernel_rfl) | (rw [if_neg (by decide +kernel)]; exact ⟨rfl, rfl⟩))
    (fun os started H enc _ => lifted os started H enc)

theorem proved : Rows.FnIsSortedSaid := over
end lawFnIsSorted
#print axioms lawFnIsSorted.proved

end Go.Proofs.Ythijkbkhgphcbaa
