/-
  FnIsSubtable returns true for all bytes and leaves them as they were. No condition.
-/
import Derived.Test.YtfjpmifdmpoocaaRows
import Derived.OpenShut
import Derived.Deep.DeepCutAuto
import Derived.Test.YtfjpmifdmpoocaaSub
import Derived.Test.YtfjpmifdmpoocaaSetQ
import Derived.Test.YtfjpmifdmpoocaaDraI
import Derived.Test.YtfjpmifdmpoocaaArgB
namespace Go.Proofs.Ytfjpmifdmpoocaa
open Go.RowKit Go.Qo
open Go.ChangeShapes Go.WideShapes Go.ChangeAt
set_option linter.unusedVariables false
set_option linter.unusedSimpArgs false

set_option maxRecDepth 20000 in
set_option maxHeartbeats 2000000 in
theorem FnIsSubtable_walk (A : Option Addr) (c : Nat) (xs : List Int) (w : World) (hc : xs.length ≤ c) (hm : c ≤ maxLen) (hg : ∀ x ∈ xs, 0 ≤ x ∧ x ≤ 255) (h : Sl 1 byteC w w.heap.size A xs) :
    Calls Try.prog 3 #[.slice A xs.length c] w fun e w' => e = .returned (.bool true) ∧ Below w.heap.size w w' := by
  have HD := Lib.hid (drawIsSubtable_ok A c xs w hc hm hg h)
  have hx63 : xs.length ≤ 9223372036854775807 := by unfold maxLen at hm; omega
  clear h hg hc hm
  by_cases hx : (1048576 : Int) < xs.length
  · clear HD
    go_enter Try.func3, Try.ntmps3
    go_wp2
    go_ret
    exact ⟨rfl, Below.refl _ _⟩
  · go_enter Try.func3, Try.ntmps3
    go_wp2_with fail
    refine HD.out.mono ?_
    rintro e w3 ⟨W1, v1, W2, v2, rfl, svs1, rows1, svs2, rows2, hd1, hd2, hb3⟩
    obtain ⟨A1, c1, rfl, hc11, hc12, hs1, ht1, hl1, hr1⟩ := hd1.read
    obtain ⟨A2, c2, rfl, hc21, hc22, hs2, ht2, hl2, hr2⟩ := hd2.read
    obtain ⟨q, hq⟩ : ∃ q : Bool, q = true ↔ (TabOk W1 rows1 ∧ TabOk W2 rows2 ∧ W1 = W2) := ⟨_, @decide_eq_true_iff _ (Classical.propDecidable _)⟩
    obtain ⟨d, hd⟩ : ∃ d : Bool, d = true ↔ ((TabOk W1 rows1 ∧ TabOk W2 rows2 ∧ W1 = W2) ∧ (merged rows1 rows2).all (·.2) = true) := ⟨_, @decide_eq_true_iff _ (Classical.propDecidable _)⟩
    have hd' : d = true ↔ ((TabOk W1 rows1 ∧ TabOk W2 rows2 ∧ W1 = W2) ∧ ∀ x ∈ rows1, cnt rows1 x ≤ cnt rows2 x) := by
      rw [hd]
      constructor
      · rintro ⟨⟨h1, h2, h3⟩, h4⟩
        exact ⟨⟨h1, h2, h3⟩, (merged_all h1.srt (h3 ▸ h2.srt)).1 h4⟩
      · rintro ⟨⟨h1, h2, h3⟩, h4⟩
        exact ⟨⟨h1, h2, h3⟩, (merged_all h1.srt (h3 ▸ h2.srt)).2 h4⟩
    have R1 := Lib.hid (fun (z : World) (hz : Below w3.heap.size w3 z) => show Rws z z.heap.size A1 rows1 from (sls_of' hs1 ht1).on hz)
    have R2 := Lib.hid (fun (z : World) (hz : Below w3.heap.size w3 z) => show Rws z z.heap.size A2 rows2 from (sls_of' hs2 ht2).on hz)
    have K1 := Lib.hid (fun (z : World) (hz : Below w3.heap.size w3 z) => implIsSubtable_ok W1 W2 A1 A2 c1 c2 rows1 rows2 z (by unfold maxLen; omega) (by unfold maxLen; omega) (R1.out z hz) (R2.out z hz) d hd)
    have K2 := Lib.hid (fun (z : World) (hz : Below w3.heap.size w3 z) => specIsSubtable_ok W1 W2 A1 A2 c1 c2 rows1 rows2 z (by unfold maxLen; omega) (by unfold maxLen; omega) (R1.out z hz) (R2.out z hz) d hd')
    have K3 := Lib.hid (fun (z : World) (hz : Below w3.heap.size w3 z) => implExceptAll_ok W1 W2 A1 A2 c1 c2 rows1 rows2 z (by omega) (by omega) (R1.out z hz) (R2.out z hz) q hq)
    have K4 := Lib.hid (fun (hT : TabOk W1 rows1) (z : World) (hz : Below w3.heap.size w3 z) => implIsSubtable_ok W1 W1 A1 A1 c1 c1 rows1 rows1 z (by unfold maxLen; omega) (by unfold maxLen; omega) (R1.out z hz) (R1.out z hz) true (iff_of_true rfl ⟨⟨hT, hT, rfl⟩, (merged_all hT.srt hT.srt).2 fun x _ => Nat.le_refl _⟩))
    have HQ := Lib.hid (And.intro hq hd)
    obtain ⟨W5, hW5⟩ : ∃ z, (w3.alloc (.cells #[.int .i64 W1, .slice A1 rows1.length c1] 25)).alloc (.cells #[.int .i64 W2, .slice A2 rows2.length c2] 25) = z := ⟨_, rfl⟩
    have B5 : Below w3.heap.size w3 W5 := by rw [← hW5]; exact balloc (balloc (Below.refl _ _) _) _
    have x1 : Row W5 w3.heap.size 25 [.int .i64 W1, .slice A1 rows1.length c1] := by rw [← hW5]; exact Row.first _ _ _ _
    have x2 : Row W5 (w3.heap.size + 1) 25 [.int .i64 W2, .slice A2 rows2.length c2] := by rw [← hW5]; exact Row.second _ _ _ _
    have BX := Lib.hid (fun (z : World) (hz : Below W5.heap.size W5 z) => show (z.cell? ⟨w3.heap.size, 0, none⟩ = some (.int .i64 W1) ∧ z.cell? ⟨w3.heap.size, 1, none⟩ = some (.slice A1 rows1.length c1) ∧ z.cell? ⟨w3.heap.size + 1, 0, none⟩ = some (.int .i64 W2) ∧ z.cell? ⟨w3.heap.size + 1, 1, none⟩ = some (.slice A2 rows2.length c2))
      from ⟨(x1.on hz).cell 0, (x1.on hz).cell 1, (x2.on hz).cell 0, (x2.on hz).cell 1⟩)
    have HB3 := Lib.hid (And.intro hb3 B5)
    have HW5 := Lib.hid hW5
    have HL := Lib.hid (And.intro hl1 hl2)
    have z5 := BX.out _ (Below.refl _ _)
    clear hd1 hd2 hb3 hs1 hs2 ht1 ht2 hr1 hr2 hq hd hd' x1 x2 B5 hW5 hc11 hc12 hc21 hc22
    go_upto_region 4 with fail
    rw [HW5.out]
    go_wp2_with fail
    refine (K1.out _ HB3.out.2).mono ?_
    rintro e w6 ⟨rfl, hb6⟩
    have H6 := Lib.hid hb6
    have z6 := BX.out _ H6.out
    clear hb6 z5
    go_wp2_with fail
    refine (K2.out _ (bch HB3.out.2 H6.out)).mono ?_
    rintro e w7 ⟨rfl, hb7⟩
    have H7 := Lib.hid (bch H6.out hb7)
    have z7 := BX.out _ H7.out
    have hdd : (d != d) = false := by simp
    clear hb7 z6
    go_wp2_with fail
    refine (K3.out _ (bch HB3.out.2 H7.out)).mono ?_
    intro e w8 hex
    obtain ⟨W8, A8, c8, cp, rfl, hT8, how8, hcc8, hb8⟩ := TabRes.read hex
    obtain ⟨out, hout⟩ : ∃ out, cp.map (·.2) = out := ⟨_, rfl⟩
    have hlen : cp.length = out.length := by rw [← hout, List.length_map]
    have hrw := rws_cp how8 hcc8
    rw [hout] at hT8 hrw
    rw [hlen]
    obtain ⟨W9, hW9⟩ : ∃ z, w8.alloc (.cells #[.int .i64 W8, .slice A8 out.length c8] 25) = z := ⟨_, rfl⟩
    have B9 : Below w8.heap.size w8 W9 := by rw [← hW9]; exact balloc (Below.refl _ _) _
    have x9 : Row W9 w8.heap.size 25 [.int .i64 W8, .slice A8 out.length c8] := by rw [← hW9]; exact Row.new _ _ _
    have H9 := Lib.hid (And.intro (bch (bch H7.out hb8) B9) (And.intro x9 (hrw.on B9)))
    have HW9 := Lib.hid hW9
    have HT8 := Lib.hid hT8
    clear hex hT8 how8 hcc8 hb8 hout hlen hrw hW9 B9 x9 z7
    go_upto_region 8 with fail
    rw [HW9.out]
    cases hqq : q
    · have hdf : d = false := by
        cases d
        · rfl
        · have := HQ.out.1.2 (HQ.out.2.1 rfl).1
          rw [hqq] at this; cases this
      subst hdf
      clear hqq
      go_wp2
      go_ret
      exact ⟨rfl, bch HB3.out.1 (bch HB3.out.2 H9.out.1)⟩
    · obtain ⟨hT1, hT2, hWW⟩ := HQ.out.1.1 hqq
      have ht8 := HT8.out
      rw [hqq] at ht8
      obtain ⟨rfl, hp, hTo⟩ := tabC_ok hT1 (keep_sub false rows1 rows2) ht8
      have hdo : d = decide (out.length = 0) := by
        rw [Bool.eq_iff_iff, decide_eq_true_iff, HQ.out.2, List.length_eq_zero_iff]
        constructor
        · rintro ⟨_, h2⟩
          rw [keep_nil.2 h2] at hp
          exact hp.eq_nil
        · intro h2
          subst h2
          exact ⟨⟨hT1, hT2, hWW⟩, keep_nil.1 hp.nil_eq.symm⟩
      have hol : out.length ≤ 16 := by have := hp.length_eq; have := (keep_sub false rows1 rows2).length_le; have := HL.out.1; omega
      have K5 := Lib.hid (fun (z : World) (hz : Below w3.heap.size w3 z) (h : Rws z z.heap.size A8 out) => implIsSubtable_ok W8 W8 A8 A1 c8 c1 out rows1 z (by unfold maxLen; omega) (by unfold maxLen; omega) h (R1.out z hz) true
        (iff_of_true rfl ⟨⟨hTo, hT1, rfl⟩, (merged_all hTo.srt hT1.srt).2 fun x _ => by rw [cnt_perm hp]; exact cnt_sub (keep_sub _ _ _) x⟩))
      have K4' := Lib.hid (K4.out hT1)
      have g0 : W9.cell? ⟨w8.heap.size, 0, none⟩ = some (.int .i64 W8) := H9.out.2.1.cell 0
      have g1 : W9.cell? ⟨w8.heap.size, 1, none⟩ = some (.slice A8 out.length c8) := H9.out.2.1.cell 1
      have z9 := BX.out _ H9.out.1
      have hde : (d == decide (out.length = 0)) = true := by rw [hdo]; simp
      have hde2 : ((out.length : Int) == 0) = decide (out.length = 0) := by rw [Bool.eq_iff_iff]; simp
      have HDE := Lib.hid (And.intro hde hde2)
      clear hqq hT1 hT2 hWW ht8 hp hTo hdo hol HT8 K1 K2 K3 HQ hde hde2
      have hdd2 := HDE.out.1
      rw [← HDE.out.2] at hdd2
      go_wp2_with fail
      refine (K4'.out _ (bch HB3.out.2 H9.out.1)).mono ?_
      rintro e w10 ⟨rfl, hb10⟩
      have H10 := Lib.hid (And.intro (bch H9.out.1 hb10) (And.intro (H9.out.2.1.on hb10) (H9.out.2.2.on hb10)))
      clear hb10 g0 g1 z9
      have g0 : w10.cell? ⟨w8.heap.size, 0, none⟩ = some (.int .i64 W8) := H10.out.2.1.cell 0
      have g1 : w10.cell? ⟨w8.heap.size, 1, none⟩ = some (.slice A8 out.length c8) := H10.out.2.1.cell 1
      have z10 := BX.out _ H10.out.1
      go_wp2_with fail
      refine (K5.out _ (bch HB3.out.2 H10.out.1) H10.out.2.2).mono ?_
      rintro e w11 ⟨rfl, hb11⟩
      have H11 := Lib.hid (bch HB3.out.1 (bch HB3.out.2 (bch H10.out.1 hb11)))
      clear hb11 g0 g1 z10
      go_wp2
      go_ret
      exact ⟨rfl, H11.out⟩

namespace lawFnIsSubtable
theorem own : ownKnob Try.prog.godebug = none := by kernel_rfl
theorem laidOut : laidOutB Try.prog = true := by kernel_rfl

set_option maxRecDepth 100000 in
theorem lifted (os : Os) (started : os.Started) (H : Type) (enc : TypeId × Value → H) :
    ReturnsInHanded {} Try.checked os 3 .any (Rows.fnIsSubtableSpec.pre6 enc Try.prog Try.f3 Rows.fnIsSubtableRow.domain false) (Rows.fnIsSubtableSpec.post enc Try.prog Try.f3 false true false false) := by
  refine returnsInHanded_of_change (C := Try.checked) own started (by kernel_rfl) Try.func3
    (ChangeSpec.witness6 (enc := enc) (C := Try.checked) false ⟨#[], #[.slice none 0 0], []⟩ 8 (by kernel_rfl) (by kernel_rfl) (by kernel_rfl) (by kernel_rfl)) ?_
  intro W base args ds gs before hval0 hW hcnd _
  have hval : ∀ (j : Nat) t v, Try.f3.params[j]? = some t → args[j]? = some v → Value.okWide Try.prog W .any base t v := hval0
  have hW' := hW
  obtain ⟨p, q, hA0, hV, rfl, hfz, hnd⟩ := hW
  have hA : DataW.TrodAll enc Try.prog W 0 (fun _ => true) true Try.f3.params.toList args.toList ds p := hA0
  rw [Try.params3] at hA hval
  obtain ⟨v0, vs0, d0, ds0, p0, q0, hargs, rfl, rfl, h0, r0⟩ := trodAll_cons hA
  obtain ⟨rfl, rfl, rfl⟩ := trodAll_nil r0
  obtain rfl : args = #[v0] := by cases args; simp_all
  obtain ⟨rfl, rfl⟩ := trodVars_none hV
  obtain ⟨a0, len0, c0, rfl⟩ := okWide_slice Try.underlying22 (hval 0 22 v0 rfl rfl)
  have k0 := h0
  have lt0 : ∀ x ∈ p0, x.block < W.heap.size := by obtain ⟨m, hm⟩ := k0; exact DataW.trod_lt m _ _ _ hm
  obtain ⟨f0, h0⟩ := h0
  obtain ⟨xs0, rfl, hc0, hm0, g0, s0⟩ := open_sl (sz := 1) (ec := byteC) Try.underlying22 (by kernel_rfl) (by omega) byteC_length (el_byte Try.underlying5) h0
  clear hA0 hval0
  refine (FnIsSubtable_walk a0 c0 xs0 W hc0 hm0 g0 s0).mono fun e W' ⟨he, bel⟩ => ?_
  subst he
  exact ⟨_, rfl, _, _, _, [], _, [], hW', trodAll_mk1 (shut_bool Try.underlying4 _), (trodAll_cons_mk (Below.trod laidOut (by kernel_rfl) (of_decide_eq_true (by kernel_rfl)) k0 bel lt0) trodAll_mk0), rfl, bel.frame _, fun h => by cases h⟩

theorem over : Rows.fnIsSubtableRow.holds Try.pinned (OpenSpec.ofChange Rows.fnIsSubtableSpec) :=
  OpenClaim.holds_of_wide 3 Try.f3 rfl rfl rfl rfl rfl rfl rfl ⟨rfl, rfl, rfl, rfl, rfl⟩ rfl rfl rfl rfl rfl (by kernel_rfl) Try.func3 (by kernel_rfl)
    (of_decide_eq_true (by kernel_rfl)) (by unfold Func.isWrapper; first | (rw [if_pos (by decide +kernel)]; kernel_rfl) | (rw [if_neg (by decide +kernel)]; exact ⟨rfl, rfl⟩))
    (fun os started H enc _ => lifted os started H enc)

theorem proved : Rows.FnIsSubtableSaid := over
end lawFnIsSubtable
#print axioms lawFnIsSubtable.proved

end Go.Proofs.Ytfjpmifdmpoocaa
