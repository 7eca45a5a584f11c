/-
  FnBucketSizes returns true for all bytes and leaves them as they were. No condition.
-/
import Derived.Test.YtldndapcbgaliaaRows
import Derived.OpenShut
import Derived.Test.YtldndapcbgaliaaBkI
import Derived.Test.YtldndapcbgaliaaBkE
import Derived.Test.YtldndapcbgaliaaIdx
import Derived.Test.YtldndapcbgaliaaIntE
import Derived.Test.YtldndapcbgaliaaDraB
import Derived.Test.YtldndapcbgaliaaSetQ
import Derived.Test.YtldndapcbgaliaaArgB
namespace Go.Proofs.Ytldndapcbgaliaa
open Go.RowKit Go.Qo
open Go.ChangeShapes Go.WideShapes Go.ChangeAt
set_option linter.unusedVariables false
set_option linter.unusedSimpArgs false

set_option maxRecDepth 20000 in
set_option maxHeartbeats 4000000 in
theorem FnBucketSizes_walk (A : Option Addr) (c : Nat) (xs : List Int) (w : World) (hc : xs.length ≤ c) (hm : c ≤ maxLen) (hg : ∀ x ∈ xs, 0 ≤ x ∧ x ≤ 255) (h : Sl 1 byteC w w.heap.size A xs) :
    Calls Try.prog 9 #[.slice A xs.length c] w fun e w' => e = .returned (.bool true) ∧ Below w.heap.size w w' := by
  have HD := Lib.hid (dDrawBucketSizes_ok A c xs w hc hm hg h)
  have hx63 : xs.length ≤ 9223372036854775807 := by unfold maxLen at hm; omega
  clear h hg hc hm
  by_cases hx : (1048576 : Int) < xs.length
  · clear HD
    go_enter Try.func9, Try.ntmps9
    go_wp2
    go_ret
    exact ⟨rfl, Below.refl _ _⟩
  go_enter Try.func9, Try.ntmps9
  go_wp2_with fail
  refine HD.out.mono ?_
  rintro e w3 ⟨W1, v1, col, nb, rfl, svs1, rows1, hd1, hb3⟩
  obtain ⟨A1, c1, rfl, hc11, hc12, hs1, ht1, hl1, hr1⟩ := hd1.read
  obtain ⟨q, hq⟩ : ∃ q : Bool, q = true ↔ BkOk W1 col nb rows1 := ⟨_, @decide_eq_true_iff _ (Classical.propDecidable _)⟩
  have HQ := Lib.hid hq
  have R1 := Lib.hid (fun (z : World) (hz : Below w3.heap.size w3 z) => show Rws z z.heap.size A1 rows1 from (sls_of' hs1 ht1).on hz)
  obtain ⟨ns, hns⟩ : ∃ ns, (if q then bSizes col nb.toNat rows1 else []) = ns := ⟨_, rfl⟩
  have K1 := Lib.hid (fun (z : World) (hz : Below w3.heap.size w3 z) => implBucketSizes_ok W1 col nb A1 c1 rows1 z (by omega) (R1.out z hz) q HQ.out)
  have K2 := Lib.hid (fun (z : World) (hz : Below w3.heap.size w3 z) => specBucketSizes_ok W1 col nb A1 c1 rows1 z (by omega) (R1.out z hz) q HQ.out)
  rw [hns] at K1 K2
  have HNS : Hid (ns.length ≤ 1000 ∧ (∀ x ∈ ns, 0 ≤ x ∧ x ≤ 400) ∧ (0 < ns.length → (TabOk W1 rows1 ∧ 0 ≤ col ∧ col < W1) ∧ (ns.length : Int) = nb ∧ ns.sum = ((idxOf rows1 col.toNat).length : Int))) := Lib.hid (by
    rw [← hns]
    cases hq1 : q
    · simp
    · obtain ⟨h1, h2, h3, h4⟩ := HQ.out.1 hq1
      rw [if_pos rfl, bSizes_length]
      refine ⟨by omega, fun x hx => ?_, fun _ => ⟨⟨h1, h2⟩, by omega, ?_⟩⟩
      · unfold bSizes at hx
        obtain ⟨k, _, rfl⟩ := List.mem_map.1 hx
        have : (bRows col nb.toNat rows1 k).length ≤ rows1.length := List.length_filter_le _ _
        omega
      · rw [bSizes_sum col nb.toNat (by omega), idxOf_count]
        rfl)
  have HI := Lib.hid (fun (z : World) (hz : Below w3.heap.size w3 z) (hT : TabOk W1 rows1 ∧ 0 ≤ col ∧ col < W1) => implIndexOf_ok W1 col A1 c1 rows1 z (by omega) (R1.out z hz) true (iff_of_true rfl hT))
  simp only [if_true] at HI
  have hn1000 := HNS.out.1
  obtain ⟨W5, hW5⟩ : ∃ z, w3.alloc (.cells #[.int .i64 W1, .slice A1 rows1.length c1] 25) = z := ⟨_, rfl⟩
  have B5 : Below w3.heap.size w3 W5 := by rw [← hW5]; exact balloc (Below.refl _ _) _
  have x1 : Row W5 w3.heap.size 25 [.int .i64 W1, .slice A1 rows1.length c1] := by rw [← hW5]; exact Row.new _ _ _
  have BX := Lib.hid (fun (z : World) (hz : Below W5.heap.size W5 z) => show (z.cell? ⟨w3.heap.size, 0, none⟩ = some (.int .i64 W1) ∧ z.cell? ⟨w3.heap.size, 1, none⟩ = some (.slice A1 rows1.length c1)) from ⟨(x1.on hz).cell 0, (x1.on hz).cell 1⟩)
  have HB3 := Lib.hid (And.intro hb3 B5)
  have HW5 := Lib.hid hW5
  have z5 := BX.out _ (Below.refl _ _)
  clear hd1 hb3 hs1 ht1 hr1 hq x1 B5 hW5 hc11 hc12 hns
  go_upto_region 4 with fail
  rw [HW5.out]
  go_wp2_with fail
  refine (K1.out _ HB3.out.2).mono ?_
  rintro e w6 ⟨v6, rfl, how6, hb6⟩
  obtain ⟨A6, c6, rfl, hc61, hc62, hs6⟩ := how6.shape intC_length
  have H6 := Lib.hid (And.intro hb6 hs6.sl)
  have HC6 := Lib.hid (And.intro hc61 hc62)
  clear how6 hs6 hb6 hc61 hc62 z5
  have z6 := BX.out _ H6.out.1
  go_wp2_with fail
  refine (K2.out _ (bch HB3.out.2 H6.out.1)).mono ?_
  rintro e w7 ⟨v7, rfl, how7, hb7⟩
  obtain ⟨A7, c7, rfl, _, _, hs7⟩ := how7.shape intC_length
  have KE := Lib.hid (equalInts_ok A6 A7 c6 c7 ns ns w7 (by unfold maxLen; omega) (by unfold maxLen; omega) (H6.out.2.on hb7) hs7.sl)
  simp only [decide_true] at KE
  have H7 := Lib.hid (bch H6.out.1 hb7)
  have HB7 := Lib.hid hb7
  clear how7 hs7 hb7
  have z7 := BX.out _ H7.out
  go_wp2_with fail
  refine KE.out.mono ?_
  rintro e w8 ⟨rfl, hb8⟩
  have H8 := Lib.hid (bch H7.out hb8)
  have S8 := Lib.hid (H6.out.2.on (bch HB7.out hb8))
  clear hb8 KE z6 z7
  have z8 := BX.out _ H8.out
  by_cases hne : ns.length = 0
  · have hE : (((ns.length : Nat) : Int) == 0) = true := by simp [hne]
    clear hne
    go_wp2_with fail
    refine (K2.out _ (bch HB3.out.2 H8.out)).mono ?_
    rintro e w9 ⟨v9, rfl, how9, hb9⟩
    obtain ⟨A9, c9, rfl, _, _, hs9⟩ := how9.shape intC_length
    have KE := Lib.hid (equalInts_ok A6 A9 c6 c9 ns ns w9 (by unfold maxLen; omega) (by unfold maxLen; omega) (S8.out.on hb9) hs9.sl)
    simp only [decide_true] at KE
    have H9 := Lib.hid (bch H8.out hb9)
    clear how9 hs9 hb9
    have z9 := BX.out _ H9.out
    go_wp2_with fail
    refine KE.out.mono ?_
    rintro e w10 ⟨rfl, hb10⟩
    have H10 := Lib.hid (bch H9.out hb10)
    clear hb10
    go_wp2
    go_ret
    exact ⟨rfl, bch HB3.out.1 (bch HB3.out.2 H10.out)⟩
  · have hE : (((ns.length : Nat) : Int) == 0) = false := by simp only [beq_eq_false_iff_ne, ne_eq]; omega
    obtain ⟨hT, hnb, hsum⟩ := HNS.out.2.2 (by omega)
    have hb1 : (((ns.length : Nat) : Int) == nb) = true := by simp [hnb]
    obtain ⟨L, hL⟩ : ∃ L, idxOf rows1 col.toNat = L := ⟨_, rfl⟩
    rw [hL] at HI hsum
    have HT := Lib.hid (And.intro hT (And.intro hnb hsum))
    clear hne hT hnb hsum hL
    go_wp2
    go_loopg [7, 8] ns.length (fun g tv iv wr => ∃ (i : Nat) (tot : Int), i ≤ ns.length ∧ g = ns.length - i ∧ tv = .int .i64 tot ∧ iv = .int .i64 i ∧ 0 ≤ tot ∧ tot ≤ 400 * i ∧ tot = (ns.take i).sum ∧ w8 = wr)
    case atStart => exact ⟨0, 0, by omega, by omega, rfl, rfl, by omega, by omega, by simp, rfl⟩
    case round =>
      obtain ⟨i, tot, hi, rfl, rfl, rfl, ht0, ht1, hts, rfl⟩ := hrel
      have HTS := Lib.hid hts
      clear hts
      by_cases hlt : i < ns.length
      · obtain ⟨g6, o6, hA6, hB6, cc⟩ := Ints.at_ S8.out hlt
        subst hA6
        have hy := Lib.hid (List.getElem?_eq_getElem hlt)
        have hxb := HNS.out.2.1 _ (List.getElem_mem hlt)
        generalize ns[i] = x at *
        have hx0 := hxb.1
        have hx1 := hxb.2
        have hil : (i : Int) < (ns.length : Int) := by omega
        have hwr : IntKind.i64.wrap (tot + x) = tot + x := IntWalk.i64_in _ (by omega)
        clear hxb
        go_wp2
        go_roundg (ns.length - (i + 1))
        case measure => omega
        case rel => exact ⟨i + 1, tot + x, by omega, rfl, rfl, by go_num, by omega, by omega, by rw [List.take_add_one, hy.out, List.sum_append, ← HTS.out]; simp, rfl⟩
      · have hie : i = ns.length := by omega
        have htl : tot = (L.length : Int) := by rw [HTS.out, hie, List.take_length, HT.out.2.2]
        have hb2 : (tot == ((L.length : Nat) : Int)) = true := by simp [htl]
        clear hie htl hi ht1
        go_wp2_with fail
        refine (HI.out _ (bch HB3.out.2 H8.out) HT.out.1).mono ?_
        rintro e w13 ⟨v13, rfl, how13, hb13⟩
        obtain ⟨A13, d13, rfl, _, _, _⟩ := how13.shape intC_length
        have H13 := Lib.hid (bch H8.out hb13)
        clear how13 hb13
        go_wp2
        go_ret
        exact ⟨rfl, bch HB3.out.1 (bch HB3.out.2 H13.out)⟩

namespace lawFnBucketSizes
theorem own : ownKnob Try.prog.godebug = none := by kernel_rfl
theorem laidOut : laidOutB Try.prog = true := by kernel_rfl

set_option maxRecDepth 100000 in
theorem lifted (os : Os) (started : os.Started) (H : Type) (enc : TypeId × Value → H) :
    ReturnsInHanded {} Try.checked os 9 .any (Rows.fnBucketSizesSpec.pre6 enc Try.prog Try.f9 Rows.fnBucketSizesRow.domain false) (Rows.fnBucketSizesSpec.post enc Try.prog Try.f9 false true false false) := by
  refine returnsInHanded_of_change (C := Try.checked) own started (by kernel_rfl) Try.func9
    (ChangeSpec.witness6 (enc := enc) (C := Try.checked) false ⟨#[], #[.slice none 0 0], []⟩ 8 (by kernel_rfl) (by kernel_rfl) (by kernel_rfl) (by kernel_rfl)) ?_
  intro W base args ds gs before hval0 hW hcnd _
  have hval : ∀ (j : Nat) t v, Try.f9.params[j]? = some t → args[j]? = some v → Value.okWide Try.prog W .any base t v := hval0
  have hW' := hW
  obtain ⟨p, q, hA0, hV, rfl, hfz, hnd⟩ := hW
  have hA : DataW.TrodAll enc Try.prog W 0 (fun _ => true) true Try.f9.params.toList args.toList ds p := hA0
  rw [Try.params9] at hA hval
  obtain ⟨v0, vs0, d0, ds0, p0, q0, hargs, rfl, rfl, h0, r0⟩ := trodAll_cons hA
  obtain ⟨rfl, rfl, rfl⟩ := trodAll_nil r0
  obtain rfl : args = #[v0] := by cases args; simp_all
  obtain ⟨rfl, rfl⟩ := trodVars_none hV
  obtain ⟨a0, len0, c0, rfl⟩ := okWide_slice Try.underlying22 (hval 0 22 v0 rfl rfl)
  have k0 := h0
  have lt0 : ∀ x ∈ p0, x.block < W.heap.size := by obtain ⟨m, hm⟩ := k0; exact DataW.trod_lt m _ _ _ hm
  obtain ⟨f0, h0⟩ := h0
  obtain ⟨xs0, rfl, hc0, hm0, g0, s0⟩ := open_sl (sz := 1) (ec := byteC) Try.underlying22 (by kernel_rfl) (by omega) byteC_length (el_byte Try.underlying5) h0
  clear hA0 hval0
  refine (FnBucketSizes_walk a0 c0 xs0 W hc0 hm0 g0 s0).mono fun e W' ⟨he, bel⟩ => ?_
  subst he
  exact ⟨_, rfl, _, _, _, [], _, [], hW', trodAll_mk1 (shut_bool Try.underlying4 _), (trodAll_cons_mk (Below.trod laidOut (by kernel_rfl) (of_decide_eq_true (by kernel_rfl)) k0 bel lt0) trodAll_mk0), rfl, bel.frame _, fun h => by cases h⟩

theorem over : Rows.fnBucketSizesRow.holds Try.pinned (OpenSpec.ofChange Rows.fnBucketSizesSpec) :=
  OpenClaim.holds_of_wide 9 Try.f9 rfl rfl rfl rfl rfl rfl rfl ⟨rfl, rfl, rfl, rfl, rfl⟩ rfl rfl rfl rfl rfl (by kernel_rfl) Try.func9 (by kernel_rfl)
    (of_decide_eq_true (by kernel_rfl)) (by unfold Func.isWrapper; first | (rw [if_pos (by decide +kernel)]; kernel_rfl) | (rw [if_neg (by decide +kernel)]; exact ⟨rfl, rfl⟩))
    (fun os started H enc _ => lifted os started H enc)

theorem proved : Rows.FnBucketSizesSaid := over
end lawFnBucketSizes
#print axioms lawFnBucketSizes.proved

end Go.Proofs.Ytldndapcbgaliaa
