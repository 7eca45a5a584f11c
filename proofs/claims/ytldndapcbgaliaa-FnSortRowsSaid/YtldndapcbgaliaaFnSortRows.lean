/-
  FnSortRows returns true for all bytes and leaves them as they were. No condition.
-/
import Derived.Test.YtldndapcbgaliaaRows
import Derived.OpenShut
import Derived.Deep.RegionHeld3
import Derived.Deep.DeepCutAuto
import Derived.Test.YtldndapcbgaliaaTop
import Derived.Test.YtldndapcbgaliaaTopS
import Derived.Test.YtldndapcbgaliaaDraS
import Derived.Test.YtldndapcbgaliaaEqL
import Derived.Test.YtldndapcbgaliaaIsSrtI
import Derived.Test.YtldndapcbgaliaaTofI
import Derived.Test.YtldndapcbgaliaaSetQ
import Derived.Test.YtldndapcbgaliaaArgB
namespace Go.Proofs.Ytldndapcbgaliaa
open Go.RowKit Go.Qo
open Go.ChangeShapes Go.WideShapes Go.ChangeAt
set_option linter.unusedVariables false
set_option linter.unusedSimpArgs false

theorem sortK_srtP {W : Int} {keys : List Key} {rows : List Row1} (hT : TabOk W rows) (hk : KeysOk W keys) : IsSortedP keys (sortK keys rows) := by
  have hr := tabRows1 hT
  have hp := sortK_perm hk.1 hr
  have ho := sortK_ord hk.1 hr
  have hal : AllRows W (sortK keys rows) := fun r h => hr r (hp.mem_iff.1 h)
  intro r0 h0
  have hW : (r0.length : Int) = W := (hal r0 (List.mem_of_getElem? h0)).2
  rw [hW]
  refine ⟨hal, hk, fun i a b ha hb => ?_, by rw [sortK_length]; exact hT.2.2.1⟩
  have hi := (List.getElem?_eq_some_iff.1 hb)
  have hj := (List.getElem?_eq_some_iff.1 ha)
  have := List.pairwise_iff_getElem.1 ho i (i + 1) hj.1 hi.1 (by omega)
  rw [hj.2, hi.2] at this
  exact this
theorem sIns_none (x : Row1) : ∀ l : List Row1, sIns [] x l = l ++ [x]
  | [] => rfl
  | y :: ys => by
    have ih := sIns_none x ys
    show (if 0 < (0 : Int) then x :: y :: ys else y :: sIns [] x ys) = _
    rw [if_neg (by omega), ih]
    rfl
theorem sortK_none (rows : List Row1) : sortK [] rows = rows := by
  suffices H : ∀ n, sortK [] (rows.take n) = rows.take n by simpa using H rows.length
  intro n
  induction n with
  | zero => rfl
  | succ n ih =>
    rw [List.take_add_one]
    cases hx : rows[n]? with
    | none => simpa using ih
    | some x =>
      simp only [Option.toList_some]
      rw [sortK_snoc, ih, sIns_none]
theorem SomeRows.read {rows : List Row1} {w w' : World} {e : Ending} (h : SomeRows rows w e w') : ∃ A c, e = .returned (.slice A rows.length c) ∧ Rws w' w'.heap.size A rows ∧ Below w.heap.size w w' := by
  obtain ⟨v, svs, rfl, h1, h2, h3⟩ := h
  obtain ⟨A, c, rfl, _, _, h4⟩ := h1.shape svC_length
  have hl := h2.1
  exact ⟨A, c, by rw [hl], sls_of' h4.sl h2, h3⟩

set_option maxRecDepth 20000 in
set_option maxHeartbeats 2000000 in
theorem FnSortRows_walk (A : Option Addr) (c : Nat) (xs : List Int) (w : World) (hc : xs.length ≤ c) (hm : c ≤ maxLen) (hg : ∀ x ∈ xs, 0 ≤ x ∧ x ≤ 255) (h : Sl 1 byteC w w.heap.size A xs) :
    Calls Try.prog 3 #[.slice A xs.length c] w fun e w' => e = .returned (.bool true) ∧ Below w.heap.size w w' := by
  have HD := Lib.hid (drawSortRows_ok A c xs w hc hm hg h)
  have hx63 : xs.length ≤ 9223372036854775807 := by unfold maxLen at hm; omega
  clear h hg hc hm
  by_cases hx : (1048576 : Int) < xs.length
  · clear HD
    go_enter Try.func3, Try.ntmps3
    go_wp2
    go_ret
    exact ⟨rfl, Below.refl _ _⟩
  go_enter Try.func3, Try.ntmps3
  go_wp2_with fail
  refine HD.out.mono ?_
  rintro e w3 ⟨W, v3, v4, rfl, svs, rows, keys, hW, hrl, hkl, hrw, how3, hrt3, how4, hb3⟩
  obtain ⟨A3, c3, rfl, hc31, hc32, hs3⟩ := how3.shape svC_length
  obtain ⟨A4, c4, rfl, hc41, hc42, hs4⟩ := how4.shape keyC_length
  have hsl : svs.length = rows.length := hrt3.1
  rw [hsl]
  obtain ⟨d, hd⟩ : ∃ d : Bool, d = true ↔ (TabOk W rows ∧ KeysOk W keys) := ⟨_, @decide_eq_true_iff _ (Classical.propDecidable _)⟩
  obtain ⟨out, hout⟩ : ∃ out, (if d then sortK keys rows else []) = out := ⟨_, rfl⟩
  have RR := Lib.hid (fun (z : World) (hz : Below w3.heap.size w3 z) => show Rws z z.heap.size A3 rows from (sls_of' hs3.sl hrt3).on hz)
  have RK := Lib.hid (fun (z : World) (hz : Below w3.heap.size w3 z) => show Sl 2 keyC z z.heap.size A4 keys from hs4.sl.on hz)
  have KI := Lib.hid (fun (z : World) (hz : Below w3.heap.size w3 z) => implSortRows_ok W A3 A4 c3 c4 rows keys z (by omega) (by omega) (RR.out z hz) (RK.out z hz) d hd out hout)
  have KS := fun (z : World) (hz : Below w3.heap.size w3 z) => specSortRowsT_ok W A3 A4 c3 c4 rows keys z (by omega) (by omega) (RR.out z hz) (RK.out z hz) d hd
  rw [hout] at KS
  have KS := Lib.hid KS
  have hol : out.length ≤ 16 := by
    rw [← hout]; split
    · rw [sortK_length]; exact hrl
    · simp
  have HDD := Lib.hid (And.intro hd hout)
  have HB3 := Lib.hid hb3
  obtain ⟨W3, hW3⟩ : ∃ z, w3.alloc (.cells #[.int .i64 W, .slice A3 rows.length c3] 25) = z := ⟨_, rfl⟩
  have B3 := Lib.hid (show Below w3.heap.size w3 W3 from hW3 ▸ balloc (Below.refl _ _) _)
  have R3 := Lib.hid (show Row W3 w3.heap.size 25 [.int .i64 W, .slice A3 rows.length c3] from hW3 ▸ Row.new _ _ _)
  have HW3 := Lib.hid hW3
  have BX := Lib.hid (fun (z : World) (hz : Below W3.heap.size W3 z) => show (z.cell? ⟨w3.heap.size, 0, none⟩ = some (.int .i64 W) ∧ z.cell? ⟨w3.heap.size, 1, none⟩ = some (.slice A3 rows.length c3)) from ⟨(R3.out.on hz).cell 0, (R3.out.on hz).cell 1⟩)
  have HRL := Lib.hid hrl
  clear how3 how4 hrt3 hs3 hs4 hb3 hrw hsl hd hout hW3 hc31 hc32 hc41 hc42 hrl
  have z3 := BX.out _ (Below.refl _ _)
  go_upto_region 4 with fail
  rw [HW3.out]
  go_wp2_with fail
  refine (KI.out _ B3.out).mono ?_
  intro e w4 hsm
  obtain ⟨A5, c5, rfl, hr5, hb4⟩ := SomeRows.read hsm
  have H4 := Lib.hid (And.intro hb4 hr5)
  have z4 := BX.out _ hb4
  clear hsm hr5 hb4 z3
  go_wp2_with fail
  refine (KS.out _ (bch B3.out H4.out.1)).mono ?_
  intro e w5 hsm
  obtain ⟨A6, c6, rfl, hr6, hb5⟩ := SomeRows.read hsm
  have HE := Lib.hid (equalBagsT_ok (A := A5) (A' := A6) (c := c5) (c' := c6) (n := out.length) (n' := out.length) (w := w5) rfl rfl (by omega) (H4.out.2.on hb5) hr6)
  have H5 := Lib.hid (And.intro (bch H4.out.1 hb5) (H4.out.2.on hb5))
  clear hsm hr6 hb5 z4
  go_wp2_with fail
  refine HE.out.mono ?_
  rintro e w6 ⟨rfl, hb6⟩
  have H6 := Lib.hid (And.intro (bch H5.out.1 hb6) (H5.out.2.on hb6))
  have z6 := BX.out _ H6.out.1
  clear hb6
  rcases Nat.eq_zero_or_pos out.length with hz | hz
  · have hz0 : ((out.length : Int) == 0) = true := by simp [hz]
    clear hz
    go_wp2_with fail
    refine (KS.out _ (bch B3.out H6.out.1)).mono ?_
    intro e w7 hsm
    obtain ⟨A7, c7, rfl, hr7, hb7⟩ := SomeRows.read hsm
    have HE := Lib.hid (equalBagsT_ok (A := A5) (A' := A7) (c := c5) (c' := c7) (n := out.length) (n' := out.length) (w := w7) rfl rfl (by omega) (H6.out.2.on hb7) hr7)
    have H7 := Lib.hid (bch H6.out.1 hb7)
    clear hsm hr7 hb7 z6
    go_wp2_with fail
    refine HE.out.mono ?_
    rintro e w8 ⟨rfl, hb8⟩
    have H8 := Lib.hid (bch H7.out hb8)
    clear hb8
    go_wp2
    go_ret
    exact ⟨rfl, bch HB3.out (bch B3.out H8.out)⟩
  · have hz0 : ((out.length : Int) == 0) = false := by rw [beq_eq_false_iff_ne]; omega
    have hd1 : d = true := by
      cases d with
      | true => rfl
      | false =>
        have h0 : [] = out := HDD.out.2
        rw [← h0] at hz
        simp at hz
    obtain ⟨hT, hK⟩ := HDD.out.1.1 hd1
    have ho : sortK keys rows = out := by have := HDD.out.2; rwa [hd1] at this
    have hp : out.Perm rows := by rw [← ho]; exact sortK_perm hK.1 (tabRows1 hT)
    have hro : ∀ r ∈ out, RowOk W r := fun r hr => tabRows1 hT r (hp.mem_iff.1 hr)
    have HT := Lib.hid (And.intro hT (And.intro hp hro))
    have KT := Lib.hid (implTableOf_ok W A5 c5 out w6 hT.1 hT.2.1 (by omega) hro H6.out.2)
    have KO := Lib.hid (fun (z : World) (hz : Below w3.heap.size w3 z) (hr : Rws z z.heap.size A5 out) => implIsSorted_ok A5 A4 c5 c4 out keys z (by omega) (by omega) hr (RK.out z hz) true (iff_of_true rfl (by rw [← ho]; exact sortK_srtP hT hK)))
    have KN := Lib.hid (fun (A0 : Option Addr) (z : World) (hz : Below w3.heap.size w3 z) => show Calls Try.prog 13 #[.agg #[.int .i64 W, .slice A3 rows.length c3], .slice A0 0 0] z (SomeRows rows z) from
      implSortRows_ok W A3 A0 c3 0 rows [] z (by have := HRL.out; omega) (by simp) (RR.out z hz) Sl.nil true (iff_of_true rfl ⟨hT, ⟨fun k hk => by simp at hk, fun i j x y _ hx => by simp at hx⟩⟩) rows (by simp [sortK_none]))
    clear hz hd1 hT hK ho hp hro
    go_wp2_with fail
    refine KT.out.mono ?_
    intro e w8 htr
    obtain ⟨W8, A8, c8, out8, rfl, hT8, hr8, _, _, hb8⟩ := TabRes.read2 htr
    obtain ⟨rfl, hp8, ho8⟩ := tabC_ok2 HT.out.1 HT.out.2.2 (by omega) hT8
    have h0 : rows = out8 := cnt_eq HT.out.1 ho8 fun z _ => by rw [cnt_perm hp8, cnt_perm HT.out.2.1]
    subst h0
    obtain ⟨V8, hV8⟩ : ∃ z, w8.alloc (.cells #[.int .i64 W8, .slice A8 rows.length c8] 25) = z := ⟨_, rfl⟩
    have hv8 : Below w8.heap.size w8 V8 := by rw [← hV8]; exact balloc (Below.refl _ _) _
    have xv8 : Row V8 w8.heap.size 25 [.int .i64 W8, .slice A8 rows.length c8] := by rw [← hV8]; exact Row.new _ _ _
    have H8 := Lib.hid (And.intro (bch H6.out.1 (bch hb8 hv8)) (And.intro xv8 (And.intro (hr8.on hv8) (H6.out.2.on (bch hb8 hv8)))))
    have HV8 := Lib.hid hV8
    clear htr hT8 hr8 hb8 hV8 hv8 xv8 z6 hp8 ho8
    go_upto_region 8 with fail
    rw [HV8.out]
    have BY := Lib.hid (fun (z : World) (hz : Below V8.heap.size V8 z) => show ((z.cell? ⟨w3.heap.size, 0, none⟩ = some (.int .i64 W8) ∧ z.cell? ⟨w3.heap.size, 1, none⟩ = some (.slice A3 rows.length c3)) ∧ (z.cell? ⟨w8.heap.size, 0, none⟩ = some (.int .i64 W8) ∧ z.cell? ⟨w8.heap.size, 1, none⟩ = some (.slice A8 rows.length c8))) from
      ⟨BX.out z (bch H8.out.1 hz), ⟨(H8.out.2.1.on hz).cell 0, (H8.out.2.1.on hz).cell 1⟩⟩)
    have KE := Lib.hid (fun (z : World) (hz : Below V8.heap.size V8 z) => equalTables_ok W8 W8 A8 A3 c8 c3 rows rows z (by have := HRL.out; unfold maxLen; omega) (by have := HRL.out; unfold maxLen; omega) (H8.out.2.2.1.on hz) (RR.out z (bch B3.out (bch H8.out.1 hz))) true (by simp))
    have KB := Lib.hid (fun (A0 : Option Addr) (c0 : Nat) (z : World) (hz : Below V8.heap.size V8 z) (hr : Rws z z.heap.size A0 rows) => equalBagsT_ok (A := A0) (A' := A3) (c := c0) (c' := c3) (n := rows.length) (n' := rows.length) (w := z) rfl rfl (by have := HRL.out; omega) hr (RR.out z (bch B3.out (bch H8.out.1 hz))))
    have D8 := Lib.hid (show Below V8.heap.size V8 V8.drew from (Below.refl _ _).drew)
    have x8 := BY.out _ D8.out
    go_region_held3 (fun z => (z.cell? ⟨w3.heap.size, 0, none⟩ = some (.int .i64 W8) ∧ z.cell? ⟨w3.heap.size, 1, none⟩ = some (.slice A3 rows.length c3)) ∧ (z.cell? ⟨w8.heap.size, 0, none⟩ = some (.int .i64 W8) ∧ z.cell? ⟨w8.heap.size, 1, none⟩ = some (.slice A8 rows.length c8)))
      (first | assumption | exact BY.out _ D8.out | exact BY.out _ H10.out | exact BY.out _ H11.out | exact BY.out _ (balloc H11.out _) | exact BY.out _ (balloc H11.out _).drew | exact BY.out _ H12.out | exact BY.out _ H13.out)
      (first
        | (go_at_call 14; refine (KB.out _ _ _ H12.out G12.out).mono ?_; rintro e w13 ⟨rfl, hb13⟩; have H13 := Lib.hid (bch H12.out hb13); have x13 := BY.out _ H13.out; clear hb13)
        | (go_at_call 13; refine Calls.mono (KN.out _ _ (by first | exact bch B3.out (bch H8.out.1 (balloc H11.out _)) | exact bch B3.out (bch H8.out.1 (balloc H11.out _).drew) | exact bch B3.out (bch H8.out.1 H11.out))) ?_; intro e w12 hsm; obtain ⟨A12, c12, rfl, hr12, hb12⟩ := SomeRows.read hsm; have H12 : Hid (Below V8.heap.size V8 w12) := Lib.hid (by first | exact bch (balloc H11.out _) hb12 | exact bch (balloc H11.out _).drew hb12 | exact bch H11.out hb12); have x12 := BY.out _ H12.out; have G12 := Lib.hid hr12; clear hsm hr12 hb12)
        | (go_at_call 18; refine (KE.out _ H10.out).mono ?_; rintro e w11 ⟨rfl, hb11⟩; have H11 := Lib.hid (bch H10.out hb11); have x11 := BY.out _ H11.out; clear hb11)
        | (go_at_call 17; refine (KO.out _ (bch B3.out (bch H8.out.1 D8.out)) (H8.out.2.2.2.on D8.out)).mono ?_; rintro e w10 ⟨rfl, hb10⟩; have H10 := Lib.hid (bch D8.out hb10); have x10 := BY.out _ H10.out; clear hb10))
    all_goals (
      go_wp2
      go_ret
      exact ⟨rfl, bch HB3.out (bch B3.out (bch H8.out.1 H13.out))⟩)

namespace lawFnSortRows
theorem own : ownKnob Try.prog.godebug = none := by kernel_rfl
theorem laidOut : laidOutB Try.prog = true := by kernel_rfl

set_option maxRecDepth 100000 in
theorem lifted (os : Os) (started : os.Started) (H : Type) (enc : TypeId × Value → H) :
    ReturnsInHanded {} Try.checked os 3 .any (Rows.fnSortRowsSpec.pre6 enc Try.prog Try.f3 Rows.fnSortRowsRow.domain false) (Rows.fnSortRowsSpec.post enc Try.prog Try.f3 false true false false) := by
  refine returnsInHanded_of_change (C := Try.checked) own started (by kernel_rfl) Try.func3
    (ChangeSpec.witness6 (enc := enc) (C := Try.checked) false ⟨#[], #[.slice none 0 0], []⟩ 8 (by kernel_rfl) (by kernel_rfl) (by kernel_rfl) (by kernel_rfl)) ?_
  intro W base args ds gs before hval0 hW hcnd _
  have hval : ∀ (j : Nat) t v, Try.f3.params[j]? = some t → args[j]? = some v → Value.okWide Try.prog W .any base t v := hval0
  have hW' := hW
  obtain ⟨p, q, hA0, hV, rfl, hfz, hnd⟩ := hW
  have hA : DataW.TrodAll enc Try.prog W 0 (fun _ => true) true Try.f3.params.toList args.toList ds p := hA0
  rw [Try.params3] at hA hval
  obtain ⟨v0, vs0, d0, ds0, p0, q0, hargs, rfl, rfl, h0, r0⟩ := trodAll_cons hA
  obtain ⟨rfl, rfl, rfl⟩ := trodAll_nil r0
  obtain rfl : args = #[v0] := by cases args; simp_all
  obtain ⟨rfl, rfl⟩ := trodVars_none hV
  obtain ⟨a0, len0, c0, rfl⟩ := okWide_slice Try.underlying22 (hval 0 22 v0 rfl rfl)
  have k0 := h0
  have lt0 : ∀ x ∈ p0, x.block < W.heap.size := by obtain ⟨m, hm⟩ := k0; exact DataW.trod_lt m _ _ _ hm
  obtain ⟨f0, h0⟩ := h0
  obtain ⟨xs0, rfl, hc0, hm0, g0, s0⟩ := open_sl (sz := 1) (ec := byteC) Try.underlying22 (by kernel_rfl) (by omega) byteC_length (el_byte Try.underlying5) h0
  clear hA0 hval0
  refine (FnSortRows_walk a0 c0 xs0 W hc0 hm0 g0 s0).mono fun e W' ⟨he, bel⟩ => ?_
  subst he
  exact ⟨_, rfl, _, _, _, [], _, [], hW', trodAll_mk1 (shut_bool Try.underlying4 _), (trodAll_cons_mk (Below.trod laidOut (by kernel_rfl) (of_decide_eq_true (by kernel_rfl)) k0 bel lt0) trodAll_mk0), rfl, bel.frame _, fun h => by cases h⟩

theorem over : Rows.fnSortRowsRow.holds Try.pinned (OpenSpec.ofChange Rows.fnSortRowsSpec) :=
  OpenClaim.holds_of_wide 3 Try.f3 rfl rfl rfl rfl rfl rfl rfl ⟨rfl, rfl, rfl, rfl, rfl⟩ rfl rfl rfl rfl rfl (by kernel_rfl) Try.func3 (by kernel_rfl)
    (of_decide_eq_true (by kernel_rfl)) (by unfold Func.isWrapper; first | (rw [if_pos (by decide +kernel)]; kernel_rfl) | (rw [if_neg (by decide +kernel)]; exact ⟨rfl, rfl⟩))
    (fun os started H enc _ => lifted os started H enc)

theorem proved : Rows.FnSortRowsSaid := over
end lawFnSortRows
#print axioms lawFnSortRows.proved

end Go.Proofs.Ytldndapcbgaliaa
