/-
  FnEstimateFilter returns true for all bytes and leaves them as they were. No condition.
-/
import Derived.Test.YtnecmacjlggkeaaRows
import Derived.OpenShut
import Derived.Test.YtnecmacjlggkeaaDrE
import Derived.Test.YtnecmacjlggkeaaEsb
import Derived.Test.YtnecmacjlggkeaaTwF
import Derived.Test.YtnecmacjlggkeaaRgG
import Derived.Test.YtnecmacjlggkeaaArgB
namespace Go.Proofs.Ytnecmacjlggkeaa
open Go.RowKit Go.Qo
open Go.ChangeShapes Go.WideShapes Go.ChangeAt
set_option linter.unusedVariables false
set_option linter.unusedSimpArgs false

/-- A filter above a plan does not raise the estimate. -/
theorem es_fil {ss : List St} {p : Pl} {x : Ex} (h : 0 ≤ erP ss p) : erP ss (.mk 2 0 [x] [] [p]) ≤ erP ss p := by
  have hok : esOk ss p := Classical.byContradiction fun hn => by rw [erP_no hn] at h; omega
  by_cases hf : esOk ss (.mk 2 0 [x] [] [p])
  · rw [erP_yes hf, erP_yes hok, est_eq]
    have hr := est_range hok.1 p
    have hq : 0 ≤ fltP ss x p ∧ fltP ss x p ≤ 1000 := by
      unfold fltP
      split
      · exact (stAt_ok hok.1 _).2 x
      · exact fixed_range x
    have h2 := scale_le hr.1 hq
    have : topE ss 2 0 [x] 0 [p] [p.est ss] = p.est ss * fltP ss x p / 1000 := by
      unfold topE
      rw [if_neg (by decide), if_pos rfl]
      rfl
    have e : topE ss (Pl.mk 2 0 [x] [] [p]).kind (Pl.mk 2 0 [x] [] [p]).table (Pl.mk 2 0 [x] [] [p]).exprs (Pl.mk 2 0 [x] [] [p]).cols.length (Pl.mk 2 0 [x] [] [p]).kids ((Pl.mk 2 0 [x] [] [p]).kids.map (Pl.est ss)) = p.est ss * fltP ss x p / 1000 := this
    rw [e]
    omega
  · rw [erP_no hf]; omega
/-- Distinct keeps the estimate, if the plan is valid. -/
theorem es_dis {ss : List St} {p : Pl} (h : 0 ≤ erP ss p) : erP ss (.mk 7 0 [] [] [p]) < 0 ∨ erP ss (.mk 7 0 [] [] [p]) = erP ss p := by
  have hok : esOk ss p := Classical.byContradiction fun hn => by rw [erP_no hn] at h; omega
  by_cases hf : esOk ss (.mk 7 0 [] [] [p])
  · right
    rw [erP_yes hf, erP_yes hok, est_eq]
    show topE ss 7 0 [] 0 [p] [p.est ss] = _
    unfold topE
    rw [if_neg (by decide), if_neg (by decide), if_neg (by decide), if_neg (by decide), if_neg (by decide), if_neg (by decide)]
    rfl
  · left; rw [erP_no hf]; omega
set_option maxRecDepth 20000 in
set_option maxHeartbeats 4000000 in
theorem FnEstimateFilter_walk (A : Option Addr) (c : Nat) (xs : List Int) (w : World) (hc : xs.length ≤ c) (hm : c ≤ maxLen) (hg : ∀ x ∈ xs, 0 ≤ x ∧ x ≤ 255) (h : Sl 1 byteC w w.heap.size A xs) :
    Calls Try.prog 4 #[.slice A xs.length c] w fun e w' => e = .returned (.bool true) ∧ Below w.heap.size w w' := by
  have HD := Lib.hid (drawEstimateRows_ok A c xs w hc hm hg h)
  have hx63 : xs.length ≤ 9223372036854775807 := by unfold maxLen at hm; omega
  clear h hg hc hm
  by_cases hx : (1048576 : Int) < xs.length
  · clear HD
    go_enter Try.func4, Try.ntmps4
    go_wp2
    go_ret
    exact ⟨rfl, Below.refl _ _⟩
  go_enter Try.func4, Try.ntmps4
  go_wp2_with fail
  refine HD.out.mono ?_
  rintro e w3 ⟨pf, px, A2, m, c2, fs, ss, rfl, hpt, ho, hst, hsl, hm, hsm, hb3⟩
  subst hsl
  unfold fpV
  obtain ⟨R, hR⟩ : ∃ R, erP ss px = R := ⟨_, rfl⟩
  obtain ⟨W4, hW4⟩ : ∃ z, w3.alloc (.cells #[.int .i64 pf.kind, .int .i64 pf.table, .slice pf.es.A pf.es.n pf.es.c, .slice pf.cs.A pf.cs.n pf.cs.c, .slice pf.ks.A pf.ks.n pf.ks.c] 27) = z := ⟨_, rfl⟩
  have B4 : Below w3.heap.size w3 W4 := by rw [← hW4]; exact balloc (Below.refl _ _) _
  have r4 : Row W4 w3.heap.size 27 (fpC pf) := by rw [← hW4]; exact Row.new _ _ _
  have BX := Lib.hid (fun (z : World) (hz : Below W4.heap.size W4 z) => show (z.cell? ⟨w3.heap.size, 0, none⟩ = some (.int .i64 pf.kind) ∧ z.cell? ⟨w3.heap.size, 1, none⟩ = some (.int .i64 pf.table) ∧ z.cell? ⟨w3.heap.size, 2, none⟩ = some (.slice pf.es.A pf.es.n pf.es.c) ∧ z.cell? ⟨w3.heap.size, 3, none⟩ = some (.slice pf.cs.A pf.cs.n pf.cs.c) ∧ z.cell? ⟨w3.heap.size, 4, none⟩ = some (.slice pf.ks.A pf.ks.n pf.ks.c)) from ⟨(r4.on hz).cell 0, (r4.on hz).cell 1, (r4.on hz).cell 2, (r4.on hz).cell 3, (r4.on hz).cell 4⟩)
  have hsi := StsT.in_ hst ho
  have KK := Lib.hid (fun (z : World) (g : FP) (x : Pl) (E : Int) (hg : PlIn z z.heap.size g x) (hE : erP ss x = E) (hz : Below w3.heap.size w3 z) => implEstimateRows_ok x g ss A2 c2 z E hg (hsi.on hz) hsm (by omega) hE)
  have KI := Lib.hid (fun (z : World) (hz : Below w3.heap.size w3 z) => implEstimateRows_ok px pf ss A2 c2 z R (hpt.in_.on hz) (hsi.on hz) hsm (by omega) hR)
  have KS := Lib.hid (fun (z : World) (hz : Below w3.heap.size w3 z) => specEstimateRows_ok px pf ss A2 c2 z R (hpt.in_.on hz) (hsi.on hz) hsm (by omega) hR)
  have HSI := Lib.hid (fun (z : World) (hz : Below w3.heap.size w3 z) => hsi.on hz)
  unfold fpV at KI KS KK
  have HR := Lib.hid hR
  have HB3 := Lib.hid (And.intro hb3 B4)
  have HW4 := Lib.hid hW4
  have HP := Lib.hid hpt
  obtain ⟨x0, x1, x2, x3, x4⟩ := BX.out _ (Below.refl _ _)
  clear hpt ho hst hsm hb3 B4 r4 hW4 hR HD hsi
  go_upto_region 4 with fail
  rw [HW4.out]
  go_wp2_with fail
  refine (KI.out _ HB3.out.2).mono ?_
  rintro e w5 ⟨rfl, hb5⟩
  have H5 := Lib.hid hb5
  obtain ⟨x0, x1, x2, x3, x4⟩ := BX.out _ hb5
  clear hb5
  go_wp2_with fail
  refine (KS.out _ (bch HB3.out.2 H5.out)).mono ?_
  rintro e w6 ⟨rfl, hb6⟩
  have H6 := Lib.hid (bch H5.out hb6)
  obtain ⟨x0, x1, x2, x3, x4⟩ := BX.out _ H6.out
  clear hb6
  have hnn : (R != R) = false := by simp
  by_cases hRn : R < 0
  · have hee : (R == R) = true := by simp
    go_wp2_with fail
    refine (KS.out _ (bch HB3.out.2 H6.out)).mono ?_
    rintro e w7 ⟨rfl, hb7⟩
    have H7 := Lib.hid (bch H6.out hb7)
    clear hb7
    go_wp2
    go_ret
    exact ⟨rfl, bch HB3.out.1 (bch HB3.out.2 H7.out)⟩
  · have hf0 := es_fil (ss := ss) (p := px) (x := .mk 6 0 (false, 0) [.mk 1 0 (false, 0) [], .mk 2 0 (false, 1) []]) (by have := HR.out; omega)
    have hd0 := es_dis (ss := ss) (p := px) (by have := HR.out; omega)
    obtain ⟨F, hF⟩ : ∃ F, erP ss (.mk 2 0 [.mk 6 0 (false, 0) [.mk 1 0 (false, 0) [], .mk 2 0 (false, 1) []]] [] [px]) = F := ⟨_, rfl⟩
    obtain ⟨D, hD⟩ : ∃ D, erP ss (.mk 7 0 [] [] [px]) = D := ⟨_, rfl⟩
    rw [hF, HR.out] at hf0
    rw [hD, HR.out] at hd0
    have HF := Lib.hid hF
    have HD := Lib.hid hD
    have HPZ := Lib.hid (fun (z : World) (hz : Below w3.heap.size w3 z) => show PlT (fun _ => True) z pf px from plt_on (HP.out.mono fun _ _ _ => trivial) hz)
    have KF := Lib.hid (fun (z : World) (g : FP) (hg : PlT (fun _ => True) z g (.mk 2 0 [.mk 6 0 (false, 0) [.mk 1 0 (false, 0) [], .mk 2 0 (false, 1) []]] [] [px])) (hz : Below w3.heap.size w3 z) => KK.out z g _ F hg.in_ HF.out hz)
    clear hF hD
    go_upto_region 7 with fail
    obtain ⟨u0, hu0⟩ : ∃ z, w6.drew = z := ⟨_, rfl⟩
    have Bu0 := Lib.hid (show Below W4.heap.size W4 u0 from hu0 ▸ bch H6.out (Below.refl _ _).drew)
    have Hu0 := Lib.hid hu0
    clear hu0
    refine wp_region_g 8 (fun z => z.cell? ⟨w3.heap.size, 0, none⟩ = some (.int .i64 pf.kind) ∧ z.cell? ⟨w3.heap.size, 1, none⟩ = some (.int .i64 pf.table) ∧ z.cell? ⟨w3.heap.size, 2, none⟩ = some (.slice pf.es.A pf.es.n pf.es.c) ∧ z.cell? ⟨w3.heap.size, 3, none⟩ = some (.slice pf.cs.A pf.cs.n pf.cs.c) ∧ z.cell? ⟨w3.heap.size, 4, none⟩ = some (.slice pf.ks.A pf.ks.n pf.ks.c)) (by kernel_rfl) ?_ (fun hHeld => ?_)
    · exact BX.out _ (bch H6.out (Below.refl _ _).drew)
    rw [Hu0.out] at hHeld ⊢
    refine takeG (i := 0) (v := ?v1) rfl (by kernel_rfl) (by kernel_rfl) (by kernel_rfl) (by kernel_rfl) (fun _ _ _ h => h) (Or.inl ⟨by rfl, ?hy1⟩) (by assumption) ?_
    case hy1 => ((intro w' hSw; (try dsimp only at hSw); go_simp) <;> with_reducible rfl)
    try simp only [Act.put, List.setIfInBounds_toArray, List.set_cons_zero, List.set_cons_succ]
    refine takeG (i := 1) (v := ?v2) rfl (by kernel_rfl) (by kernel_rfl) (by kernel_rfl) (by kernel_rfl) (fun _ _ _ h => h) (Or.inl ⟨by rfl, ?hy2⟩) (by assumption) ?_
    case hy2 => ((intro w' hSw; (try dsimp only at hSw); go_simp) <;> with_reducible rfl)
    try simp only [Act.put, List.setIfInBounds_toArray, List.set_cons_zero, List.set_cons_succ]
    refine takeG (i := 2) (v := ?v3) rfl (by kernel_rfl) (by kernel_rfl) (by kernel_rfl) (by kernel_rfl) (fun _ _ _ h => h) (Or.inl ⟨by rfl, ?hy3⟩) (by assumption) ?_
    case hy3 => ((intro w' hSw; (try dsimp only at hSw); go_simp) <;> with_reducible rfl)
    try simp only [Act.put, List.setIfInBounds_toArray, List.set_cons_zero, List.set_cons_succ]
    refine takeG (i := 4) (v := ?v4) rfl (by kernel_rfl) (by kernel_rfl) (by kernel_rfl) (by kernel_rfl) (fun _ _ _ h => h) (Or.inl ⟨by rfl, ?hy4⟩) (by assumption) ?_
    case hy4 => ((intro w' hSw; (try dsimp only at hSw); go_simp) <;> with_reducible rfl)
    try simp only [Act.put, List.setIfInBounds_toArray, List.set_cons_zero, List.set_cons_succ]
    refine takeG (i := 6) (v := ?v5) rfl (by kernel_rfl) (by kernel_rfl) (by kernel_rfl) (by kernel_rfl) (fun _ _ _ h => h) (Or.inl ⟨by rfl, ?hy5⟩) (by assumption) ?_
    case hy5 => ((intro w' hSw; (try dsimp only at hSw); go_simp) <;> with_reducible rfl)
    try simp only [Act.put, List.setIfInBounds_toArray, List.set_cons_zero, List.set_cons_succ]
    refine wpAnyG_ready (rs := [3]) (by kernel_rfl) (by simp) ?_
    refine readyG rfl (fun K hK => ?_) AllReadyG.nil
    have HT := Lib.hid (two_ok 6 ⟨1, 0, (false, 0), ⟨none, 0, 0⟩⟩ ⟨2, 0, (false, 1), ⟨none, 0, 0⟩⟩ _ _ u0 (ExT.leaf (S := fun _ => True)) (ExT.leaf (S := fun _ => True)))
    unfold feV at HT
    go_simp
    go_at_call 13
    refine HT.out.mono ?_
    rintro e y1 ⟨sv, rfl, ht, hb⟩
    unfold feV
    have HE := Lib.hid ht
    have Bx1 := Lib.hid (bch Bu0.out hb)
    clear ht hb HT
    refine hK.out _ _ ?hS6 (fun hHeld => ?_)
    case hS6 => exact fun _ => BX.out _ Bx1.out
    replace hHeld := hHeld (by decide)
    clear hK K
    try simp only [Act.put, List.setIfInBounds_toArray, List.set_cons_zero, List.set_cons_succ]
    refine wpAnyG_ready (rs := [5]) (by kernel_rfl) (by simp) ?_
    refine readyG rfl (fun K hK => ?_) AllReadyG.nil
    have HT := Lib.hid (filter_ok ⟨6, 0, (false, 0), sv⟩ _ pf px y1 HE.out (HPZ.out _ (bch HB3.out.2 Bx1.out)))
    unfold feV fpV at HT
    go_simp
    go_at_call 12
    refine HT.out.mono ?_
    rintro e y2 ⟨gf, rfl, ht, hb⟩
    unfold fpV
    have HE2 := Lib.hid ht
    have Bx2 := Lib.hid (bch Bx1.out hb)
    clear ht hb HT
    refine hK.out _ _ ?hS7 (fun hHeld => ?_)
    case hS7 => exact fun _ => BX.out _ Bx2.out
    replace hHeld := hHeld (by decide)
    clear hK K
    try simp only [Act.put, List.setIfInBounds_toArray, List.set_cons_zero, List.set_cons_succ]
    refine wpAnyG_ready (rs := [7]) (by kernel_rfl) (by simp) ?_
    refine readyG rfl (fun K hK => ?_) AllReadyG.nil
    have HT := Lib.hid (KF.out y2 gf HE2.out (bch HB3.out.2 Bx2.out))
    go_simp
    go_at_call 10
    refine HT.out.mono ?_
    rintro e y3 ⟨rfl, hb⟩
    have Bx3 := Lib.hid (bch Bx2.out hb)
    clear hb HT
    refine hK.out _ _ ?hS8 (fun hHeld => ?_)
    case hS8 => exact fun _ => BX.out _ Bx3.out
    replace hHeld := hHeld (by decide)
    clear hK K
    try simp only [Act.put, List.setIfInBounds_toArray, List.set_cons_zero, List.set_cons_succ]
    refine wpAnyG_ready (rs := [8]) (by kernel_rfl) (by simp) ?_
    refine readyG rfl (fun K hK => ?_) AllReadyG.nil
    go_simp
    refine hK.out _ _ ?hS9 (fun hHeld => ?_)
    case hS9 => exact fun h => absurd rfl h
    clear hK K
    try simp only [Act.put, List.setIfInBounds_toArray, List.set_cons_zero, List.set_cons_succ]
    refine wpAnyG_done (by kernel_rfl) ?_ _
    skip
    obtain ⟨x0, x1, x2, x3, x4⟩ := BX.out _ Bx3.out
    obtain ⟨W8, hW8⟩ : ∃ z, y3.alloc (.cells #[.int .i64 pf.kind, .int .i64 pf.table, .slice pf.es.A pf.es.n pf.es.c, .slice pf.cs.A pf.cs.n pf.cs.c, .slice pf.ks.A pf.ks.n pf.ks.c] 27) = z := ⟨_, rfl⟩
    have b8 : Below y3.heap.size y3 W8 := by rw [← hW8]; exact balloc (Below.refl _ _) _
    have hp8 := pls_lit1 (HPZ.out _ (bch HB3.out.2 Bx3.out)) #[.int .i64 pf.kind, .int .i64 pf.table, .slice pf.es.A pf.es.n pf.es.c, .slice pf.cs.A pf.cs.n pf.cs.c, .slice pf.ks.A pf.ks.n pf.ks.c] rfl trivial 27
    rw [hW8] at hp8
    have H8 := Lib.hid (bch Bx3.out b8)
    have KD := Lib.hid (KK.out W8 ⟨7, 0, ⟨none, 0, 0⟩, ⟨none, 0, 0⟩, ⟨some ⟨y3.heap.size, 0, none⟩, 1, 1⟩⟩ _ D (PlT.make (ps := [px]) SVok.nil SVok.nil (SVok.lit (show 1 ≤ maxLen by decide)) ExsT.nil SlS.nil hp8).in_ HD.out (bch HB3.out.2 H8.out))
    have HW8 := Lib.hid hW8
    clear hW8 b8 hp8
    go_wp2_with fail
    rw [HW8.out]
    refine KD.out.mono ?_
    rintro e w9 ⟨rfl, hb9⟩
    have H9 := Lib.hid (bch H8.out hb9)
    clear hb9
    by_cases hDn : D < 0
    · go_wp2
      go_ret
      exact ⟨rfl, bch HB3.out.1 (bch HB3.out.2 H9.out)⟩
    · have hDR : D = R := hd0.resolve_left hDn
      subst hDR
      have hee : (D == D) = true := by simp
      go_wp2
      go_ret
      exact ⟨rfl, bch HB3.out.1 (bch HB3.out.2 H9.out)⟩

namespace lawFnEstimateFilter
theorem own : ownKnob Try.prog.godebug = none := by kernel_rfl
theorem laidOut : laidOutB Try.prog = true := by kernel_rfl

set_option maxRecDepth 100000 in
theorem lifted (os : Os) (started : os.Started) (H : Type) (enc : TypeId × Value → H) :
    ReturnsInHanded {} Try.checked os 4 .any (Rows.fnEstimateFilterSpec.pre6 enc Try.prog Try.f4 Rows.fnEstimateFilterRow.domain false) (Rows.fnEstimateFilterSpec.post enc Try.prog Try.f4 false true false false) := by
  refine returnsInHanded_of_change (C := Try.checked) own started (by kernel_rfl) Try.func4
    (ChangeSpec.witness6 (enc := enc) (C := Try.checked) false ⟨#[], #[.slice none 0 0], []⟩ 8 (by kernel_rfl) (by kernel_rfl) (by kernel_rfl) (by kernel_rfl)) ?_
  intro W base args ds gs before hval0 hW hcnd _
  have hval : ∀ (j : Nat) t v, Try.f4.params[j]? = some t → args[j]? = some v → Value.okWide Try.prog W .any base t v := hval0
  have hW' := hW
  obtain ⟨p, q, hA0, hV, rfl, hfz, hnd⟩ := hW
  have hA : DataW.TrodAll enc Try.prog W 0 (fun _ => true) true Try.f4.params.toList args.toList ds p := hA0
  rw [Try.params4] at hA hval
  obtain ⟨v0, vs0, d0, ds0, p0, q0, hargs, rfl, rfl, h0, r0⟩ := trodAll_cons hA
  obtain ⟨rfl, rfl, rfl⟩ := trodAll_nil r0
  obtain rfl : args = #[v0] := by cases args; simp_all
  obtain ⟨rfl, rfl⟩ := trodVars_none hV
  obtain ⟨a0, len0, c0, rfl⟩ := okWide_slice Try.underlying22 (hval 0 22 v0 rfl rfl)
  have k0 := h0
  have lt0 : ∀ x ∈ p0, x.block < W.heap.size := by obtain ⟨m, hm⟩ := k0; exact DataW.trod_lt m _ _ _ hm
  obtain ⟨f0, h0⟩ := h0
  obtain ⟨xs0, rfl, hc0, hm0, g0, s0⟩ := open_sl (sz := 1) (ec := byteC) Try.underlying22 (by kernel_rfl) (by omega) byteC_length (el_byte Try.underlying5) h0
  clear hA0 hval0
  refine (FnEstimateFilter_walk a0 c0 xs0 W hc0 hm0 g0 s0).mono fun e W' ⟨he, bel⟩ => ?_
  subst he
  exact ⟨_, rfl, _, _, _, [], _, [], hW', trodAll_mk1 (shut_bool Try.underlying4 _), (trodAll_cons_mk (Below.trod laidOut (by kernel_rfl) (of_decide_eq_true (by kernel_rfl)) k0 bel lt0) trodAll_mk0), rfl, bel.frame _, fun h => by cases h⟩

theorem over : Rows.fnEstimateFilterRow.holds Try.pinned (OpenSpec.ofChange Rows.fnEstimateFilterSpec) :=
  OpenClaim.holds_of_wide 4 Try.f4 rfl rfl rfl rfl rfl rfl rfl ⟨rfl, rfl, rfl, rfl, rfl⟩ rfl rfl rfl rfl rfl (by kernel_rfl) Try.func4 (by kernel_rfl)
    (of_decide_eq_true (by kernel_rfl)) (by unfold Func.isWrapper; first | (rw [if_pos (by decide +kernel)]; kernel_rfl) | (rw [if_neg (by decide +kernel)]; exact ⟨rfl, rfl⟩))
    (fun os started H enc _ => lifted os started H enc)

theorem proved : Rows.FnEstimateFilterSaid := over
end lawFnEstimateFilter
#print axioms lawFnEstimateFilter.proved

end Go.Proofs.Ytnecmacjlggkeaa
