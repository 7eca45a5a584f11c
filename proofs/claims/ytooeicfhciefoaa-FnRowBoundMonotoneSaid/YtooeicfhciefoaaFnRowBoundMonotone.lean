/-
  FnRowBoundMonotone returns true for all bytes and leaves them as they were. No condition.
-/
import Derived.Test.YtooeicfhciefoaaRows
import Derived.OpenShut
import Derived.Test.YtooeicfhciefoaaDrR
import Derived.Test.YtooeicfhciefoaaRbT
import Derived.Test.YtooeicfhciefoaaArgB
namespace Go.Proofs.Ytooeicfhciefoaa
open Go.RowKit Go.Qo
open Go.ChangeShapes Go.WideShapes Go.ChangeAt
set_option linter.unusedVariables false
set_option linter.unusedSimpArgs false

theorem rbR_back {ws cs : List Int} {p : Pl} (h : 0 ≤ rbR ws cs p) : widthP ws p ≠ 0 ∧ cs.length = ws.length ∧ CsOk cs := Classical.byContradiction fun hn => by rw [rbR_no hn] at h; omega
theorem rbR_mono {ws cs : List Int} {p : Pl} {q : Nat} {y : Int} (hq : q < cs.length) (h : 0 ≤ rbR ws cs p) (hy : cs[q] ≤ y) (hy4 : y ≤ 400) : rbR ws cs p ≤ rbR ws (cs.set q y) p := by
  have hb := rbR_back h
  have hq0 := hb.2.2 _ (List.getElem_mem hq)
  have hok : CsOk (cs.set q y) := fun z hz => by
    rcases List.mem_or_eq_of_mem_set hz with h1 | h1
    · exact hb.2.2 z h1
    · subst h1; omega
  rw [rbR_yes hb, rbR_yes ⟨hb.1, by rw [List.length_set]; exact hb.2.1, hok⟩]
  refine bdW_mono hb.2.2 (fun i => ?_) 9 p
  rw [List.getD_eq_getElem?_getD, List.getD_eq_getElem?_getD, List.getElem?_set]
  by_cases hqi : q = i
  · subst hqi
    rw [if_pos rfl, if_pos hq, List.getElem?_eq_getElem hq]
    exact hy
  · rw [if_neg hqi]; exact Int.le_refl _

set_option maxRecDepth 20000 in
set_option maxHeartbeats 4000000 in
theorem FnRowBoundMonotone_walk (A : Option Addr) (c : Nat) (xs : List Int) (A0 : Option Addr) (c0 : Nat) (zs : List Int) (w : World) (hc : xs.length ≤ c) (hm : c ≤ maxLen) (hg : ∀ x ∈ xs, 0 ≤ x ∧ x ≤ 255) (h : Sl 1 byteC w w.heap.size A xs) (hc0 : zs.length ≤ c0) (hm0 : c0 ≤ maxLen) (hg0 : ∀ x ∈ zs, 0 ≤ x ∧ x ≤ 255) (h0 : Sl 1 byteC w w.heap.size A0 zs) :
    Calls Try.prog 5 #[.slice A xs.length c, .slice A0 zs.length c0] w fun e w' => e = .returned (.bool true) ∧ Below w.heap.size w w' := by
  have HD := Lib.hid (drawRowBound_ok A c xs w hc hm hg h)
  have hx63 : xs.length ≤ 9223372036854775807 := by unfold maxLen at hm; omega
  have hz63 : zs.length ≤ 9223372036854775807 := by unfold maxLen at hm0; omega
  clear h hg hc hm h0 hg0 hc0 hm0
  by_cases hx : (1048576 : Int) < xs.length
  · clear HD
    go_enter Try.func5, Try.ntmps5
    go_wp2
    go_ret
    exact ⟨rfl, Below.refl _ _⟩
  by_cases hz : (1048576 : Int) < zs.length
  · clear HD
    go_enter Try.func5, Try.ntmps5
    go_wp2
    go_ret
    exact ⟨rfl, Below.refl _ _⟩
  go_enter Try.func5, Try.ntmps5
  go_wp2_with fail
  refine HD.out.mono ?_
  rintro e w3 ⟨pf, px, v2, ws, v3, cs, rfl, ⟨hx3, how3, hwl, hwr⟩, hoc3, hcl, hcr, hb3⟩
  obtain ⟨A2, c2, rfl, hc21, hc22, hs2⟩ := how3.shape intC_length
  obtain ⟨A3, c3, rfl, hc31, hc32, hs3⟩ := hoc3.shape intC_length
  unfold fpV
  obtain ⟨R, hR⟩ : ∃ R, rbR ws cs px = R := ⟨_, rfl⟩
  obtain ⟨W4, hW4⟩ : ∃ z, w3.alloc (.cells #[.int .i64 pf.kind, .int .i64 pf.table, .slice pf.es.A pf.es.n pf.es.c, .slice pf.cs.A pf.cs.n pf.cs.c, .slice pf.ks.A pf.ks.n pf.ks.c] 27) = z := ⟨_, rfl⟩
  have B4 : Below w3.heap.size w3 W4 := by rw [← hW4]; exact balloc (Below.refl _ _) _
  have r4 : Row W4 w3.heap.size 27 (fpC pf) := by rw [← hW4]; exact Row.new _ _ _
  have BX := Lib.hid (fun (z : World) (hz : Below W4.heap.size W4 z) => show (z.cell? ⟨w3.heap.size, 0, none⟩ = some (.int .i64 pf.kind) ∧ z.cell? ⟨w3.heap.size, 1, none⟩ = some (.int .i64 pf.table) ∧ z.cell? ⟨w3.heap.size, 2, none⟩ = some (.slice pf.es.A pf.es.n pf.es.c) ∧ z.cell? ⟨w3.heap.size, 3, none⟩ = some (.slice pf.cs.A pf.cs.n pf.cs.c) ∧ z.cell? ⟨w3.heap.size, 4, none⟩ = some (.slice pf.ks.A pf.ks.n pf.ks.c)) from ⟨(r4.on hz).cell 0, (r4.on hz).cell 1, (r4.on hz).cell 2, (r4.on hz).cell 3, (r4.on hz).cell 4⟩)
  have hwb : ws.length ≤ maxLen := by unfold maxLen; omega
  have hcb : cs.length ≤ maxLen := by unfold maxLen; omega
  have KI := Lib.hid (fun (z : World) (hz : Below w3.heap.size w3 z) => implRowBound_ok px pf ws cs A2 A3 c2 c3 z R (hx3.in_.on hz) hwb hcb (hs2.sl.on hz) (hs3.sl.on hz) hR)
  have KS := Lib.hid (fun (z : World) (hz : Below w3.heap.size w3 z) => specRowBound_ok px pf ws cs A2 A3 c2 c3 z R (hx3.in_.on hz) hwb hcb (hs2.sl.on hz) (hs3.sl.on hz) hR)
  have KL := Lib.hid (fun (ys : List Int) (B : Option Addr) (d : Nat) (Q : Int) (hl : ys.length = cs.length) (hQ : rbR ws ys px = Q) (z : World) (hz : Below w3.heap.size w3 z) (hs : Sl 1 intC z z.heap.size B ys) => by
    have := implRowBound_ok px pf ws ys A2 B c2 d z Q (hx3.in_.on hz) hwb (by omega) (hs2.sl.on hz) hs hQ
    rw [hl] at this
    exact this)
  unfold fpV at KI KS KL
  have HC3 := Lib.hid (fun (z : World) (hz : Below w3.heap.size w3 z) => hs3.sl.on hz)
  have HR := Lib.hid hR
  have HB3 := Lib.hid (And.intro hb3 B4)
  have HW4 := Lib.hid hW4
  have Hcl := Lib.hid hcl
  have hcl3 : 2 ≤ cs.length ∧ cs.length ≤ 3 := by omega
  obtain ⟨hcl4, hcl5⟩ := hcl3
  obtain ⟨x0, x1, x2, x3, x4⟩ := BX.out _ (Below.refl _ _)
  clear hx3 how3 hoc3 hwl hwr hs2 hs3 hcl hcr hb3 B4 r4 hW4 hR hc21 hc31 hwb hcb HD
  go_upto_region 4 with fail
  rw [HW4.out]
  go_wp2_with fail
  refine (KI.out _ HB3.out.2).mono ?_
  rintro e w5 ⟨rfl, hb5⟩
  have H5 := Lib.hid hb5
  obtain ⟨x0, x1, x2, x3, x4⟩ := BX.out _ hb5
  clear hb5
  go_wp2_with fail
  refine (KS.out _ (bch HB3.out.2 H5.out)).mono ?_
  rintro e w6 ⟨rfl, hb6⟩
  have H6 := Lib.hid (bch H5.out hb6)
  obtain ⟨x0, x1, x2, x3, x4⟩ := BX.out _ H6.out
  clear hb6
  have hnn : (R != R) = false := by simp
  by_cases hRn : R < 0
  · have hee : (R == R) = true := by simp
    go_wp2_with fail
    refine (KS.out _ (bch HB3.out.2 H6.out)).mono ?_
    rintro e w7 ⟨rfl, hb7⟩
    have H7 := Lib.hid (bch H6.out hb7)
    clear hb7
    go_wp2
    go_ret
    exact ⟨rfl, bch HB3.out.1 (bch HB3.out.2 H7.out)⟩
  · obtain ⟨W7, hW7⟩ : ∃ z, w6.alloc (.cells #[] 3) = z := ⟨_, rfl⟩
    have b7 : Below w6.heap.size w6 W7 := by rw [← hW7]; exact balloc (Below.refl _ _) _
    have HO7 := Lib.hid (show Ow w6.heap.size 3 1 intC W7 (.slice (some ⟨w6.heap.size, 0, none⟩) 0 0) ([] : List Int) by rw [← hW7]; exact Ow.lit (xs := ([] : List Int)) rfl rfl (Nat.le_refl _) (by decide))
    have B7 := Lib.hid (bch H6.out b7)
    have b67 := b7.size
    have HW7 := Lib.hid hW7
    clear hW7 b7
    go_upto_region 7 with fail
    go_wp2_with (at_builtin; rw [HW7.out]; refine wpList_app rfl (.tmp 45) (.tmp 46) 24 rfl w6.heap.size 3 _ 1 8 intC Try.underlying24 zeroIntG rfl (by decide) (by decide) intC_length intC_one _ [] rfl HO7.out A3 cs.length c3 cs rfl rfl (HC3.out _ (bch HB3.out.2 B7.out)) (by simp; omega) b67 ?_; intro v' w8 hown hgr)
    rw [List.nil_append] at hown
    obtain ⟨A8, c8, rfl, hc81, hc82, hs8⟩ := hown.shape intC_length
    have HO8 := Lib.hid hown
    have hb8 : Below W4.heap.size W4 w8 := ((only_below (S := fun _ => False) B7.out).grown hgr fun k hk => .inr (by have := (HO7.out.ty k hk).1; have := H6.out.size; omega)).old fun _ _ h => h
    have H8 := Lib.hid hb8
    obtain ⟨x0, x1, x2, x3, x4⟩ := BX.out _ hb8
    clear hown hgr hs8 hb8 hc81
    obtain ⟨q, hq⟩ : ∃ q, zs.length % cs.length = q := ⟨_, rfl⟩
    have hql : q < cs.length := by rw [← hq]; exact Nat.mod_lt _ (by omega)
    have eq1 : (zs.length : Int).tmod (cs.length : Int) = (q : Int) := by rw [← hq]; exact Int.ofNat_tmod _ _
    have eq2 : (zs.length : Int) % (cs.length : Int) = (q : Int) := by rw [← hq]; rfl
    obtain ⟨m, hm⟩ : ∃ m, zs.length % 50 = m := ⟨_, rfl⟩
    have hml : m < 50 := by omega
    have em1 : (zs.length : Int).tmod 50 = (m : Int) := by rw [← hm]; exact Int.ofNat_tmod _ _
    have em2 : (zs.length : Int) % 50 = (m : Int) := by rw [← hm]; rfl
    have hcz : ¬ ((cs.length : Int) = 0) := by omega
    have hqI0 : (0 : Int) ≤ (q : Int) := by omega
    have hqI : (q : Int) < (cs.length : Int) := by omega
    obtain ⟨g, rfl, hn', hg, hgl, _, hf, hcs⟩ := HO8.out.head intC_length (by omega)
    have hok := (rbR_back (ws := ws) (cs := cs) (p := px) (by have := HR.out; omega)).2.2 _ (List.getElem_mem hql)
    obtain ⟨y, hy⟩ : ∃ y, cs[q] = y := ⟨_, rfl⟩
    rw [hy] at hok
    have gc : w8.cell? ⟨g, q, none⟩ = some (.int .i64 y) := hcs q _ (by
      have := flat_get 1 intC intC_length cs q cs[q] 0 (.int .i64 cs[q]) (List.getElem?_eq_getElem hql) rfl
      rw [hy] at this
      simpa using this)
    have gf := hf q
    obtain ⟨hy0, hy4⟩ := hok
    have hw1 : IntKind.i64.wrap (y + 1) = y + 1 := IntWalk.i64_in _ (by omega)
    have hw2 : IntKind.i64.wrap (y + 1 + (m : Int)) = y + 1 + (m : Int) := IntWalk.i64_in _ (by omega)
    obtain ⟨mn, hmn⟩ : ∃ mn, (if 400 < y + 1 + (m : Int) then 400 else y + 1 + (m : Int)) = mn := ⟨_, rfl⟩
    have hmn1 : y ≤ mn ∧ mn ≤ 400 := by rw [← hmn]; split <;> omega
    obtain ⟨Z, hZ⟩ : ∃ z, w8.setCell ⟨g, q, none⟩ (.int .i64 mn) = z := ⟨_, rfl⟩
    have hst := HO8.out.put q (.int .i64 mn)
    rw [flat_setI2, hZ] at hst
    have hs := Only.set (S := fun i => i = g) (p := ⟨g, q, none⟩) (Only.refl w8) (.inl rfl) (.int .i64 mn)
    rw [hZ] at hs
    have hOZ : Ow w6.heap.size 3 1 intC Z (.slice (some ⟨g, 0, none⟩) cs.length c8) (cs.set q mn) := by unfold Ow; rw [List.length_set]; exact hst
    have hSZ : Sl 1 intC Z Z.heap.size (some ⟨g, 0, none⟩) (cs.set q mn) := by
      obtain ⟨_, _, hv, _, _, hs⟩ := hOZ.shape intC_length
      injection hv with hv _ _
      subst hv
      exact hs.sl
    have hbZ : Below W4.heap.size W4 Z := Only.from_ H8.out rfl hs fun i (hi : i = g) => by have := H6.out.size; omega
    have HZ := Lib.hid hZ
    have KZ := Lib.hid (KL.out (cs.set q mn) (some ⟨g, 0, none⟩) c8 (rbR ws (cs.set q mn) px) (by rw [List.length_set]) rfl Z (bch HB3.out.2 hbZ) hSZ)
    have HBZ := Lib.hid hbZ
    have hge : R ≤ rbR ws (cs.set q mn) px := by
      rw [← HR.out]
      exact rbR_mono hql (by have := HR.out; omega) (by omega) (by omega)
    obtain ⟨R2, hR2⟩ : ∃ r, rbR ws (cs.set q mn) px = r := ⟨_, rfl⟩
    rw [hR2] at KZ hge
    have hge' : ¬ R2 < R := by omega
    obtain ⟨z0, z1, z2, z3, z4⟩ := BX.out _ hbZ
    have hgw : g ≠ w3.heap.size := by have := H6.out.size; have := HB3.out.2.size; have h7 : w3.heap.size < W4.heap.size := by rw [← HW4.out]; simp
                                      omega
    clear hst hs hOZ hSZ hbZ hZ hR2 hcs hf hn' hq hm hy
    go_upto_region 10 with fail
    rw [HZ.out]
    go_wp2_with fail
    refine KZ.out.mono ?_
    rintro e w11 ⟨rfl, hb11⟩
    go_wp2
    go_ret
    exact ⟨rfl, bch HB3.out.1 (bch HB3.out.2 (bch HBZ.out hb11))⟩

namespace lawFnRowBoundMonotone
theorem own : ownKnob Try.prog.godebug = none := by kernel_rfl
theorem laidOut : laidOutB Try.prog = true := by kernel_rfl

set_option maxRecDepth 100000 in
theorem lifted (os : Os) (started : os.Started) (H : Type) (enc : TypeId × Value → H) :
    ReturnsInHanded {} Try.checked os 5 .any (Rows.fnRowBoundMonotoneSpec.pre6 enc Try.prog Try.f5 Rows.fnRowBoundMonotoneRow.domain false) (Rows.fnRowBoundMonotoneSpec.post enc Try.prog Try.f5 false true false false) := by
  refine returnsInHanded_of_change (C := Try.checked) own started (by kernel_rfl) Try.func5
    (ChangeSpec.witness6 (enc := enc) (C := Try.checked) false ⟨#[], #[.slice none 0 0, .slice none 0 0], []⟩ 8 (by kernel_rfl) (by kernel_rfl) (by kernel_rfl) (by kernel_rfl)) ?_
  intro W base args ds gs before hval0 hW hcnd _
  have hval : ∀ (j : Nat) t v, Try.f5.params[j]? = some t → args[j]? = some v → Value.okWide Try.prog W .any base t v := hval0
  have hW' := hW
  obtain ⟨p, q, hA0, hV, rfl, hfz, hnd⟩ := hW
  have hA : DataW.TrodAll enc Try.prog W 0 (fun _ => true) true Try.f5.params.toList args.toList ds p := hA0
  rw [Try.params5] at hA hval
  obtain ⟨v0, vs0, d0, ds0, p0, q0, hargs, rfl, rfl, h0, r0⟩ := trodAll_cons hA
  obtain ⟨v1, vs1, d1, ds1, p1, q1, rfl, rfl, rfl, h1, r1⟩ := trodAll_cons r0
  obtain ⟨rfl, rfl, rfl⟩ := trodAll_nil r1
  obtain rfl : args = #[v0, v1] := by cases args; simp_all
  obtain ⟨rfl, rfl⟩ := trodVars_none hV
  obtain ⟨a0, len0, c0, rfl⟩ := okWide_slice Try.underlying22 (hval 0 22 v0 rfl rfl)
  obtain ⟨a1, len1, c1, rfl⟩ := okWide_slice Try.underlying22 (hval 1 22 v1 rfl rfl)
  have k0 := h0
  have lt0 : ∀ x ∈ p0, x.block < W.heap.size := by obtain ⟨m, hm⟩ := k0; exact DataW.trod_lt m _ _ _ hm
  obtain ⟨f0, h0⟩ := h0
  have k1 := h1
  have lt1 : ∀ x ∈ p1, x.block < W.heap.size := by obtain ⟨m, hm⟩ := k1; exact DataW.trod_lt m _ _ _ hm
  obtain ⟨f1, h1⟩ := h1
  obtain ⟨xs0, rfl, hc0, hm0, g0, s0⟩ := open_sl (sz := 1) (ec := byteC) Try.underlying22 (by kernel_rfl) (by omega) byteC_length (el_byte Try.underlying5) h0
  obtain ⟨xs1, rfl, hc1, hm1, g1, s1⟩ := open_sl (sz := 1) (ec := byteC) Try.underlying22 (by kernel_rfl) (by omega) byteC_length (el_byte Try.underlying5) h1
  clear hA0 hval0
  refine (FnRowBoundMonotone_walk a0 c0 xs0 a1 c1 xs1 W hc0 hm0 g0 s0 hc1 hm1 g1 s1).mono fun e W' ⟨he, bel⟩ => ?_
  subst he
  exact ⟨_, rfl, _, _, _, [], _, [], hW', trodAll_mk1 (shut_bool Try.underlying4 _), (trodAll_cons_mk (Below.trod laidOut (by kernel_rfl) (of_decide_eq_true (by kernel_rfl)) k0 bel lt0) (trodAll_cons_mk (Below.trod laidOut (by kernel_rfl) (of_decide_eq_true (by kernel_rfl)) k1 bel lt1) trodAll_mk0)), rfl, bel.frame _, fun h => by cases h⟩

theorem over : Rows.fnRowBoundMonotoneRow.holds Try.pinned (OpenSpec.ofChange Rows.fnRowBoundMonotoneSpec) :=
  OpenClaim.holds_of_wide 5 Try.f5 rfl rfl rfl rfl rfl rfl rfl ⟨rfl, rfl, rfl, rfl, rfl⟩ rfl rfl rfl rfl rfl (by kernel_rfl) Try.func5 (by kernel_rfl)
    (of_decide_eq_true (by kernel_rfl)) (by unfold Func.isWrapper; first | (rw [if_pos (by decide +kernel)]; kernel_rfl) | (rw [if_neg (by decide +kernel)]; exact ⟨rfl, rfl⟩))
    (fun os started H enc _ => lifted os started H enc)

theorem proved : Rows.FnRowBoundMonotoneSaid := over
end lawFnRowBoundMonotone
#print axioms lawFnRowBoundMonotone.proved

end Go.Proofs.Ytooeicfhciefoaa
