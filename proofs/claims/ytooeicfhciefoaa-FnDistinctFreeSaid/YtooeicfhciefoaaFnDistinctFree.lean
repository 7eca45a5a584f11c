/-
  FnDistinctFree returns true for all bytes and leaves them as they were. No condition.
-/
import Derived.Test.YtooeicfhciefoaaRows
import Derived.OpenShut
import Derived.Test.YtooeicfhciefoaaDrD
import Derived.Test.YtooeicfhciefoaaDfT
import Derived.Test.YtooeicfhciefoaaArgB
namespace Go.Proofs.Ytooeicfhciefoaa
open Go.RowKit Go.Qo
open Go.ChangeShapes Go.WideShapes Go.ChangeAt
set_option linter.unusedVariables false
set_option linter.unusedSimpArgs false

set_option maxRecDepth 20000 in
set_option maxHeartbeats 4000000 in
theorem FnDistinctFree_walk (A : Option Addr) (c : Nat) (xs : List Int) (w : World) (hc : xs.length ≤ c) (hm : c ≤ maxLen) (hg : ∀ x ∈ xs, 0 ≤ x ∧ x ≤ 255) (h : Sl 1 byteC w w.heap.size A xs) :
    Calls Try.prog 6 #[.slice A xs.length c] w fun e w' => e = .returned (.bool true) ∧ Below w.heap.size w w' := by
  have HD := Lib.hid (drawDf_ok A c xs w hc hm hg h)
  have hx63 : xs.length ≤ 9223372036854775807 := by unfold maxLen at hm; omega
  clear h hg hc hm
  by_cases hx : (1048576 : Int) < xs.length
  · clear HD
    go_enter Try.func6, Try.ntmps6
    go_wp2
    go_ret
    exact ⟨rfl, Below.refl _ _⟩
  go_enter Try.func6, Try.ntmps6
  go_wp2_with fail
  refine HD.out.mono ?_
  rintro e w3 ⟨pf, px, v2, ws, A3, c3, ss, rfl, ⟨hx3, how3, hwl, hwr⟩, hss, hsl, hb3⟩
  obtain ⟨A2, c2, rfl, hc21, hc22, hs2⟩ := how3.shape intC_length
  unfold fpV
  obtain ⟨R, hR⟩ : ∃ R, dfP ws ss px = R := ⟨_, rfl⟩
  obtain ⟨W4, hW4⟩ : ∃ z, w3.alloc (.cells #[.int .i64 pf.kind, .int .i64 pf.table, .slice pf.es.A pf.es.n pf.es.c, .slice pf.cs.A pf.cs.n pf.cs.c, .slice pf.ks.A pf.ks.n pf.ks.c] 27) = z := ⟨_, rfl⟩
  have B4 : Below w3.heap.size w3 W4 := by rw [← hW4]; exact balloc (Below.refl _ _) _
  have r4 : Row W4 w3.heap.size 27 (fpC pf) := by rw [← hW4]; exact Row.new _ _ _
  have BX := Lib.hid (fun (z : World) (hz : Below W4.heap.size W4 z) => show (z.cell? ⟨w3.heap.size, 0, none⟩ = some (.int .i64 pf.kind) ∧ z.cell? ⟨w3.heap.size, 1, none⟩ = some (.int .i64 pf.table) ∧ z.cell? ⟨w3.heap.size, 2, none⟩ = some (.slice pf.es.A pf.es.n pf.es.c) ∧ z.cell? ⟨w3.heap.size, 3, none⟩ = some (.slice pf.cs.A pf.cs.n pf.cs.c) ∧ z.cell? ⟨w3.heap.size, 4, none⟩ = some (.slice pf.ks.A pf.ks.n pf.ks.c)) from ⟨(r4.on hz).cell 0, (r4.on hz).cell 1, (r4.on hz).cell 2, (r4.on hz).cell 3, (r4.on hz).cell 4⟩)
  have hwb : ws.length ≤ maxLen := by unfold maxLen; omega
  have hcb : ss.length ≤ maxLen := by unfold maxLen; omega
  have KI := Lib.hid (fun (p : Pl) (f : FP) (Q : Bool) (z : World) (hz : Below w3.heap.size w3 z) (hp : PlIn z z.heap.size f p) (hQ : dfP ws ss p = Q) => implIsDf_ok p f ws ss A2 A3 c2 c3 z Q hp hwb hcb (hs2.sl.on hz) (hss.on hz) hQ)
  have KS := Lib.hid (fun (z : World) (hz : Below w3.heap.size w3 z) => specIsDf_ok px pf ws ss A2 A3 c2 c3 z R (hx3.in_.on hz) hwb hcb (hs2.sl.on hz) (hss.on hz) hR)
  have KW := Lib.hid (fun (p : Pl) (f : FP) (Q : Int) (z : World) (hz : Below w3.heap.size w3 z) (hp : PlIn z z.heap.size f p) (hQ : widthP ws p = Q) => PlanWidth_ok p f ws A2 c2 z Q hp hwb (hs2.sl.on hz) hQ)
  have K1 := Lib.hid (KI.out px pf R W4 B4 (hx3.in_.on B4) hR)
  unfold fpV at KS K1
  have HX3 := Lib.hid (fun (z : World) (hz : Below w3.heap.size w3 z) => show PlT (fun _ => True) z pf px from (hx3.mono (T := fun _ => True) fun _ _ _ => trivial).keep hz.size fun k _ hl => hz.block k hl)
  have HR := Lib.hid hR
  have HB3 := Lib.hid (And.intro hb3 B4)
  have HW4 := Lib.hid hW4
  obtain ⟨x0, x1, x2, x3, x4⟩ := BX.out _ (Below.refl _ _)
  have hwl1 := hwl.1
  have hwl2 := hwl.2
  clear hx3 how3 hwl hwr hs2 hss hb3 B4 r4 hW4 hR hc21 hwb hcb HD
  go_upto_region 4 with fail
  rw [HW4.out]
  go_wp2_with fail
  refine K1.out.mono ?_
  rintro e w5 ⟨rfl, hb5⟩
  obtain ⟨W6, hW6⟩ : ∃ z, w5.alloc (.cells #[.int .i64 pf.kind, .int .i64 pf.table, .slice pf.es.A pf.es.n pf.es.c, .slice pf.cs.A pf.cs.n pf.cs.c, .slice pf.ks.A pf.ks.n pf.ks.c] 27) = z := ⟨_, rfl⟩
  obtain ⟨W7, hW7⟩ : ∃ z, W6.alloc (.cells #[.int .i64 7, .int .i64 0, .slice none 0 0, .slice none 0 0, .slice (some ⟨w5.heap.size, 0, none⟩) 1 1] 27) = z := ⟨_, rfl⟩
  have b6 : Below w5.heap.size w5 W6 := by rw [← hW6]; exact balloc (Below.refl _ _) _
  have b7 : Below W6.heap.size W6 W7 := by rw [← hW7]; exact balloc (Below.refl _ _) _
  have s6 : w5.heap.size + 1 = W6.heap.size := by rw [← hW6]; simp
  have r7 : Row W7 W6.heap.size 27 [.int .i64 7, .int .i64 0, .slice none 0 0, .slice none 0 0, .slice (some ⟨w5.heap.size, 0, none⟩) 1 1] := by rw [← hW7]; exact Row.new _ _ _
  have Y6 := pls_lit1 (S := fun _ => True) (HX3.out _ (bch HB3.out.2 hb5)) #[.int .i64 pf.kind, .int .i64 pf.table, .slice pf.es.A pf.es.n pf.es.c, .slice pf.cs.A pf.cs.n pf.cs.c, .slice pf.ks.A pf.ks.n pf.ks.c] rfl trivial 27
  rw [hW6] at Y6
  have Y7 : PlT (fun _ => True) W7 ⟨7, 0, ⟨none, 0, 0⟩, ⟨none, 0, 0⟩, ⟨some ⟨w5.heap.size, 0, none⟩, 1, 1⟩⟩ (.mk 7 0 [] [] [px]) := PlT.make SVok.nil SVok.nil (SVok.lit (n := 1) (by decide)) ExsT.nil SlS.nil (PlsT.keep Y6 b7.size fun k _ hl => b7.block k hl)
  have H7 := Lib.hid (bch hb5 (bch b6 b7))
  have DX := Lib.hid (fun (z : World) (hz : Below W7.heap.size W7 z) => show (z.cell? ⟨W6.heap.size, 0, none⟩ = some (.int .i64 7) ∧ z.cell? ⟨W6.heap.size, 1, none⟩ = some (.int .i64 0) ∧ z.cell? ⟨W6.heap.size, 2, none⟩ = some (.slice none 0 0) ∧ z.cell? ⟨W6.heap.size, 3, none⟩ = some (.slice none 0 0) ∧ z.cell? ⟨W6.heap.size, 4, none⟩ = some (.slice (some ⟨w5.heap.size, 0, none⟩) 1 1)) from ⟨(r7.on hz).cell 0, (r7.on hz).cell 1, (r7.on hz).cell 2, (r7.on hz).cell 3, (r7.on hz).cell 4⟩)
  have HY7 := Lib.hid (fun (z : World) (hz : Below W7.heap.size W7 z) => Y7.in_.on hz)
  have S6 := Lib.hid s6
  have HW6 := Lib.hid hW6
  have HW7 := Lib.hid hW7
  obtain ⟨x0, x1, x2, x3, x4⟩ := BX.out _ hb5
  clear hb5 b6 b7 s6 r7 Y6 Y7 hW6 hW7
  go_upto_region 6 with fail
  rw [HW6.out, S6.out, HW7.out]
  obtain ⟨y0, y1, y2, y3, y4⟩ := BX.out _ H7.out
  obtain ⟨wd, hwd⟩ : ∃ wd, widthP ws (.mk 7 0 [] [] [px]) = wd := ⟨_, rfl⟩
  have Hwd := Lib.hid hwd
  have hnn : (R != R) = false := by simp
  have hee : (R == R) = true := by simp
  have B7 := Lib.hid (bch HB3.out.2 H7.out)
  clear x0 x1 x2 x3 x4
  go_wp2_with fail
  refine (KS.out _ B7.out).mono ?_
  rintro e w8 ⟨rfl, hb8⟩
  have H8 := Lib.hid hb8
  obtain ⟨d0, d1, d2, d3, d4⟩ := DX.out _ hb8
  have K8 := Lib.hid (KW.out _ _ wd w8 (bch B7.out hb8) (HY7.out _ hb8) hwd)
  unfold fpV at K8
  clear hb8 hwd y0 y1 y2 y3 y4
  go_wp2_with fail
  refine K8.out.mono ?_
  rintro e w9 ⟨rfl, hb9⟩
  have H9 := Lib.hid (bch H8.out hb9)
  have B9 := Lib.hid (bch B7.out H9.out)
  obtain ⟨y0, y1, y2, y3, y4⟩ := BX.out _ (bch H7.out H9.out)
  obtain ⟨d0, d1, d2, d3, d4⟩ := DX.out _ H9.out
  clear hb9
  by_cases hw0 : wd = 0
  · subst hw0
    go_wp2_with fail
    refine (KS.out _ B9.out).mono ?_
    rintro e w10 ⟨rfl, hb10⟩
    go_wp2
    go_ret
    exact ⟨rfl, bch HB3.out.1 (bch B9.out hb10)⟩
  have hw0' : (wd == 0) = false := by simpa using hw0
  by_cases hl : ss.length = ws.length
  case neg =>
    have hl' : ((ss.length : Int) != (ws.length : Int)) = true := by
      have : (ss.length : Int) ≠ (ws.length : Int) := by omega
      simpa using this
    go_wp2_with fail
    refine (KS.out _ B9.out).mono ?_
    rintro e w10 ⟨rfl, hb10⟩
    go_wp2
    go_ret
    exact ⟨rfl, bch HB3.out.1 (bch B9.out hb10)⟩
  case pos =>
    have hl' : ((ss.length : Int) != (ws.length : Int)) = false := by simp [hl]
    have K9 := Lib.hid (KI.out (.mk 7 0 [] [] [px]) _ true w9 B9.out (HY7.out _ H9.out) (by
      rw [dfP_yes ⟨by rw [Hwd.out]; exact hw0, hl⟩]
      rfl))
    unfold fpV at K9
    clear hl hw0
    go_wp2_with fail
    refine K9.out.mono ?_
    rintro e w10 ⟨rfl, hb10⟩
    go_wp2
    go_ret
    exact ⟨rfl, bch HB3.out.1 (bch B9.out hb10)⟩

namespace lawFnDistinctFree
theorem own : ownKnob Try.prog.godebug = none := by kernel_rfl
theorem laidOut : laidOutB Try.prog = true := by kernel_rfl

set_option maxRecDepth 100000 in
theorem lifted (os : Os) (started : os.Started) (H : Type) (enc : TypeId × Value → H) :
    ReturnsInHanded {} Try.checked os 6 .any (Rows.fnDistinctFreeSpec.pre6 enc Try.prog Try.f6 Rows.fnDistinctFreeRow.domain false) (Rows.fnDistinctFreeSpec.post enc Try.prog Try.f6 false true false false) := by
  refine returnsInHanded_of_change (C := Try.checked) own started (by kernel_rfl) Try.func6
    (ChangeSpec.witness6 (enc := enc) (C := Try.checked) false ⟨#[], #[.slice none 0 0], []⟩ 8 (by kernel_rfl) (by kernel_rfl) (by kernel_rfl) (by kernel_rfl)) ?_
  intro W base args ds gs before hval0 hW hcnd _
  have hval : ∀ (j : Nat) t v, Try.f6.params[j]? = some t → args[j]? = some v → Value.okWide Try.prog W .any base t v := hval0
  have hW' := hW
  obtain ⟨p, q, hA0, hV, rfl, hfz, hnd⟩ := hW
  have hA : DataW.TrodAll enc Try.prog W 0 (fun _ => true) true Try.f6.params.toList args.toList ds p := hA0
  rw [Try.params6] at hA hval
  obtain ⟨v0, vs0, d0, ds0, p0, q0, hargs, rfl, rfl, h0, r0⟩ := trodAll_cons hA
  obtain ⟨rfl, rfl, rfl⟩ := trodAll_nil r0
  obtain rfl : args = #[v0] := by cases args; simp_all
  obtain ⟨rfl, rfl⟩ := trodVars_none hV
  obtain ⟨a0, len0, c0, rfl⟩ := okWide_slice Try.underlying22 (hval 0 22 v0 rfl rfl)
  have k0 := h0
  have lt0 : ∀ x ∈ p0, x.block < W.heap.size := by obtain ⟨m, hm⟩ := k0; exact DataW.trod_lt m _ _ _ hm
  obtain ⟨f0, h0⟩ := h0
  obtain ⟨xs0, rfl, hc0, hm0, g0, s0⟩ := open_sl (sz := 1) (ec := byteC) Try.underlying22 (by kernel_rfl) (by omega) byteC_length (el_byte Try.underlying5) h0
  clear hA0 hval0
  refine (FnDistinctFree_walk a0 c0 xs0 W hc0 hm0 g0 s0).mono fun e W' ⟨he, bel⟩ => ?_
  subst he
  exact ⟨_, rfl, _, _, _, [], _, [], hW', trodAll_mk1 (shut_bool Try.underlying4 _), (trodAll_cons_mk (Below.trod laidOut (by kernel_rfl) (of_decide_eq_true (by kernel_rfl)) k0 bel lt0) trodAll_mk0), rfl, bel.frame _, fun h => by cases h⟩

theorem over : Rows.fnDistinctFreeRow.holds Try.pinned (OpenSpec.ofChange Rows.fnDistinctFreeSpec) :=
  OpenClaim.holds_of_wide 6 Try.f6 rfl rfl rfl rfl rfl rfl rfl ⟨rfl, rfl, rfl, rfl, rfl⟩ rfl rfl rfl rfl rfl (by kernel_rfl) Try.func6 (by kernel_rfl)
    (of_decide_eq_true (by kernel_rfl)) (by unfold Func.isWrapper; first | (rw [if_pos (by decide +kernel)]; kernel_rfl) | (rw [if_neg (by decide +kernel)]; exact ⟨rfl, rfl⟩))
    (fun os started H enc _ => lifted os started H enc)

theorem proved : Rows.FnDistinctFreeSaid := over
end lawFnDistinctFree
#print axioms lawFnDistinctFree.proved

end Go.Proofs.Ytooeicfhciefoaa
