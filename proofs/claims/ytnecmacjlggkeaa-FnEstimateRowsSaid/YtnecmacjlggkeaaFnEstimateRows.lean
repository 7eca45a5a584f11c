/-
  FnEstimateRows returns true for all bytes and leaves them as they were. No condition.
-/
import Derived.Test.YtnecmacjlggkeaaRows
import Derived.OpenShut
import Derived.Test.YtnecmacjlggkeaaDrE
import Derived.Test.YtnecmacjlggkeaaEsb
import Derived.Test.YtnecmacjlggkeaaEsL
import Derived.Test.YtnecmacjlggkeaaRbT
import Derived.Test.YtnecmacjlggkeaaArgB
namespace Go.Proofs.Ytnecmacjlggkeaa
open Go.RowKit Go.Qo
open Go.ChangeShapes Go.WideShapes Go.ChangeAt
set_option linter.unusedVariables false
set_option linter.unusedSimpArgs false

theorem est_rb {ss : List St} {p : Pl} (h : esOk ss p) : p.est ss ≤ rbR (wsOf ss) (ss.map St.rows) p := by
  have hw := esOk_w h
  rw [rbR_yes ⟨h.2, by simp [wsOf], csOk_of h.1⟩]
  exact est_le_bd h.1 _ _ 8 hw.2.1
set_option maxRecDepth 20000 in
set_option maxHeartbeats 4000000 in
theorem FnEstimateRows_walk (A : Option Addr) (c : Nat) (xs : List Int) (w : World) (hc : xs.length ≤ c) (hm : c ≤ maxLen) (hg : ∀ x ∈ xs, 0 ≤ x ∧ x ≤ 255) (h : Sl 1 byteC w w.heap.size A xs) :
    Calls Try.prog 6 #[.slice A xs.length c] w fun e w' => e = .returned (.bool true) ∧ Below w.heap.size w w' := by
  have HD := Lib.hid (drawEstimateRows_ok A c xs w hc hm hg h)
  have hx63 : xs.length ≤ 9223372036854775807 := by unfold maxLen at hm; omega
  clear h hg hc hm
  by_cases hx : (1048576 : Int) < xs.length
  · clear HD
    go_enter Try.func6, Try.ntmps6
    go_wp2
    go_ret
    exact ⟨rfl, Below.refl _ _⟩
  go_enter Try.func6, Try.ntmps6
  go_wp2_with fail
  refine HD.out.mono ?_
  rintro e w3 ⟨pf, px, A2, m, c2, fs, ss, rfl, hpt, ho, hst, hsl, hm, hsm, hb3⟩
  subst hsl
  unfold fpV
  obtain ⟨R, hR⟩ : ∃ R, erP ss px = R := ⟨_, rfl⟩
  obtain ⟨W4, hW4⟩ : ∃ z, w3.alloc (.cells #[.int .i64 pf.kind, .int .i64 pf.table, .slice pf.es.A pf.es.n pf.es.c, .slice pf.cs.A pf.cs.n pf.cs.c, .slice pf.ks.A pf.ks.n pf.ks.c] 27) = z := ⟨_, rfl⟩
  have B4 : Below w3.heap.size w3 W4 := by rw [← hW4]; exact balloc (Below.refl _ _) _
  have r4 : Row W4 w3.heap.size 27 (fpC pf) := by rw [← hW4]; exact Row.new _ _ _
  have BX := Lib.hid (fun (z : World) (hz : Below W4.heap.size W4 z) => show (z.cell? ⟨w3.heap.size, 0, none⟩ = some (.int .i64 pf.kind) ∧ z.cell? ⟨w3.heap.size, 1, none⟩ = some (.int .i64 pf.table) ∧ z.cell? ⟨w3.heap.size, 2, none⟩ = some (.slice pf.es.A pf.es.n pf.es.c) ∧ z.cell? ⟨w3.heap.size, 3, none⟩ = some (.slice pf.cs.A pf.cs.n pf.cs.c) ∧ z.cell? ⟨w3.heap.size, 4, none⟩ = some (.slice pf.ks.A pf.ks.n pf.ks.c)) from ⟨(r4.on hz).cell 0, (r4.on hz).cell 1, (r4.on hz).cell 2, (r4.on hz).cell 3, (r4.on hz).cell 4⟩)
  have hsi := StsT.in_ hst ho
  have KI := Lib.hid (fun (z : World) (hz : Below w3.heap.size w3 z) => implEstimateRows_ok px pf ss A2 c2 z R (hpt.in_.on hz) (hsi.on hz) hsm (by omega) hR)
  have KS := Lib.hid (fun (z : World) (hz : Below w3.heap.size w3 z) => specEstimateRows_ok px pf ss A2 c2 z R (hpt.in_.on hz) (hsi.on hz) hsm (by omega) hR)
  have HSI := Lib.hid (fun (z : World) (hz : Below w3.heap.size w3 z) => hsi.on hz)
  unfold fpV at KI KS
  have HR := Lib.hid hR
  have HB3 := Lib.hid (And.intro hb3 B4)
  have HW4 := Lib.hid hW4
  have HP := Lib.hid hpt
  obtain ⟨x0, x1, x2, x3, x4⟩ := BX.out _ (Below.refl _ _)
  clear hpt ho hst hsm hb3 B4 r4 hW4 hR HD hsi
  go_upto_region 4 with fail
  rw [HW4.out]
  go_wp2_with fail
  refine (KI.out _ HB3.out.2).mono ?_
  rintro e w5 ⟨rfl, hb5⟩
  have H5 := Lib.hid hb5
  obtain ⟨x0, x1, x2, x3, x4⟩ := BX.out _ hb5
  clear hb5
  go_wp2_with fail
  refine (KS.out _ (bch HB3.out.2 H5.out)).mono ?_
  rintro e w6 ⟨rfl, hb6⟩
  have H6 := Lib.hid (bch H5.out hb6)
  obtain ⟨x0, x1, x2, x3, x4⟩ := BX.out _ H6.out
  clear hb6
  have hnn : (R != R) = false := by simp
  by_cases hRn : R < 0
  · have hee : (R == R) = true := by simp
    go_wp2_with fail
    refine (KS.out _ (bch HB3.out.2 H6.out)).mono ?_
    rintro e w7 ⟨rfl, hb7⟩
    have H7 := Lib.hid (bch H6.out hb7)
    clear hb7
    go_wp2
    go_ret
    exact ⟨rfl, bch HB3.out.1 (bch HB3.out.2 H7.out)⟩
  · have hok : esOk ss px := Classical.byContradiction fun hn => by have := HR.out; rw [erP_no hn] at this; omega
    have hle : R ≤ rbR (wsOf ss) (ss.map St.rows) px := by have := est_rb hok; rw [← erP_yes hok, HR.out] at this; exact this
    obtain ⟨Q, hQ⟩ : ∃ q, rbR (wsOf ss) (ss.map St.rows) px = q := ⟨_, rfl⟩
    rw [hQ] at hle
    have HQ := Lib.hid hQ
    clear hQ hok
    have KB := Lib.hid (fun (A A' : Option Addr) (c c' n : Nat) (z : World) (hz : Below w3.heap.size w3 z) (hn : ss.length = n) (h1 : Sl 1 intC z z.heap.size A (wsOf ss)) (h2 : Sl 1 intC z z.heap.size A' (ss.map St.rows)) => by
      have := implRowBound_ok px pf (wsOf ss) (ss.map St.rows) A A' c c' z Q (HP.out.in_.on hz) (by rw [wsOf_length]; unfold maxLen; omega) (by rw [List.length_map]; unfold maxLen; omega) h1 h2 HQ.out
      rw [wsOf_length, List.length_map, hn] at this
      exact this)
    unfold fpV at KB
    obtain ⟨W7, hW7⟩ : ∃ z, w6.alloc (.cells #[] 3) = z := ⟨_, rfl⟩
    obtain ⟨W8, hW8⟩ : ∃ z, W7.alloc (.cells #[] 3) = z := ⟨_, rfl⟩
    have b7 : Below w6.heap.size w6 W7 := by rw [← hW7]; exact balloc (Below.refl _ _) _
    have b8 : Below W7.heap.size W7 W8 := by rw [← hW8]; exact balloc (Below.refl _ _) _
    have s7 : W7.heap.size = w6.heap.size + 1 := by rw [← hW7]; simp
    have HO7 := Lib.hid ((show Ow w6.heap.size 3 1 intC W7 (.slice (some ⟨w6.heap.size, 0, none⟩) 0 0) ([] : List Int) by rw [← hW7]; exact Ow.lit (xs := ([] : List Int)) rfl rfl (Nat.le_refl _) (by decide)).on b8)
    have HO8 := Lib.hid (show Ow w6.heap.size 3 1 intC W8 (.slice (some ⟨w6.heap.size + 1, 0, none⟩) 0 0) ([] : List Int) by rw [← hW8, ← s7]; exact Ow.lit (xs := ([] : List Int)) rfl rfl (by omega) (by decide))
    have H8 := Lib.hid (bch b7 b8)
    have HW7 := Lib.hid hW7
    have HW8 := Lib.hid hW8
    clear hW7 hW8 b7 b8 s7
    go_upto_region 9 with fail
    rw [HW7.out, HW8.out]
    go_wp2
    go_loopg [6, 7, 8] ss.length (fun g v6 v7 iv wr => ∃ i : Nat, i ≤ ss.length ∧ g = ss.length - i ∧ iv = .int .i64 i ∧ Ow w6.heap.size 3 1 intC wr v6 ((wsOf ss).take i) ∧ Ow w6.heap.size 3 1 intC wr v7 ((ss.map St.rows).take i) ∧ (∀ b, v6.ownBlock = some b → v7.ownBlock ≠ some b) ∧ Below w6.heap.size w6 wr)
    case atStart => exact ⟨0, by omega, by omega, rfl, by rw [List.take_zero]; exact HO7.out, by rw [List.take_zero]; exact HO8.out, fun b hb hb2 => by have e1 : some w6.heap.size = some b := hb; have e2 : some (w6.heap.size + 1) = some b := hb2; injection e1; injection e2; omega, H8.out⟩
    case round =>
      obtain ⟨wq, hwq⟩ : ∃ z, z = wr := ⟨_, rfl⟩
      subst hwq
      obtain ⟨i, hi, rfl, rfl, how6, how7, hap, hb⟩ := hrel
      have HO := Lib.hid (And.intro how6 (And.intro how7 hap))
      have HB := Lib.hid hb
      have hbw4 := bch H6.out hb
      clear how6 how7 hap hb
      by_cases hil : i < ss.length
      · have hiI : (i : Int) < (ss.length : Int) := by omega
        obtain ⟨bs, os, sf, hAs, hBs, hFs, hsi⟩ := (HSI.out _ (Below.refl _ _)).at_ hil
        have HF := Lib.hid (fun (z : World) (hz : Below w3.heap.size w3 z) => hFs.below hz hBs)
        have h3q := bch HB3.out.2 hbw4
        obtain ⟨f0, f1, f2⟩ := HF.out _ h3q
        have hbq : bs < wq.heap.size := Nat.lt_of_lt_of_le hBs h3q.size
        have Hst := Lib.hid (wsOf_take hil)
        have hrt : (ss.map St.rows).take (i + 1) = (ss.map St.rows).take i ++ [(ss[i]).rows] := by
          have hl : i < (ss.map St.rows).length := by rw [List.length_map]; exact hil
          rw [List.take_add_one, List.getElem?_eq_getElem hl]
          simp
        have hfr := hsi.1
        have hfd := hsi.2.1.1
        rw [hfd] at f1
        rw [hfr] at f0
        have Hrt := Lib.hid hrt
        have Hfd := Lib.hid (And.intro hfr hfd)
        clear hrt hfr hfd hsi hFs
        generalize (ss[i]).dist.length = dl at *
        generalize (ss[i]).rows = rl at *
        subst hAs
        obtain ⟨U1, hU1⟩ : ∃ z, wq.alloc (.cells #[.int .i64 dl] 3) = z := ⟨_, rfl⟩
        have u1 : Below wq.heap.size wq U1 := by rw [← hU1]; exact balloc (Below.refl _ _) _
        have HOd := Lib.hid (HO.out.1.on u1)
        have HOn := Lib.hid (HO.out.2.1.on u1)
        have HS1 := Lib.hid (show Sl 1 intC U1 U1.heap.size (some ⟨wq.heap.size, 0, none⟩) [(dl : Int)] by rw [← hU1]; exact Row.sl' (t := 3) intC_length ((Row.new wq _ _).of rfl))
        have HB1 := Lib.hid (And.intro u1 (bch HB.out u1))
        have hlo1 : w6.heap.size ≤ U1.heap.size := HB1.out.2.size
        have hcl6 : ((wsOf ss).take i).length ≤ 1000 := by rw [List.length_take, wsOf_length]; omega
        have hcl7 : ((ss.map St.rows).take i).length ≤ 1000 := by rw [List.length_take, List.length_map]; omega
        have HU1 := Lib.hid hU1
        clear hU1 u1
        go_upto_region 13 with (at_builtin; rw [HU1.out]; refine wpList_app2 rfl (.tmp 42) (.tmp 49) 24 rfl w6.heap.size 3 _ 1 8 intC Try.underlying24 zeroIntG rfl (by decide) (by decide) intC_length intC_one u6 _ rfl HOd.out (some ⟨wq.heap.size, 0, none⟩) 1 1 [(dl : Int)] rfl rfl HS1.out (by simp only [List.length_singleton]; omega) hlo1 ?_; intro v1 w1 hown1 hgr1 hob1)
        have hbw1 : Below w6.heap.size w6 w1 := ((only_below (S := fun _ => False) HB1.out.2).grown hgr1 fun k hk => .inr (HOd.out.ty k hk).1).old fun _ _ h => h
        have h31 := bch HB3.out.2 (bch H6.out hbw1)
        obtain ⟨g0, g1, g2⟩ := HF.out _ h31
        rw [Hfd.out.1] at g0
        have hbs1 : bs < w1.heap.size := Nat.lt_of_lt_of_le hBs h31.size
        have hn1 := HOn.out.apart2 (S := fun b => u6.ownBlock = some b) ((Only.refl (S := fun b => u6.ownBlock = some b) U1).grown hgr1 fun q e => .inl e) (fun b hb hS => HO.out.2.2 b hS hb)
        obtain ⟨U2, hU2⟩ : ∃ z, w1.alloc (.cells #[.int .i64 rl] 3) = z := ⟨_, rfl⟩
        have u2 : Below w1.heap.size w1 U2 := by rw [← hU2]; exact balloc (Below.refl _ _) _
        have hz1 : w1.heap.size < U2.heap.size := by rw [← hU2]; simp
        have hxn : ∀ b, v1.ownBlock = some b → u7.ownBlock ≠ some b := by
          intro b hb e
          rcases hob1 with h1 | h1
          · exact HO.out.2.2 b (h1 ▸ hb) e
          · have := (HOn.out.ty b e).2.1
            rw [h1] at hb
            cases hb
            omega
        have HOd2 := Lib.hid (hown1.on u2)
        have HOn2 := Lib.hid (hn1.on u2)
        have HS2 := Lib.hid (show Sl 1 intC U2 U2.heap.size (some ⟨w1.heap.size, 0, none⟩) [rl] by rw [← hU2]; exact Row.sl' (t := 3) intC_length ((Row.new w1 _ _).of rfl))
        have HB2 := Lib.hid (bch hbw1 u2)
        have hlo2 : w6.heap.size ≤ U2.heap.size := HB2.out.size
        have Hxn := Lib.hid hxn
        have HU2 := Lib.hid hU2
        clear hU2 u2 hxn hn1 hown1 hgr1 hob1 hbw1 h31 f0 f1 f2
        go_wp2_with (at_builtin; rw [HU2.out]; refine wpList_app2 rfl (.tmp 51) (.tmp 57) 24 rfl w6.heap.size 3 _ 1 8 intC Try.underlying24 zeroIntG rfl (by decide) (by decide) intC_length intC_one u7 _ rfl HOn2.out (some ⟨w1.heap.size, 0, none⟩) 1 1 [rl] rfl rfl HS2.out (by simp only [List.length_singleton]; omega) hlo2 ?_; intro v2 w2 hown2 hgr2 hob2)
        go_roundg (ss.length - (i + 1))
        case measure => omega
        case rel =>
          have hfd2 := fun b hb => (HOd2.out.ty b hb).2.1
          refine ⟨i + 1, by omega, rfl, by go_num, ?_, ?_, ?_, ?_⟩
          · rw [Hst.out]
            exact HOd2.out.apart2 (S := fun b => u7.ownBlock = some b) ((Only.refl (S := fun b => u7.ownBlock = some b) U2).grown hgr2 fun q e => .inl e) (fun b hb hS => Hxn.out b hb hS)
          · rw [Hrt.out]; exact hown2
          · intro b hb e
            rcases hob2 with h1 | h1
            · exact Hxn.out b hb (h1 ▸ e)
            · have := hfd2 b hb
              rw [h1] at e
              cases e
              omega
          · exact ((only_below (S := fun _ => False) HB2.out).grown hgr2 fun k hk => .inr (HOn2.out.ty k hk).1).old fun _ _ h => h
      · have hiI : ¬ (i : Int) < (ss.length : Int) := by omega
        have ht6 : (wsOf ss).take i = wsOf ss := List.take_of_length_le (by rw [wsOf_length]; omega)
        have ht7 : (ss.map St.rows).take i = ss.map St.rows := List.take_of_length_le (by rw [List.length_map]; omega)
        have h6 := HO.out.1
        have h7 := HO.out.2.1
        rw [ht6] at h6
        rw [ht7] at h7
        obtain ⟨n, hn⟩ : ∃ n, ss.length = n := ⟨_, rfl⟩
        obtain ⟨A6, c6, rfl, hc61, hc62, hs6⟩ := h6.shape intC_length
        obtain ⟨A7, c7, rfl, hc71, hc72, hs7⟩ := h7.shape intC_length
        have K := Lib.hid (KB.out A6 A7 c6 c7 n _ (bch HB3.out.2 hbw4) hn hs6.sl hs7.sl)
        obtain ⟨x0, x1, x2, x3, x4⟩ := BX.out _ hbw4
        have l6 : (wsOf ss).length = n := by rw [wsOf_length]; exact hn
        have l7 : (ss.map St.rows).length = n := by rw [List.length_map]; exact hn
        rw [l6, l7]
        have HN := Lib.hid hn
        clear ht6 ht7 h6 h7 hs6 hs7 hc61 hc62 hc71 hc72 l6 l7 hn
        go_wp2_with fail
        refine K.out.mono ?_
        rintro e w11 ⟨rfl, hb11⟩
        go_wp2
        go_ret
        exact ⟨rfl, bch HB3.out.1 (bch HB3.out.2 (bch hbw4 hb11))⟩

namespace lawFnEstimateRows
theorem own : ownKnob Try.prog.godebug = none := by kernel_rfl
theorem laidOut : laidOutB Try.prog = true := by kernel_rfl

set_option maxRecDepth 100000 in
theorem lifted (os : Os) (started : os.Started) (H : Type) (enc : TypeId × Value → H) :
    ReturnsInHanded {} Try.checked os 6 .any (Rows.fnEstimateRowsSpec.pre6 enc Try.prog Try.f6 Rows.fnEstimateRowsRow.domain false) (Rows.fnEstimateRowsSpec.post enc Try.prog Try.f6 false true false false) := by
  refine returnsInHanded_of_change (C := Try.checked) own started (by kernel_rfl) Try.func6
    (ChangeSpec.witness6 (enc := enc) (C := Try.checked) false ⟨#[], #[.slice none 0 0], []⟩ 8 (by kernel_rfl) (by kernel_rfl) (by kernel_rfl) (by kernel_rfl)) ?_
  intro W base args ds gs before hval0 hW hcnd _
  have hval : ∀ (j : Nat) t v, Try.f6.params[j]? = some t → args[j]? = some v → Value.okWide Try.prog W .any base t v := hval0
  have hW' := hW
  obtain ⟨p, q, hA0, hV, rfl, hfz, hnd⟩ := hW
  have hA : DataW.TrodAll enc Try.prog W 0 (fun _ => true) true Try.f6.params.toList args.toList ds p := hA0
  rw [Try.params6] at hA hval
  obtain ⟨v0, vs0, d0, ds0, p0, q0, hargs, rfl, rfl, h0, r0⟩ := trodAll_cons hA
  obtain ⟨rfl, rfl, rfl⟩ := trodAll_nil r0
  obtain rfl : args = #[v0] := by cases args; simp_all
  obtain ⟨rfl, rfl⟩ := trodVars_none hV
  obtain ⟨a0, len0, c0, rfl⟩ := okWide_slice Try.underlying22 (hval 0 22 v0 rfl rfl)
  have k0 := h0
  have lt0 : ∀ x ∈ p0, x.block < W.heap.size := by obtain ⟨m, hm⟩ := k0; exact DataW.trod_lt m _ _ _ hm
  obtain ⟨f0, h0⟩ := h0
  obtain ⟨xs0, rfl, hc0, hm0, g0, s0⟩ := open_sl (sz := 1) (ec := byteC) Try.underlying22 (by kernel_rfl) (by omega) byteC_length (el_byte Try.underlying5) h0
  clear hA0 hval0
  refine (FnEstimateRows_walk a0 c0 xs0 W hc0 hm0 g0 s0).mono fun e W' ⟨he, bel⟩ => ?_
  subst he
  exact ⟨_, rfl, _, _, _, [], _, [], hW', trodAll_mk1 (shut_bool Try.underlying4 _), (trodAll_cons_mk (Below.trod laidOut (by kernel_rfl) (of_decide_eq_true (by kernel_rfl)) k0 bel lt0) trodAll_mk0), rfl, bel.frame _, fun h => by cases h⟩

theorem over : Rows.fnEstimateRowsRow.holds Try.pinned (OpenSpec.ofChange Rows.fnEstimateRowsSpec) :=
  OpenClaim.holds_of_wide 6 Try.f6 rfl rfl rfl rfl rfl rfl rfl ⟨rfl, rfl, rfl, rfl, rfl⟩ rfl rfl rfl rfl rfl (by kernel_rfl) Try.func6 (by kernel_rfl)
    (of_decide_eq_true (by kernel_rfl)) (by unfold Func.isWrapper; first | (rw [if_pos (by decide +kernel)]; kernel_rfl) | (rw [if_neg (by decide +kernel)]; exact ⟨rfl, rfl⟩))
    (fun os started H enc _ => lifted os started H enc)

theorem proved : Rows.FnEstimateRowsSaid := over
end lawFnEstimateRows
#print axioms lawFnEstimateRows.proved

end Go.Proofs.Ytnecmacjlggkeaa
