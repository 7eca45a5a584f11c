/-
  Contract of the reference's NotIn.
-/
import Derived.Test.YtldndapcbgaliaaProg
import Derived.Test.YtldndapcbgaliaaSmjK
namespace Go.Proofs.Ytldndapcbgaliaa
open Go.RowKit Go.Qo
set_option linter.unusedVariables false
set_option linter.unusedSimpArgs false

theorem resSpecNotIn {b : Nat} {v0 v1 : Value} {r : Bool} (tmps : Array Value) (hp : tmps.getD 8 undef = .pointer (some ⟨b, 0, none⟩)) (hr : tmps.getD 9 undef = .bool r) (w : World) (c0 : w.cell? ⟨b, 0, none⟩ = some v0) (c1 : w.cell? ⟨b, 1, none⟩ = some v1) :
    (results Try.f21 tmps).run Try.prog w = .ok (.tuple #[.agg #[v0, v1], .bool r]) w := by
  simp only [Array.getD_eq_getD_getElem?] at hp hr
  simp [results, Try.results21, go_sem, hp, hr, c0, c1]

set_option maxRecDepth 20000 in
set_option maxHeartbeats 4000000 in
theorem specNotIn_ok (W W' : Int) (A A' : Option Addr) (c c' : Nat) (svs : List SV) (xs ys : List Row1) (ca cb : Int) (w : World) (hn : xs.length ≤ 1048576) (hn' : ys.length ≤ 1048576) (hs : Sl 1 svC w w.heap.size A svs) (hT : RowsT 40 2 valC 0 w svs xs) (h' : Rws w w.heap.size A' ys) (q : Bool) (hq : q = true ↔ ((TabOk W xs ∧ 0 ≤ ca ∧ ca < W) ∧ (TabOk W' ys ∧ 0 ≤ cb ∧ cb < W'))) :
    Calls Try.prog 21 #[.agg #[.int .i64 W, .slice A xs.length c], .agg #[.int .i64 W', .slice A' ys.length c'], .int .i64 ca, .int .i64 cb] w (SpecTab q W (xs.filter (pNotIn ca.toNat cb.toNat ys)) w) := by
  have Hq := Lib.hid hq
  obtain ⟨W0, hW0⟩ : ∃ z, ((w.alloc (.cells #[.int .i64 W, .slice A xs.length c] 25)).alloc (.cells #[.int .i64 W', .slice A' ys.length c'] 25)).alloc (.cells #[.int .i64 0, .slice none 0 0] 25) = z := ⟨_, rfl⟩
  have B0 : Below w.heap.size w W0 := by rw [← hW0]; exact balloc (balloc (balloc (Below.refl _ _) _) _) _
  have r0 : Row W0 w.heap.size 25 [.int .i64 W, .slice A xs.length c] := by rw [← hW0]; exact ((Row.new _ _ _).alloc _).alloc _
  have r1 : Row W0 (w.heap.size + 1) 25 [.int .i64 W', .slice A' ys.length c'] := by rw [← hW0]; exact (Row.second _ _ _ _).alloc _
  have r2 : Row W0 (w.heap.size + 2) 25 [.int .i64 0, .slice none 0 0] := by rw [← hW0]; exact Row.third _ _ _ _ _
  have H1 := Lib.hid (specValidJoin_ok W W' A A' c c' xs ys ca cb W0 hn hn' ((sls_of' hs hT).on B0) (h'.on B0) q hq)
  have HW := Lib.hid hW0
  have HB0 := Lib.hid B0
  have HR0 := Lib.hid (And.intro r0 (And.intro r1 r2))
  have a0 : W0.cell? ⟨w.heap.size, 0, none⟩ = some (.int .i64 W) := r0.cell 0
  have a1 : W0.cell? ⟨w.heap.size, 1, none⟩ = some (.slice A xs.length c) := r0.cell 1
  have b0 : W0.cell? ⟨w.heap.size + 1, 0, none⟩ = some (.int .i64 W') := r1.cell 0
  have b1 : W0.cell? ⟨w.heap.size + 1, 1, none⟩ = some (.slice A' ys.length c') := r1.cell 1
  have HS0 := Lib.hid (And.intro hs (And.intro hT h'))
  clear hq hs hT h' B0 r0 r1 r2 hW0
  cases q
  · go_enter Try.func21, Try.ntmps21
    go_upto_region 1 with fail
    rw [HW.out]
    go_wp2_with fail
    refine H1.out.mono ?_
    rintro e w1 ⟨rfl, hb1⟩
    have r2 := HR0.out.2.2.on hb1
    have e0 : w1.cell? ⟨w.heap.size + 2, 0, none⟩ = some (.int .i64 0) := r2.cell 0
    have e1 : w1.cell? ⟨w.heap.size + 2, 1, none⟩ = some (.slice none 0 0) := r2.cell 1
    have f0 := r2.frozen 0
    have f1 := r2.frozen 1
    have l2 := r2.lt
    have H1' := Lib.hid (bch HB0.out hb1)
    clear hb1 r2
    go_wp2
    refine bodyPost_ret (resSpecNotIn (b := w.heap.size + 2) (r := false) _ rfl rfl _ (v0 := .int .i64 0) (v1 := .slice none 0 0) (by simp [go_sem, e0, e1, l2]) (by simp [go_sem, e0, e1, l2])) rfl ?_
    exact SpecTab.no ((H1'.out.setCell (p := ⟨w.heap.size + 2, 0, none⟩) (by simp) _).setCell (p := ⟨w.heap.size + 2, 1, none⟩) (by simp) _)
  · obtain ⟨⟨hT1, hca0, hca1⟩, ⟨hT2, hcb0, hcb1⟩⟩ := Hq.out.1 rfl
    obtain ⟨ci, hci⟩ : ∃ n : Nat, ca = n := ⟨ca.toNat, by omega⟩
    obtain ⟨cj, hcj⟩ : ∃ n : Nat, cb = n := ⟨cb.toNat, by omega⟩
    subst hci
    subst hcj
    rw [show ((cj : Nat) : Int).toNat = cj from by omega, show ((ci : Nat) : Int).toNat = ci from by omega]
    obtain ⟨P, hP⟩ : ∃ P : Row1 → Bool, pNotIn ci cj ys = P := ⟨_, rfl⟩
    rw [hP]
    have HPP := Lib.hid hP
    have HTT := Lib.hid (And.intro hT1 (And.intro hT2 (And.intro hca1 hcb1)))
    have hx4 : xs.length ≤ 400 := hT1.2.2.1
    have hy4 : ys.length ≤ 400 := hT2.2.2.1
    clear hT1 hca0 hca1 hT2 hcb0 hcb1 hP
    go_enter Try.func21, Try.ntmps21
    go_upto_region 1 with fail
    rw [HW.out]
    go_wp2_with fail
    refine H1.out.mono ?_
    rintro e w2 ⟨rfl, hb2⟩
    have HB2 := Lib.hid (bch HB0.out hb2)
    have HR2 := Lib.hid (And.intro (HR0.out.1.on hb2) (And.intro (HR0.out.2.1.on hb2) (HR0.out.2.2.on hb2)))
    have HS := Lib.hid (show Sl 1 svC w2 w2.heap.size A svs ∧ RowsT 40 2 valC 0 w2 svs xs ∧ Rws w2 w2.heap.size A' ys from ⟨HS0.out.1.on HB2.out, HS0.out.2.1.on HB2.out, HS0.out.2.2.on HB2.out⟩)
    clear a0 a1 b0 b1 hb2
    have a0 : w2.cell? ⟨w.heap.size, 0, none⟩ = some (.int .i64 W) := HR2.out.1.cell 0
    have a1 : w2.cell? ⟨w.heap.size, 1, none⟩ = some (.slice A xs.length c) := HR2.out.1.cell 1
    have b0 : w2.cell? ⟨w.heap.size + 1, 0, none⟩ = some (.int .i64 W') := HR2.out.2.1.cell 0
    have b1 : w2.cell? ⟨w.heap.size + 1, 1, none⟩ = some (.slice A' ys.length c') := HR2.out.2.1.cell 1
    -- how it ends
    have FIN : Hid (∀ (z : World) (v1 : Value) (sv1 : List SV) (out : List Row1), Below w.heap.size w z → Row z (w.heap.size + 2) 25 [.int .i64 0, .slice none 0 0] → (if (xs.filter P).length ≤ 400 then Built (xs.filter P) out else out = []) → Ow w2.heap.size 41 1 svC z v1 sv1 → RowsT 40 2 valC 0 z sv1 out →
        SpecTab true W (xs.filter P) w (.returned (.tuple #[.agg #[.int .i64 W, v1], .bool true])) ((z.setCell ⟨w.heap.size + 2, 0, none⟩ (.int .i64 W)).setCell ⟨w.heap.size + 2, 1, none⟩ v1)) := Lib.hid (by
      intro z v1 sv1 out hb r2 hout how1 hrt1
      have hS0 := (Only.set (S := fun i => i = w.heap.size + 2) (p := ⟨w.heap.size + 2, 0, none⟩) (Only.refl z) (.inl rfl) (.int .i64 W)).set (p := ⟨w.heap.size + 2, 1, none⟩) (.inl rfl) v1
      exact ⟨W, _, sv1, out, rfl, .inr ⟨rfl, rfl, hout⟩, (how1.only hS0 fun q hq => .inr ⟨25, by decide, by subst hq; exact r2.ty⟩).low HB2.out.size, hrt1.only hS0 fun q hq => .inr ⟨25, by decide, by subst hq; exact r2.ty⟩, (hb.setCell (p := ⟨w.heap.size + 2, 0, none⟩) (by simp) _).setCell (p := ⟨w.heap.size + 2, 1, none⟩) (by simp) _⟩)
    by_cases hz : ys.length = 0
    · have hz0 : ((ys.length : Int) == 0) = true := by simp [hz]
      have hfx : xs.filter P = xs := by
        rw [← HPP.out]
        refine List.filter_eq_self.2 fun r _ => ?_
        unfold pNotIn
        rw [if_pos hz]
      have HFX := Lib.hid hfx
      have HTF := Lib.hid (tableOf_ok 0 W A c svs xs w2 (Nat.zero_le _) (by omega) (fun r hr => by have := rowValid_len (tabRowOk_ HTT.out.1 r hr).1; omega) HS.out.1 HS.out.2.1)
      clear hz hfx
      go_wp2_with fail
      refine HTF.out.mono ?_
      rintro e w3 ⟨v3, sv3, out, rfl, hout, how3, hrt3, hb3⟩
      obtain ⟨A3, c3, rfl, _, _, _⟩ := how3.shape svC_length
      have r2 := HR2.out.2.2.on hb3
      have e0 : w3.cell? ⟨w.heap.size + 2, 0, none⟩ = some (.int .i64 0) := r2.cell 0
      have e1 : w3.cell? ⟨w.heap.size + 2, 1, none⟩ = some (.slice none 0 0) := r2.cell 1
      have f0 := r2.frozen 0
      have f1 := r2.frozen 1
      have l2 := r2.lt
      generalize sv3.length = nn at *
      have HF := Lib.hid (And.intro hout (And.intro how3 (And.intro hrt3 (And.intro hb3 r2))))
      clear hout how3 hrt3 hb3 r2
      go_wp2
      refine bodyPost_ret (resSpecNotIn (b := w.heap.size + 2) (r := true) _ rfl rfl _ (v0 := .int .i64 W) (v1 := .slice A3 nn c3) (by simp [go_sem, e0, e1, l2]) (by simp [go_sem, e0, e1, l2])) rfl ?_
      obtain ⟨hout, how1, hrt1, hb1, r2⟩ := HF.out
      exact FIN.out _ _ _ _ (bch HB2.out hb1) r2 (by rw [HFX.out]; exact hout) how1 hrt1
    · have hz0 : ((ys.length : Int) == 0) = false := by rw [beq_eq_false_iff_ne]; omega
      obtain ⟨hv, hhv⟩ : ∃ hv, ys.any (isNl cj) = hv := ⟨_, rfl⟩
      have hPx : ∀ x, P x = (!hv && !isNl ci x && !rMt ci cj ys x) := fun x => by
        rw [← HPP.out, ← hhv, hasNl_iff, rMt_mt]
        unfold pNotIn
        rw [if_neg hz, Bool.not_not]
      have HPX := Lib.hid hPx
      have HV := Lib.hid hhv
      clear hz hPx hhv
      go_wp2
      go_loopg [10, 11] (xs.length) (fun g v i wr => ∃ (k : Nat) (sv : List SV), k ≤ xs.length ∧ g = xs.length - k ∧ i = .int .i64 k ∧ Ow w2.heap.size 41 1 svC wr v sv ∧ RowsT 40 2 valC 0 wr sv ((xs.take k).filter P) ∧ Below w2.heap.size w2 wr)
      case atStart => exact ⟨0, [], by omega, by omega, rfl, Ow.lit (w := w2) (lo := w2.heap.size) (e := 41) (enc := svC) (xs := ([] : List SV)) (cs := #[]) (sz := 1) rfl rfl (Nat.le_refl _) (by decide), RowsT.nil, balloc (Below.refl _ _) _⟩
      case round =>
        obtain ⟨k, sv, hk, rfl, rfl, how, hrt, hb⟩ := hrel
        obtain ⟨Av, cv, rfl, hcv1, hcv2, hsv⟩ := how.shape svC_length
        have hsl := hrt.1
        have hbl : ((xs.take k).filter P).length ≤ k := by have := List.length_filter_le P (xs.take k); rw [List.length_take] at this; omega
        have HI := Lib.hid (And.intro how (And.intro hrt hb))
        have r0 := HR2.out.1.on hb
        have r1 := HR2.out.2.1.on hb
        have a0 : wr.cell? ⟨w.heap.size, 0, none⟩ = some (.int .i64 W) := r0.cell 0
        have a1 : wr.cell? ⟨w.heap.size, 1, none⟩ = some (.slice A xs.length c) := r0.cell 1
        have b0 : wr.cell? ⟨w.heap.size + 1, 0, none⟩ = some (.int .i64 W') := r1.cell 0
        have b1 : wr.cell? ⟨w.heap.size + 1, 1, none⟩ = some (.slice A' ys.length c') := r1.cell 1
        have l0 := r0.lt
        have l1 := r1.lt
        have hsvl : sv.length ≤ 400 := by omega
        have HSL := Lib.hid (And.intro hsl hbl)
        have HSV := Lib.hid (And.intro hsv (And.intro hcv1 hcv2))
        clear how hrt r0 r1 hb hsl hbl hsv hcv1 hcv2
        by_cases hlt : k < xs.length
        · obtain ⟨x, hx⟩ : ∃ x, xs[k]? = some x := ⟨_, List.getElem?_eq_getElem hlt⟩
          have hkl : k < svs.length := by rw [HS.out.2.1.1]; exact hlt
          obtain ⟨s, hsk⟩ : ∃ s, svs[k]? = some s := ⟨_, List.getElem?_eq_getElem hkl⟩
          obtain ⟨hsn, hsc, hscm, hsT⟩ := (HS.out.2.1.on HI.out.2.2).2 k s x hsk hx
          obtain ⟨b2, off2, hA2, hB2, hc2⟩ := (HS.out.1.on HI.out.2.2) (by omega)
          subst hA2
          have c2 : wr.cell? ⟨b2, off2 + k, none⟩ = some (.slice s.A x.length s.c) := by
            have := hc2 k s hsk 0 _ rfl
            rw [Nat.mul_one, Nat.add_zero, hsn] at this
            exact this
          have hxo := tabRowOk_ HTT.out.1 x (List.mem_of_getElem? hx)
          have hcx : ci < x.length := by have := hxo.2; have := HTT.out.2.2.1; omega
          have hx6 := (rowValid_len hxo.1).2
          obtain ⟨b4, off4, hA4, hB4, c4, c5⟩ := Val.at_ hsT.sl hcx
          have hxc := Lib.hid (List.getElem?_eq_getElem hcx)
          generalize x[ci] = u at *
          rw [hA4] at c2
          have hfl := filter_take_snoc (P := P) hx
          obtain ⟨t, ht⟩ : ∃ t, sMt cj ys u = t := ⟨_, rfl⟩
          obtain ⟨ul, un⟩ := u
          have hPx : P x = (!hv && !ul && !t) := by
            rw [HPX.out, ← ht]
            unfold rMt isNl
            rw [hxc.out]
            cases ul <;> rfl
          rw [hPx] at hfl
          have HK := fun z : Aft wr.heap.size wr => specMatches_ok W' A' c' cj ys (ul, un) z.v HTT.out.2.1 HTT.out.2.2.2 ((HS.out.2.2.on HI.out.2.2).on z.h)
          rw [ht] at HK
          have HK := Lib.hid HK
          have HN := fun z : Aft wr.heap.size wr => specHasNull_ok W' A' c' cj ys z.v HTT.out.2.1 HTT.out.2.2.2 ((HS.out.2.2.on HI.out.2.2).on z.h)
          rw [HV.out] at HN
          have HN := Lib.hid HN
          have HX := Lib.hid (And.intro hx (And.intro hsn (And.intro hsc (And.intro hscm (And.intro hsT (And.intro hfl hA4))))))
          have d0 := fun z : Aft wr.heap.size wr => z.cell (b := w.heap.size) l0 a1
          have d1 := fun z : Aft wr.heap.size wr => z.cell (b := w.heap.size + 1) l1 b0
          have d2 := fun z : Aft wr.heap.size wr => z.cell (b := w.heap.size + 1) l1 b1
          have d3 := fun z : Aft wr.heap.size wr => z.cell (b := b2) hB2 c2
          have d4 := fun z : Aft wr.heap.size wr => z.cell (b := b4) hB4 c4
          have d5 := fun z : Aft wr.heap.size wr => z.cell (b := b4) hB4 c5
          clear hx hsk hsn hsc hscm hsT hc2 hPx ht hfl hxo hkl hA4
          cases hv
          all_goals
            cases ul
            all_goals
              go_wp2
              refine wp_region_aft wr.heap.size (by kernel_rfl) (by kernel_rfl) ?_
              repeat (go_big_quiet_step (first | (go_at_call 68; exact Calls.aft (Nat.le_refl _) (HN.out _)) | (go_at_call 69; exact Calls.aft (Nat.le_refl _) (HK.out _))))
              refine wpQuiet_nil ?_
              intro w3 hw'
              obtain ⟨⟨_, hb3⟩, rfl⟩ := hw'
              have HB3 := Lib.hid hb3
              clear hb3 d0 d1 d2 d3 d4 d5
              have e0 : w3.cell? ⟨w.heap.size, 1, none⟩ = some (.slice (some ⟨b2, off2, none⟩) xs.length c) := (HB3.out.cell (p := ⟨_, _, none⟩) l0).trans a1
              have e2 : w3.cell? ⟨b2, off2 + k, none⟩ = some (.slice (some ⟨b4, off4, none⟩) x.length s.c) := (HB3.out.cell (p := ⟨_, _, none⟩) hB2).trans c2
              have BA := Lib.hid (balloc HB3.out (.cells #[.slice (some ⟨b4, off4, none⟩) x.length s.c] 41))
              have HOx := Lib.hid (HI.out.1.on BA.out)
              have HSx := Lib.hid (Row.sl' (w := w3.alloc (.cells #[.slice (some ⟨b4, off4, none⟩) x.length s.c] 41)) (t := 41) (xs := [(⟨some ⟨b4, off4, none⟩, x.length, s.c⟩ : SV)]) svC_length ((Row.new w3 _ _).of rfl))
              have hsz4 : w2.heap.size ≤ (w3.alloc (.cells #[.slice (some ⟨b4, off4, none⟩) x.length s.c] 41)).heap.size := (bch HI.out.2.2 BA.out).size
              have hz3 := HB3.out.size
              cases t
              all_goals
                go_wp2_with (at_builtin; refine wpList_app rfl (.tmp 66) (.tmp 72) 23 rfl w2.heap.size 41 _ 1 24 svC Try.underlying23 zeroRow rfl (by decide) (by decide) svC_length svC_one _ sv rfl HOx.out (some ⟨w3.heap.size, 0, none⟩) 1 1 [(⟨some ⟨b4, off4, none⟩, x.length, s.c⟩ : SV)] rfl rfl HSx.out (by simp <;> omega) hsz4 ?_; intro v4 w4 how4 hgr4; have HW4 := Lib.hid (And.intro how4 hgr4); clear how4 hgr4)
                go_roundg (xs.length - (k + 1))
                case measure => omega
                case rel =>
                  obtain ⟨h1, h2, h3, h4, h5, hstep, hA4⟩ := HX.out
                  obtain ⟨i1, i2, i6⟩ := HI.out
                  first
                    | rw [if_pos (by decide)] at hstep
                    | rw [if_neg (by decide)] at hstep
                  first
                    | exact ⟨k + 1, sv, by omega, rfl, by go_num, i1.on HB3.out, by rw [hstep]; exact i2.on HB3.out, bch i6 HB3.out⟩
                    | (obtain ⟨how4, hgr4⟩ := HW4.out
                       have hrow : ∀ q, Value.ownBlock _ = some q → w2.heap.size ≤ q ∧ TyAt _ q 41 := fun q hq => ⟨(HOx.out.ty q hq).1, (HOx.out.ty q hq).2.2⟩
                       refine ⟨k + 1, sv ++ [⟨some ⟨b4, off4, none⟩, x.length, s.c⟩], by omega, rfl, by go_num, how4, ?_, ?_⟩
                       · rw [hstep]
                         exact ((i2.on BA.out).grown hgr4 fun q hq => .inr ⟨_, by decide, (hrow q hq).2⟩).snoc rfl h3 h4 (by rw [← hA4]; exact (h5.on BA.out).grown hgr4 fun q hq => .inr ⟨_, by decide, (hrow q hq).2⟩)
                       · exact (bch i6 BA.out).grown hgr4 (bch i6 BA.out).size fun q hq => by have := (hrow q hq).1; omega)
        · have hke : k = xs.length := by omega
          have HT1 : ∀ (n : Nat), n = (xs.filter P).length → Calls Try.prog 62 #[.int .i64 W, .slice Av n cv] wr (TofRes 0 W (xs.filter P) wr) := by
            intro n hnn
            subst hnn
            have hrt := HI.out.2.1
            rw [hke, List.take_length] at hrt
            exact tableOf_ok 0 W Av cv sv (xs.filter P) wr (Nat.zero_le _) (by have := List.length_filter_le P xs; omega) (fun r hr => by have := rowValid_len (tabRowOk_ HTT.out.1 r (List.mem_filter.1 hr).1).1; omega) HSV.out.1.sl hrt
          have HT1 := Lib.hid HT1
          have hsl2 : sv.length = (xs.filter P).length := by
            have := HSL.out.1
            rw [hke, List.take_length] at this
            exact this
          have HSL2 := Lib.hid hsl2
          clear hsl2 hke
          go_wp2_with fail
          refine (HT1.out _ HSL2.out).mono ?_
          rintro e w3 ⟨v3, sv3, out, rfl, hout, how3, hrt3, hb3⟩
          obtain ⟨A3, c3, rfl, _, _, _⟩ := how3.shape svC_length
          have r2 := (HR2.out.2.2.on HI.out.2.2).on hb3
          have e0 : w3.cell? ⟨w.heap.size + 2, 0, none⟩ = some (.int .i64 0) := r2.cell 0
          have e1 : w3.cell? ⟨w.heap.size + 2, 1, none⟩ = some (.slice none 0 0) := r2.cell 1
          have f0 := r2.frozen 0
          have f1 := r2.frozen 1
          have l2 := r2.lt
          generalize sv3.length = nn at *
          have HF := Lib.hid (And.intro hout (And.intro how3 (And.intro hrt3 (And.intro hb3 r2))))
          clear hout how3 hrt3 hb3 r2
          go_wp2
          refine bodyPost_ret (resSpecNotIn (b := w.heap.size + 2) (r := true) _ rfl rfl _ (v0 := .int .i64 W) (v1 := .slice A3 nn c3) (by simp [go_sem, e0, e1, l2]) (by simp [go_sem, e0, e1, l2])) rfl ?_
          obtain ⟨hout, how1, hrt1, hb1, r2⟩ := HF.out
          exact FIN.out _ _ _ _ (bch HB2.out (bch HI.out.2.2 hb1)) r2 hout (how1.low HI.out.2.2.size) hrt1
end Go.Proofs.Ytldndapcbgaliaa
