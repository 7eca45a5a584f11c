/-
  Contracts: randomWidths, randomPlan. (Printed by wip/ges.py.)
-/
import Derived.Test.YtcbfbgngkdiijaaProg
import Derived.Test.YtcbfbgngkdiijaaGeR
namespace Go.Proofs.Ytcbfbgngkdiijaa
open Go.RowKit Go.Qo
set_option linter.unusedVariables false
set_option linter.unusedSimpArgs false

/-- A plan of the call's own whose lists may be appended to. -/
def GotRt (D b p : Nat) (w : World) (e : Ending) (w' : World) : Prop :=
  ∃ (f : FP) (x : Pl), e = .returned (fpV f) ∧ PlT (fun k => w.heap.size ≤ k) w' f x ∧ RootOk w.heap.size w' f x ∧ But b w w' ∧ Rd w' b p ∧ plN x ≤ D
theorem gotRt_of {D b p : Nat} {w wx : World} {f : FP} {x : Pl} (hx : PlT (fun k => w.heap.size < k) wx f x) (hr : RootOk (w.heap.size + 1) wx f x) (hb : But b w wx) (hR : Rd wx b p) (hlt : b < w.heap.size) (v0 v1 v2 v3 v4 : Value) {e : Ending} (he : e = .returned (fpV f)) (hD : plN x ≤ D) :
    GotRt D b p w e (((((wx.setCell ⟨w.heap.size, 0, none⟩ v0).setCell ⟨w.heap.size, 1, none⟩ v1).setCell ⟨w.heap.size, 2, none⟩ v2).setCell ⟨w.heap.size, 3, none⟩ v3).setCell ⟨w.heap.size, 4, none⟩ v4) := by
  have hs := set5 wx w.heap.size v0 v1 v2 v3 v4
  exact ⟨f, x, he, (hx.keep hs.size fun k hk hl => hs.block k hl (by omega)).mono fun k _ hk => Nat.le_of_lt hk, (hr.only hs fun i (hi : i = w.heap.size) => by omega).low (by omega), hb.step hs fun i hi => .inr (by omega), hR.apart hs fun i hi => by omega, hD⟩
def rpC : Nat := plC 1 4 + 100
def rpD : Nat := plD 1 4 + 100

set_option maxRecDepth 20000 in
set_option maxHeartbeats 4000000 in
theorem randomPlan_ok (b p : Nat) (A : Option Addr) (c : Nat) (ws : List Int) (w : World) (hR : Rd w b p) (hp : p + rpC ≤ 1099511627776) (hws : SlS (fun k => k ≠ b) 1 intC w A ws) (hwr : ∀ x ∈ ws, 1 ≤ x ∧ x ≤ 6) (hwl : ws.length ≤ 4) :
    Calls Try.prog 47 #[.pointer (some ⟨b, 0, none⟩), .slice A ws.length c] w (GotRt rpD b (p + rpC) w) := by
  have hlt := hR.lt
  have hrp : rpC = plC 1 4 + 100 := rfl
  have hpl : plC 1 4 = 8002 := rfl
  obtain ⟨W0, hW0⟩ : ∃ z, w.alloc (.cells #[.int .i64 0, .int .i64 0, .slice none 0 0, .slice none 0 0, .slice none 0 0] 27) = z := ⟨_, rfl⟩
  have b0 : Below w.heap.size w W0 := by rw [← hW0]; exact balloc (Below.refl _ _) _
  obtain ⟨gb, hgb⟩ : ∃ n, w.heap.size + 1 = n := ⟨_, rfl⟩
  have hgs : W0.heap.size = gb := by rw [← hgb, ← hW0]; simp
  have hgb1 : w.heap.size < gb := by omega
  obtain ⟨W1, hW1⟩ : ∃ z, W0.alloc (.cells #[.pointer (some ⟨b, 0, none⟩), .slice A ws.length c, .int .i64 1, .int .i64 1] 94) = z := ⟨_, rfl⟩
  have b1 : Below W0.heap.size W0 W1 := by rw [← hW1]; exact balloc (Below.refl _ _) _
  have HR1 := Lib.hid ((hR.on b0).on b1)
  have Hs1 := Lib.hid ((hws.keep b0.size fun k _ hl => b0.block k hl).keep b1.size fun k _ hl => b1.block k hl)
  have Hsw := Lib.hid (show SlS (fun k => k < gb ∧ k ≠ b) 1 intC W1 A ws from ((((hws.mono (T := fun k => k < gb ∧ k ≠ b) fun k hl hk => ⟨by omega, hk⟩).keep b0.size fun k _ hl => b0.block k hl).keep b1.size fun k _ hl => b1.block k hl)))
  have hr0 : Row W0 w.heap.size 27 [.int .i64 0, .int .i64 0, .slice none 0 0, .slice none 0 0, .slice none 0 0] := by rw [← hW0]; exact Row.new _ _ _
  have Hr1 := Lib.hid (hr0.on b1)
  have Hg1 := Lib.hid (show Row W1 gb 94 [.pointer (some ⟨b, 0, none⟩), .slice A ws.length c, .int .i64 1, .int .i64 1] by rw [← hW1, ← hgs]; exact Row.new _ _ _)
  have HB1 := Lib.hid (show Below w.heap.size w W1 from bch b0 b1)
  have HWS := Lib.hid (And.intro hwr hwl)
  have HW0 := Lib.hid hW0
  have HW1 := Lib.hid hW1
  have Hgb := Lib.hid hgb
  have Hc := Lib.hid (And.intro hrp hpl)
  clear hR hws hwr hwl hW0 hW1 b0 b1 hgb hgs hr0 hrp hpl
  go_enter Try.func47, Try.ntmps47
  go_upto_region 2 with fail
  rw [HW0.out, HW1.out, Hgb.out]
  go_wp2_with fail
  refine (pick_ok b p 4 W1 HR1.out (by omega)).mono ?_
  rintro e w2 ⟨k2, rfl, hk2, hb2, hsz2, hR2⟩
  have Hr2 := Lib.hid (Hr1.out.only hb2 (by omega))
  have Hg2 := Lib.hid (Hg1.out.only hb2 (by omega))
  have Hs2 := Lib.hid (Hsw.out.keep hb2.size fun k hk hl => hb2.block k hl hk.2)
  have HB2 := Lib.hid ((only_below (S := fun k => k = b) HB1.out).trans hb2)
  have HR2 := Lib.hid hR2
  have hk20 := hk2.1
  have hk21 := hk2.2.1 (by omega)
  obtain ⟨dd, rfl⟩ := Int.eq_ofNat_of_zero_le hk20
  have hdd : dd ≤ 3 := by omega
  have hbg : b < gb := by omega
  have hplc : plC 1 (dd + 1) ≤ plC 1 4 := by unfold plC; omega
  have Hplc := Lib.hid hplc
  have HPL := Lib.hid (plan_ok (dd + 1) (by omega) b gb (p + 1) A c ws 1 1 w2 HR2.out hbg Hg2.out Hs2.out HWS.out.1 HWS.out.2 (by omega) (by omega) (by have := Hc.out; omega))
  have ed : ((dd + 1 : Nat) : Int) = 1 + (dd : Int) := by omega
  rw [ed] at HPL
  have hdw : IntKind.i64.wrap (1 + (dd : Int)) = 1 + (dd : Int) := IntWalk.i64_in _ (by omega)
  clear hk2 hb2 hsz2 hR2 hk20 hk21 ed hplc
  go_wp2_with fail
  refine HPL.out.mono ?_
  rintro e w3 ⟨pf, px, j3, u3, rfl, hx3, hrt3, ho3, hR3, hg3, hj3, hu3, hpn⟩
  have HPN := Lib.hid (Nat.le_trans hpn (plD_le (J := 1) (show dd + 1 ≤ 4 by omega)))
  clear hpn
  unfold fpV
  have ho3' : Only (fun k => k = b) w w3 := ⟨ho3.os.trans HB2.out.os, ho3.tape.trans HB2.out.tape, ho3.output.trans HB2.out.output, Nat.le_trans HB2.out.size ho3.size, fun k hk hn => (ho3.block k (by have := HB2.out.size; omega) (by omega)).trans (HB2.out.block k hk hn)⟩
  obtain ⟨w4, hw4⟩ : ∃ z, w3.alloc (.cells #[.int .i64 pf.kind, .int .i64 pf.table, .slice pf.es.A pf.es.n pf.es.c, .slice pf.cs.A pf.cs.n pf.cs.c, .slice pf.ks.A pf.ks.n pf.ks.c] 27) = z := ⟨_, rfl⟩
  obtain ⟨pb, hpb⟩ : ∃ n, w3.heap.size = n := ⟨_, rfl⟩
  have b4 : Below w3.heap.size w3 w4 := by rw [← hw4]; exact balloc (Below.refl _ _) _
  have hrl2 : w.heap.size < w2.heap.size := Hr2.out.lt
  have hz3 := ho3.size
  have Hp4 := Lib.hid (show Row w4 pb 27 (fpC pf) by rw [← hw4, ← hpb]; exact Row.new _ _ _)
  have Hr4 := Lib.hid ((Hr2.out.only ho3 (by omega)).on b4)
  have HX4 := Lib.hid ((hx3.mono (T := fun k => w.heap.size < k) fun k _ hk => by omega).keep b4.size fun k _ hl => b4.block k hl)
  have HT4 := Lib.hid ((hrt3.low (lo' := w.heap.size + 1) (by omega)).only (only_below (S := fun _ => False) b4) (fun i hi => hi.elim))
  have HB4 := Lib.hid (ho3'.below b4)
  have HR4 := Lib.hid ((hR3.on b4).mono (p' := p + 1 + plC 1 4) (by have := Hplc.out; omega))
  have Hs4 := Lib.hid (((Hs2.out.keep ho3.size fun k hk hl => ho3.block k hl (by omega)).keep b4.size fun k _ hl => b4.block k hl).mono (T := fun k => k ≠ b) fun k _ hk => hk.2)
  have hpb1 : w.heap.size < pb := by omega
  have Hpb := Lib.hid hpb
  have HW4 := Lib.hid hw4
  clear hx3 hrt3 ho3 ho3' hR3 hg3 hj3 hu3 hw4 hpb b4 hrl2 hz3
  go_upto_region 3 with fail
  rw [HW4.out, Hpb.out]
  go_wp2_with fail
  refine (pick_ok b _ 2 w4 HR4.out (by have := Hc.out; omega)).mono ?_
  rintro e w5 ⟨k5, rfl, hk5, hb5, hsz5, hR5⟩
  have hp5 := Hp4.out.only hb5 (by omega)
  have hr5 := Hr4.out.only hb5 (by omega)
  have Hp5 := Lib.hid hp5
  have Hr5 := Lib.hid hr5
  have HX5 := Lib.hid (HX4.out.keep hb5.size fun k hk hl => hb5.block k hl (by omega))
  have HT5 := Lib.hid (HT4.out.only hb5 (fun i (hi : i = b) => by omega))
  have HB5 := Lib.hid (HB4.out.trans hb5)
  have HR5 := Lib.hid hR5
  have Hs5 := Lib.hid (Hs4.out.keep hb5.size fun k hk hl => hb5.block k hl hk)
  clear hk5 hb5 hsz5 hR5
  by_cases h5 : k5 = 0
  · subst h5
    clear hp5 hr5
    obtain ⟨wd, hwd⟩ : ∃ R, plW ws 8 px = R := ⟨_, rfl⟩
    have hwr2 : 0 ≤ wd ∧ wd ≤ 6 := by rw [← hwd]; exact plW_range HWS.out.1 _ _
    have Hwd := Lib.hid hwd
    have ST := Lib.hid (fun (z : World) (hz : But b w5 z) => show Row z pb 27 (fpC pf) ∧ Row z w.heap.size 27 [.int .i64 0, .int .i64 0, .slice none 0 0, .slice none 0 0, .slice none 0 0] ∧ PlT (fun k => w.heap.size < k) z pf px ∧ SlS (fun k => k ≠ b) 1 intC z A ws from
      ⟨Hp5.out.only hz (by omega), Hr5.out.only hz (by omega), HX5.out.keep hz.size fun k hk hl => hz.block k hl (by omega), Hs5.out.keep hz.size fun k hk hl => hz.block k hl hk⟩)
    have SB := Lib.hid (fun (z : World) (hz : But b w5 z) => show z.cell? ⟨pb, 0, none⟩ = some (.int .i64 pf.kind) ∧ z.cell? ⟨pb, 1, none⟩ = some (.int .i64 pf.table) ∧ z.cell? ⟨pb, 2, none⟩ = some (.slice pf.es.A pf.es.n pf.es.c) ∧ z.cell? ⟨pb, 3, none⟩ = some (.slice pf.cs.A pf.cs.n pf.cs.c) ∧ z.cell? ⟨pb, 4, none⟩ = some (.slice pf.ks.A pf.ks.n pf.ks.c) from
      have h := (ST.out z hz).1
      ⟨h.cell 0, h.cell 1, h.cell 2, h.cell 3, h.cell 4⟩)
    clear hwd
    go_upto_region 4 with fail
    obtain ⟨u0, hu0⟩ : ∃ z, w5.drew = z := ⟨_, rfl⟩
    have Bu0 := Lib.hid (show But b w5 u0 from hu0 ▸ (Only.refl _).drew)
    have Ru0 := Lib.hid (show Rd u0 b (p + 1 + plC 1 4 + 1) from hu0 ▸ HR5.out.on (Below.refl _ _).drew)
    have Hu0 := Lib.hid hu0
    clear hu0
    refine wp_region_g 7 (fun z => z.cell? ⟨pb, 0, none⟩ = some (.int .i64 pf.kind) ∧ z.cell? ⟨pb, 1, none⟩ = some (.int .i64 pf.table) ∧ z.cell? ⟨pb, 2, none⟩ = some (.slice pf.es.A pf.es.n pf.es.c) ∧ z.cell? ⟨pb, 3, none⟩ = some (.slice pf.cs.A pf.cs.n pf.cs.c) ∧ z.cell? ⟨pb, 4, none⟩ = some (.slice pf.ks.A pf.ks.n pf.ks.c)) (by kernel_rfl) ?_ (fun hHeld => ?_)
    · exact SB.out _ (Only.refl _).drew
    rw [Hu0.out] at hHeld ⊢
    refine takeG (i := 0) (v := ?v1) rfl (by kernel_rfl) (by kernel_rfl) (by kernel_rfl) (by kernel_rfl) (fun _ _ _ h => h) (Or.inl ⟨by rfl, ?hy1⟩) (by assumption) ?_
    case hy1 => ((intro w' hSw; (try dsimp only at hSw); go_simp) <;> with_reducible rfl)
    try simp only [Act.put, List.setIfInBounds_toArray, List.set_cons_zero, List.set_cons_succ]
    refine takeG (i := 1) (v := ?v2) rfl (by kernel_rfl) (by kernel_rfl) (by kernel_rfl) (by kernel_rfl) (fun _ _ _ h => h) (Or.inl ⟨by rfl, ?hy2⟩) (by assumption) ?_
    case hy2 => ((intro w' hSw; (try dsimp only at hSw); go_simp) <;> with_reducible rfl)
    try simp only [Act.put, List.setIfInBounds_toArray, List.set_cons_zero, List.set_cons_succ]
    refine takeG (i := 2) (v := ?v3) rfl (by kernel_rfl) (by kernel_rfl) (by kernel_rfl) (by kernel_rfl) (fun _ _ _ h => h) (Or.inl ⟨by rfl, ?hy3⟩) (by assumption) ?_
    case hy3 => ((intro w' hSw; (try dsimp only at hSw); go_simp) <;> with_reducible rfl)
    try simp only [Act.put, List.setIfInBounds_toArray, List.set_cons_zero, List.set_cons_succ]
    refine takeG (i := 5) (v := ?v4) rfl (by kernel_rfl) (by kernel_rfl) (by kernel_rfl) (by kernel_rfl) (fun _ _ _ h => h) (Or.inl ⟨by rfl, ?hy4⟩) (by assumption) ?_
    case hy4 => ((intro w' hSw; (try dsimp only at hSw); go_simp) <;> with_reducible rfl)
    try simp only [Act.put, List.setIfInBounds_toArray, List.set_cons_zero, List.set_cons_succ]
    refine wpAnyG_ready (rs := [3]) (by kernel_rfl) (by simp) ?_
    refine readyG rfl (fun K hK => ?_) AllReadyG.nil
    have e8 : ((8 : Nat) : Int) = 8 := rfl
    have HPW := Lib.hid (planWidth_ok px pf ws A c 8 u0 wd (ST.out _ Bu0.out).2.2.1.in_ HWS.out.1 (by have := HWS.out.2; unfold maxLen; omega) (ST.out _ Bu0.out).2.2.2.sl (by omega) Hwd.out)
    rw [e8] at HPW
    unfold fpV at HPW
    clear e8
    go_simp
    go_at_call 37
    refine HPW.out.mono ?_
    rintro e x1 ⟨rfl, hb⟩
    have Bx1 := Lib.hid (Bu0.out.below hb)
    have Rx1 := Lib.hid (Ru0.out.on hb)
    clear hb HPW
    refine hK.out _ _ ?hS5 (fun hHeld => ?_)
    case hS5 => exact fun _ => SB.out _ Bx1.out
    replace hHeld := hHeld (by decide)
    clear hK K
    try simp only [Act.put, List.setIfInBounds_toArray, List.set_cons_zero, List.set_cons_succ]
    refine wpAnyG_ready (rs := [4]) (by kernel_rfl) (by simp) ?_
    refine readyG rfl (fun K hK => ?_) AllReadyG.nil
    go_simp
    go_at_call 62
    refine (randomCondition_ok b _ wd x1 Rx1.out (by have := Hc.out; omega)).mono ?_
    rintro e x2 ⟨f, x, rfl, hx, hb, hR, hxn⟩
    have HXN := Lib.hid hxn
    clear hxn
    have Bx2 := Lib.hid (Bx1.out.trans hb)
    have Rx2 := Lib.hid hR
    have X2 := Lib.hid (show ExT (fun k => w.heap.size < k) x2 f x from hx.mono fun k _ hk => by have h1 := (ST.out _ Bx1.out).2.1.lt; omega)
    unfold feV
    clear hb hR hx
    refine hK.out _ _ ?hS6 (fun hHeld => ?_)
    case hS6 => exact fun _ => SB.out _ Bx2.out
    replace hHeld := hHeld (by decide)
    clear hK K
    try simp only [Act.put, List.setIfInBounds_toArray, List.set_cons_zero, List.set_cons_succ]
    refine wpAnyG_ready (rs := [6]) (by kernel_rfl) (by simp) ?_
    refine readyG rfl (fun K hK => ?_) AllReadyG.nil
    have HF := Lib.hid (filterOf_ok (fun k => w.heap.size < k) f pf x px x2 (fun k hk => by have h1 := (ST.out _ Bx2.out).2.1.lt; omega) X2.out (ST.out _ Bx2.out).2.2.1)
    unfold feV fpV at HF
    go_simp
    go_at_call 61
    refine HF.out.mono ?_
    rintro e x3 ⟨h, zt, rfl, hz, hb, hrt, hzn⟩
    have HZN := Lib.hid hzn
    clear hzn
    have Bx3 := Lib.hid (Bx2.out.below hb)
    have Rx3 := Lib.hid (Rx2.out.on hb)
    have Z3 := Lib.hid (And.intro hz hrt)
    clear hz hb HF hrt
    refine hK.out _ _ ?hS7 (fun hHeld => ?_)
    case hS7 => exact fun _ => SB.out _ Bx3.out
    replace hHeld := hHeld (by decide)
    clear hK K
    try simp only [Act.put, List.setIfInBounds_toArray, List.set_cons_zero, List.set_cons_succ]
    refine wpAnyG_ready (rs := [7]) (by kernel_rfl) (by simp) ?_
    refine readyG rfl (fun K hK => ?_) AllReadyG.nil
    have rr := (ST.out _ Bx3.out).2.1
    have hl := rr.lt
    have c0 := rr.cell 0
    have f0 := rr.frozen 0
    have c1 := rr.cell 1
    have f1 := rr.frozen 1
    have c2 := rr.cell 2
    have f2 := rr.frozen 2
    have c3 := rr.cell 3
    have f3 := rr.frozen 3
    have c4 := rr.cell 4
    have f4 := rr.frozen 4
    clear rr
    go_simp
    refine hK.out _ _ ?hS8 (fun hHeld => ?_)
    case hS8 => exact fun h => absurd rfl h
    clear hK K
    try simp only [Act.put, List.setIfInBounds_toArray, List.set_cons_zero, List.set_cons_succ]
    refine wpAnyG_done (by kernel_rfl) ?_ _
    go_wp2
    refine bodyPost_ret (v := fpV h) (by simp [results, Try.results47, go_sem, fpV, c0, c1, c2, c3, c4]) rfl ?_
    exact gotRt_of Z3.out.1 (Z3.out.2 _ _) (HB5.out.trans Bx3.out) (Rx3.out.mono (by have := Hc.out; omega)) hlt _ _ _ _ _ rfl (by have h1 := HXN.out; have h2 := HZN.out; have h3 := HPN.out; unfold rpD; omega)
  · have h5' : (k5 == 0) = false := by simpa using h5
    have hlp := hp5.lt
    have hlr := hr5.lt
    have k0 : w5.cell? ⟨pb, 0, none⟩ = some (.int .i64 pf.kind) := hp5.cell 0
    have k1 : w5.cell? ⟨pb, 1, none⟩ = some (.int .i64 pf.table) := hp5.cell 1
    have k2 : w5.cell? ⟨pb, 2, none⟩ = some (.slice pf.es.A pf.es.n pf.es.c) := hp5.cell 2
    have k3 : w5.cell? ⟨pb, 3, none⟩ = some (.slice pf.cs.A pf.cs.n pf.cs.c) := hp5.cell 3
    have k4 : w5.cell? ⟨pb, 4, none⟩ = some (.slice pf.ks.A pf.ks.n pf.ks.c) := hp5.cell 4
    have c0 := hr5.cell 0
    have f0 := hr5.frozen 0
    have c1 := hr5.cell 1
    have f1 := hr5.frozen 1
    have c2 := hr5.cell 2
    have f2 := hr5.frozen 2
    have c3 := hr5.cell 3
    have f3 := hr5.frozen 3
    have c4 := hr5.cell 4
    have f4 := hr5.frozen 4
    clear h5 hp5 hr5
    go_wp2
    refine bodyPost_ret (v := fpV pf) (by simp [results, Try.results47, go_sem, fpV, c0, c1, c2, c3, c4]) rfl ?_
    exact gotRt_of HX5.out HT5.out HB5.out (HR5.out.mono (by have := Hc.out; omega)) hlt _ _ _ _ _ rfl (by have h3 := HPN.out; unfold rpD; omega)
end Go.Proofs.Ytcbfbgngkdiijaa
