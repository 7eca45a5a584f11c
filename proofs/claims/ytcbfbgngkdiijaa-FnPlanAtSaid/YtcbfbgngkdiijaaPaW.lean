/-
  Contract: planAndWidths. (Printed by wip/paw.py.)
-/
import Derived.Test.YtcbfbgngkdiijaaProg
import Derived.Test.YtcbfbgngkdiijaaGeA
import Derived.Test.YtcbfbgngkdiijaaGeW
import Derived.Test.YtcbfbgngkdiijaaInts
namespace Go.Proofs.Ytcbfbgngkdiijaa
open Go.RowKit Go.Qo
set_option linter.unusedVariables false
set_option linter.unusedSimpArgs false

def pwC : Nat := apC + 20
/-- A plan and widths of the call's own. -/
def GotPW (D b p : Nat) (w : World) (e : Ending) (w' : World) : Prop :=
  ∃ (f : FP) (x : Pl) (v : Value) (ws : List Int), e = .returned (.tuple #[fpV f, v]) ∧ PlT (fun k => w.heap.size ≤ k) w' f x ∧ Ow w.heap.size 3 1 intC w' v ws ∧ (2 ≤ ws.length ∧ ws.length ≤ 3) ∧ (∀ y ∈ ws, 0 ≤ y ∧ y ≤ 7) ∧ But b w w' ∧ Rd w' b p ∧ plN x ≤ D
theorem gotPW_of {D b p : Nat} {w wx : World} {f : FP} {x : Pl} {v : Value} {ws : List Int} (hx : PlT (fun k => w.heap.size < k) wx f x) (ho : Ow (w.heap.size + 1) 3 1 intC wx v ws) (hl : 2 ≤ ws.length ∧ ws.length ≤ 3) (hr : ∀ y ∈ ws, 0 ≤ y ∧ y ≤ 7) (hb : But b w wx) (hR : Rd wx b p) (hlt : b < w.heap.size) (v0 v1 v2 v3 v4 : Value) {e : Ending} (he : e = .returned (.tuple #[fpV f, v])) (hD : plN x ≤ D) :
    GotPW D b p w e (((((wx.setCell ⟨w.heap.size, 0, none⟩ v0).setCell ⟨w.heap.size, 1, none⟩ v1).setCell ⟨w.heap.size, 2, none⟩ v2).setCell ⟨w.heap.size, 3, none⟩ v3).setCell ⟨w.heap.size, 4, none⟩ v4) := by
  have hs := set5 wx w.heap.size v0 v1 v2 v3 v4
  exact ⟨f, x, v, ws, he, (hx.keep hs.size fun k hk hl => hs.block k hl (by omega)).mono fun k _ hk => Nat.le_of_lt hk, (ho.only hs fun i hi => .inl (by omega)).low (by omega), hl, hr, hb.step hs fun i hi => .inr (by omega), hR.apart hs fun i hi => by omega, hD⟩

set_option maxRecDepth 20000 in
set_option maxHeartbeats 4000000 in
theorem planAndWidths_ok (b p : Nat) (w : World) (hR : Rd w b p) (hp : p + pwC ≤ 1099511627776) :
    Calls Try.prog 13 #[.pointer (some ⟨b, 0, none⟩)] w (GotPW apD b (p + pwC) w) := by
  have hlt := hR.lt
  have hap : pwC = apC + 20 := rfl
  obtain ⟨W0, hW0⟩ : ∃ z, w.alloc (.cells #[.int .i64 0, .int .i64 0, .slice none 0 0, .slice none 0 0, .slice none 0 0] 27) = z := ⟨_, rfl⟩
  have b0 : Below w.heap.size w W0 := by rw [← hW0]; exact balloc (Below.refl _ _) _
  have r0 : Row W0 w.heap.size 27 [.int .i64 0, .int .i64 0, .slice none 0 0, .slice none 0 0, .slice none 0 0] := by rw [← hW0]; exact Row.new _ _ _
  have hs0 : W0.heap.size = w.heap.size + 1 := by rw [← hW0]; simp
  have HWS := Lib.hid (randomWidths_ok b p W0 (hR.on b0) (by omega))
  have Hr0 := Lib.hid r0
  have HB0 := Lib.hid (show But b w W0 from only_below b0)
  have HW0 := Lib.hid hW0
  have Hc := Lib.hid (And.intro hap (And.intro hp hs0))
  clear hR hW0 b0 r0 hap hp hs0
  go_enter Try.func13, Try.ntmps13
  go_upto_region 1 with fail
  rw [HW0.out]
  go_wp2_with fail
  refine HWS.out.mono ?_
  rintro e w1 ⟨v1, ws, rfl, hwl, hwr, how1, hb1, hR1⟩
  obtain ⟨A, c, rfl, hc1, hc2, hs1⟩ := how1.shape intC_length
  have HPL := Lib.hid (anyPlan_ok b (p + 4) A c ws w1 hR1 (by have := Hc.out; omega) ((SlS.of_ow intC_length how1).mono fun k _ hk => by have := Hc.out; omega) (fun y hy => by have := hwr y hy; omega) (by omega))
  have Hr1 := Lib.hid (Hr0.out.only hb1 (by omega))
  have hbw1 : b < w1.heap.size := hR1.lt
  have hww1 : w.heap.size < w1.heap.size := Hr1.out.lt
  have HO1 := Lib.hid (how1.low (show w.heap.size + 1 ≤ W0.heap.size by have := Hc.out; omega))
  have HB1 := Lib.hid (HB0.out.trans hb1)
  have Hwl := Lib.hid (And.intro hwl hwr)
  clear hwl hwr how1 hs1 hb1 hR1 HWS hc1
  go_wp2_with fail
  refine HPL.out.mono ?_
  rintro e w2 ⟨pf, px, rfl, hx2, hb2, hR2, hpn⟩
  have HPN := Lib.hid hpn
  clear hpn
  unfold fpV
  obtain ⟨W3, hW3⟩ : ∃ z, w2.alloc (.cells #[.int .i64 pf.kind, .int .i64 pf.table, .slice pf.es.A pf.es.n pf.es.c, .slice pf.cs.A pf.cs.n pf.cs.c, .slice pf.ks.A pf.ks.n pf.ks.c] 27) = z := ⟨_, rfl⟩
  obtain ⟨pb, hpb⟩ : ∃ n, w2.heap.size = n := ⟨_, rfl⟩
  have b3 : Below w2.heap.size w2 W3 := by rw [← hW3]; exact balloc (Below.refl _ _) _
  have hz1 := hb2.size
  have hzr := Hr1.out.lt
  have Hp3 := Lib.hid (show Row W3 pb 27 (fpC pf) by rw [← hW3, ← hpb]; exact Row.new _ _ _)
  have Hr3 := Lib.hid ((Hr1.out.only hb2 (by omega)).on b3)
  have HO3 := Lib.hid ((HO1.out.only hb2 fun i (hi : i = b) => .inl (by omega)).on b3)
  have Hgp := Lib.hid (show ∀ g, (Value.slice A ws.length c).ownBlock = some g → w.heap.size + 1 ≤ g ∧ g < w1.heap.size ∧ g ≠ pb from fun g hg => by
    have h1 := HO1.out.ty g hg
    exact ⟨h1.1, h1.2.1, by omega⟩)
  have HX3 := Lib.hid ((hx2.mono (T := fun k => w1.heap.size ≤ k ∧ k < pb) fun k hl hk => ⟨by omega, by omega⟩).keep b3.size fun k _ hl => b3.block k hl)
  have HB3 := Lib.hid ((HB1.out.trans hb2).below b3)
  have HR3 := Lib.hid (hR2.on b3)
  have hpb1 : w.heap.size < pb := by omega
  have hpw1 : w1.heap.size ≤ pb := by omega
  have Hpb := Lib.hid hpb
  have HW3 := Lib.hid hW3
  clear hx2 hb2 hR2 hW3 hpb b3 hz1 hzr HPL
  go_upto_region 3 with fail
  rw [HW3.out, Hpb.out]
  go_wp2_with fail
  refine (pick_ok b _ 18 W3 HR3.out (by have := Hc.out; omega)).mono ?_
  rintro e w4 ⟨k, rfl, hk, hb4, hsz4, hR4⟩
  have hp4 := Hp3.out.only hb4 (by omega)
  have hr4 := Hr3.out.only hb4 (by omega)
  have Hp4 := Lib.hid hp4
  have Hr4 := Lib.hid hr4
  have HO4 := Lib.hid (HO3.out.only hb4 fun i (hi : i = b) => .inl (by omega))
  have HX4 := Lib.hid (HX3.out.keep hb4.size fun k hk hl => hb4.block k hl (by omega))
  have HB4 := Lib.hid (HB3.out.trans hb4)
  have HR4 := Lib.hid hR4
  clear hk hb4 hsz4 hR4 hp4 hr4
  by_cases hk : k = 0
  · subst hk
    obtain ⟨V, hV⟩ : ∃ z, w4.alloc (.cells #[.int .i64 0, .int .i64 7, .int .i64 1] 3) = z := ⟨_, rfl⟩
    have hvb : Below w4.heap.size w4 V := by rw [← hV]; exact balloc (Below.refl _ _) _
    have hbl4 := HR4.out.lt
    have HO := Lib.hid (one_ok b _ (some ⟨w4.heap.size, 0, none⟩) 3 [0, 7, 1] V (HR4.out.on hvb) (by have := Hc.out; omega) (by simp) (by simp) (by rw [← hV]; exact Row.sl' (t := 3) intC_length ((Row.new w4 _ _).of rfl)) (by rintro a ha; cases ha; exact (show w4.heap.size ≠ b by omega)))
    have Hvb := Lib.hid hvb
    have HV := Lib.hid hV
    clear hV hvb hbl4
    go_upto_region 4 with fail
    go_wp2_with fail
    rw [HV.out]
    refine HO.out.mono ?_
    rintro e w5 ⟨kk, rfl, hkk, hb5, hsz5, hR5⟩
    have hp5 := (Hp4.out.on Hvb.out).only hb5 (by omega)
    have hr5 := (Hr4.out.on Hvb.out).only hb5 (by omega)
    have hO5 := (HO4.out.on Hvb.out).only hb5 fun i (hi : i = b) => .inl (by omega)
    have HB5 := Lib.hid ((HB4.out.below Hvb.out).trans hb5)
    have HX5 := Lib.hid ((HX4.out.keep Hvb.out.size fun j _ hl => Hvb.out.block j hl).keep hb5.size fun j hj hl => hb5.block j hl (by omega))
    have HR5 := Lib.hid hR5
    have hw2 := Hwl.out.1.1
    have hw3 := Hwl.out.1.2
    obtain ⟨g, rfl, hn', hg, hgl, _, hf, hcs⟩ := hO5.head intC_length (by omega)
    obtain ⟨hg1, hg2, hg3⟩ := Hgp.out g rfl
    obtain ⟨y0, hy0⟩ : ∃ y, (ws.flatMap intC)[0]? = some y := ⟨_, List.getElem?_eq_getElem (by rw [flat_length 1 intC intC_length]; omega)⟩
    have gc := hcs 0 _ hy0
    have gf := hf 0
    obtain ⟨Z, hZ⟩ : ∃ z, w5.setCell ⟨g, 0, none⟩ (.int .i64 kk) = z := ⟨_, rfl⟩
    have hs := Only.set (S := fun i => i = g) (p := ⟨g, 0, none⟩) (Only.refl w5) (.inl rfl) (.int .i64 kk)
    have hst := hO5.put 0 (.int .i64 kk)
    rw [flat_setI2] at hst
    rw [hZ] at hs hst
    have HOZ := Lib.hid (show Ow (w.heap.size + 1) 3 1 intC Z (.slice (some ⟨g, 0, none⟩) ws.length c) (ws.set 0 kk) by unfold Ow; rw [List.length_set]; exact hst)
    have hpZ := hp5.only hs (show ¬ pb = g by omega)
    have hrZ := hr5.only hs (show ¬ w.heap.size = g by omega)
    have HXZ := Lib.hid ((HX5.out.keep hs.size fun j hj hl => hs.block j hl (show ¬ j = g by omega)).mono (T := fun j => w.heap.size < j) fun j _ hj => by omega)
    have HBZ := Lib.hid (HB5.out.step hs fun j (hj : j = g) => .inr (by omega))
    have HRZ := Lib.hid (HR5.out.apart hs fun j (hj : j = g) => by omega)
    have Hkk := Lib.hid (show 0 ≤ kk ∧ kk ≤ 7 by simp at hkk; omega)
    have HZ := Lib.hid hZ
    have hw0 : (0 : Int) < (ws.length : Int) := by omega
    have hlp := hpZ.lt
    have k0 : (Z).cell? ⟨pb, 0, none⟩ = some (.int .i64 pf.kind) := hpZ.cell 0
    have k1 : (Z).cell? ⟨pb, 1, none⟩ = some (.int .i64 pf.table) := hpZ.cell 1
    have k2 : (Z).cell? ⟨pb, 2, none⟩ = some (.slice pf.es.A pf.es.n pf.es.c) := hpZ.cell 2
    have k3 : (Z).cell? ⟨pb, 3, none⟩ = some (.slice pf.cs.A pf.cs.n pf.cs.c) := hpZ.cell 3
    have k4 : (Z).cell? ⟨pb, 4, none⟩ = some (.slice pf.ks.A pf.ks.n pf.ks.c) := hpZ.cell 4
    have hlr := hrZ.lt
    have c0 := hrZ.cell 0
    have f0 := hrZ.frozen 0
    have c1 := hrZ.cell 1
    have f1 := hrZ.frozen 1
    have c2 := hrZ.cell 2
    have f2 := hrZ.frozen 2
    have c3 := hrZ.cell 3
    have f3 := hrZ.frozen 3
    have c4 := hrZ.cell 4
    have f4 := hrZ.frozen 4
    clear hpZ hrZ hst hs hZ hp5 hr5 hO5 hb5 hsz5 hR5 hcs hf hy0 hn' hkk
    go_upto_region 5 with fail
    rw [HZ.out]
    go_wp2
    refine bodyPost_ret (v := .tuple #[fpV pf, .slice (some ⟨g, 0, none⟩) ws.length c]) (by simp [results, Try.results13, go_sem, fpV, c0, c1, c2, c3, c4]) rfl ?_
    refine gotPW_of (ws := ws.set 0 kk) HXZ.out HOZ.out (by rw [List.length_set]; exact Hwl.out.1) (fun y hy => ?_) HBZ.out (HRZ.out.mono (by have := Hc.out; omega)) hlt _ _ _ _ _ rfl HPN.out
    rcases List.mem_or_eq_of_mem_set hy with h1 | h1
    · have := Hwl.out.2 y h1; omega
    · subst h1; exact Hkk.out
  · have hk' : (k == 0) = false := by simpa using hk
    have hpZ := Hp4.out
    have hrZ := Hr4.out
    have hlp := hpZ.lt
    have k0 : (w4).cell? ⟨pb, 0, none⟩ = some (.int .i64 pf.kind) := hpZ.cell 0
    have k1 : (w4).cell? ⟨pb, 1, none⟩ = some (.int .i64 pf.table) := hpZ.cell 1
    have k2 : (w4).cell? ⟨pb, 2, none⟩ = some (.slice pf.es.A pf.es.n pf.es.c) := hpZ.cell 2
    have k3 : (w4).cell? ⟨pb, 3, none⟩ = some (.slice pf.cs.A pf.cs.n pf.cs.c) := hpZ.cell 3
    have k4 : (w4).cell? ⟨pb, 4, none⟩ = some (.slice pf.ks.A pf.ks.n pf.ks.c) := hpZ.cell 4
    have hlr := hrZ.lt
    have c0 := hrZ.cell 0
    have f0 := hrZ.frozen 0
    have c1 := hrZ.cell 1
    have f1 := hrZ.frozen 1
    have c2 := hrZ.cell 2
    have f2 := hrZ.frozen 2
    have c3 := hrZ.cell 3
    have f3 := hrZ.frozen 3
    have c4 := hrZ.cell 4
    have f4 := hrZ.frozen 4
    clear hpZ hrZ
    go_wp2
    refine bodyPost_ret (v := .tuple #[fpV pf, .slice A ws.length c]) (by simp [results, Try.results13, go_sem, fpV, c0, c1, c2, c3, c4]) rfl ?_
    exact gotPW_of (HX4.out.mono (T := fun j => w.heap.size < j) fun j _ hj => by have := HB1.out.size; omega) HO4.out Hwl.out.1 (fun y hy => by have := Hwl.out.2 y hy; omega) HB4.out (HR4.out.mono (by have := Hc.out; omega)) hlt _ _ _ _ _ rfl HPN.out
end Go.Proofs.Ytcbfbgngkdiijaa
