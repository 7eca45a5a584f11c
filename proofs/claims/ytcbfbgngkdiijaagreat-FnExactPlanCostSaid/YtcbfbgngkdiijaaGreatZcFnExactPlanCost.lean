import Derived.Test.YtcbfbgngkdiijaaGreatRows
import Derived.OpenShut
import Derived.Test.YtcbfbgngkdiijaaGreatZcTpc
import Derived.Test.YtcbfbgngkdiijaaGreatZcTbl
import Derived.Test.YtcbfbgngkdiijaaGreatZcReg
import Derived.Test.YtcbfbgngkdiijaaGreatZcCpY
import Derived.Test.YtcbfbgngkdiijaaGreatZcEqY
import Derived.Test.YtcbfbgngkdiijaaGreatZcArgY
namespace Go.Proofs.YtcbfbgngkdiijaaGreat
open Go.RowKit Go.Qo
open Go.ChangeShapes Go.WideShapes Go.ChangeAt
set_option linter.unusedVariables false
set_option linter.unusedSimpArgs false

set_option maxRecDepth 20000 in
set_option maxHeartbeats 4000000 in
theorem FnExactPlanCost_walk (f : FP) (x : Pl) (A : Option Addr) (c : Nat) (db : List Tb) (w : World) (h : PlIn w w.heap.size f x) (hdl : db.length ≤ maxLen) (hdb : DbIn w w.heap.size A db) :
  Calls Tryz.prog 4 #[fpV f, .slice A db.length c] w fun e w' => e = .returned (.bool true) ∧ Below w.heap.size w w' := by
 obtain ⟨W1, hW1⟩ : ∃ z, w.alloc (.cells #[.int .i64 f.kind, .int .i64 f.table, .slice f.es.A f.es.n f.es.c, .slice f.cs.A f.cs.n f.cs.c, .slice f.ks.A f.ks.n f.ks.c] 26) = z := ⟨_, rfl⟩
 have B1 : Below w.heap.size w W1 := by rw [← hW1]; exact balloc (Below.refl _ _) _
 have r1 : Row W1 w.heap.size 26 [.int .i64 f.kind, .int .i64 f.table, .slice f.es.A f.es.n f.es.c, .slice f.cs.A f.cs.n f.cs.c, .slice f.ks.A f.ks.n f.ks.c] := by rw [← hW1]; exact Row.new _ _ _
 have HH := Lib.hid (h.on B1)
 have HDb := Lib.hid (dbIn_on hdb B1)
 have HB1 := Lib.hid B1
 have HW1 := Lib.hid hW1
 have Hr := Lib.hid r1
 have c0 := r1.cell 0
 have c1 := r1.cell 1
 have c2 := r1.cell 2
 have c3 := r1.cell 3
 have c4 := r1.cell 4
 have HZ := Lib.hid (szPlan_ok x f 1048576 W1 HH.out (by omega) (by omega))
 unfold fpV at HZ ⊢
 clear h B1 r1 hW1 hdb
 by_cases hs : (plCnt x : Int) ≤ 1048576
 case neg =>
  rw [szR_no hs] at HZ
  clear hs
  go_enter Tryz.func4, Tryz.ntmps4
  go_upto_region 1 with fail
  rw [HW1.out]
  go_wp2_with fail
  refine HZ.out.mono ?_
  rintro e w2 ⟨rfl, hb2⟩
  go_wp2
  go_ret
  exact ⟨rfl, bch HB1.out hb2⟩
 rw [szR_yes hs] at HZ
 have hnn : ¬ (1048576 - (plCnt x : Int)) < 0 := by omega
 have HD := Lib.hid (plB_of_cnt x (by omega))
 obtain ⟨q, hq⟩ : ∃ q : Int, 1048576 - (plCnt x : Int) = q := ⟨_, rfl⟩
 have hq2 : q ≤ 1048576 := by omega
 rw [hq] at HZ hnn
 have HZT := Lib.hid (fun (z : World) (hz : DbIn z z.heap.size A db) => szTableS_ok db A c q z hdl hz (by omega) hq2)
 obtain ⟨R, hR⟩ : ∃ R : Int, (DbV db ∧ plW (wsDb db) 8 x ≠ 0 → R = plCo db 9 x) ∧ (¬ (DbV db ∧ plW (wsDb db) 8 x ≠ 0) → R = -1) := by
  by_cases ho : DbV db ∧ plW (wsDb db) 8 x ≠ 0
  ·exact ⟨_, fun _ => rfl, fun h => absurd ho h⟩
  ·exact ⟨_, fun h => absurd h ho, fun _ => rfl⟩
 have CX := Lib.hid (fun (z : World) hz => toPlan_ok x f z HD.out hz)
 have CT := Lib.hid (fun (z : World) (hB : DbB db) (hz : DbIn z z.heap.size A db) => toTableS_ok db A c z hB hz)
 have SX := Lib.hid (fun (z : World) (f' : FP) (A' : Option Addr) (hB : DbB db) hz hs => specPlanCost_ok x f' db A' db.length z hz hB.1 hs R hR)
 have IX := Lib.hid (fun (z : World) (f' : FP) (A' : Option Addr) hz hs => implPlanCost_ok x f' db A' db.length z hz hdl hs R hR)
 have EI := Lib.hid (fun (z : World) (A' A'' : Option Addr) h1 h2 => eqTableS_ok db A' A'' db.length db.length z hdl h1 h2)
 unfold fpV at CX SX IX
 clear hs hq hR hq2
 unfold maxLen at hdl
 go_enter Tryz.func4, Tryz.ntmps4
 go_upto_region 1 with fail
 rw [HW1.out]
 go_wp2_with fail
 refine HZ.out.mono ?_
 rintro e w1 ⟨rfl, hb1⟩
 have HB1' := Lib.hid hb1
 clear hb1 c0 c1 c2 c3 c4
 go_wp2_with fail
 refine (HZT.out _ (dbIn_on HDb.out HB1'.out)).mono ?_
 rintro e w2 ⟨r, rfl, hr1, hr2, hr3, hb2⟩
 have HB2 := Lib.hid (bch HB1'.out hb2)
 have HR3 := Lib.hid hr3
 have r2 := Hr.out.on HB2.out
 have c0 := r2.cell 0
 have c1 := r2.cell 1
 have c2 := r2.cell 2
 have c3 := r2.cell 3
 have c4 := r2.cell 4
 clear hb2 r2 hr3
 by_cases hrn : r < 0
 ·go_wp2
  go_ret
  exact ⟨rfl, bch HB1.out HB2.out⟩
 have HBd := Lib.hid (HR3.out (by omega))
 go_wp2_with fail
 refine (CX.out w2 (HH.out.on HB2.out)).mono ?_
 rintro e w3 ⟨f3, rfl, hx3, hb3⟩
 have HX3 := Lib.hid hx3.in_
 have HB3 := Lib.hid (bch HB2.out hb3)
 clear hx3 hb3 c0 c1 c2 c3 c4
 go_wp2_with fail
 refine (CT.out w3 HBd.out (dbIn_on HDb.out HB3.out)).mono ?_
 rintro e w3a ⟨rfl, hd3a, hb3a⟩
 have HX3a := Lib.hid (HX3.out.on hb3a)
 have HS3a := Lib.hid (hd3a.db HBd.out)
 have HB3a := Lib.hid (bch HB3.out hb3a)
 clear hb3a hd3a
 go_wp2_with fail
 refine (SX.out w3a f3 _ HBd.out HX3a.out HS3a.out).mono ?_
 rintro e w4 ⟨rfl, hb4⟩
 have HB4 := Lib.hid (bch HB3a.out hb4)
 have r2 := Hr.out.on HB4.out
 have c0 := r2.cell 0
 have c1 := r2.cell 1
 have c2 := r2.cell 2
 have c3 := r2.cell 3
 have c4 := r2.cell 4
 clear hb4 r2
 go_wp2_with fail
 refine (CX.out w4 (HH.out.on HB4.out)).mono ?_
 rintro e w5 ⟨f5, rfl, hx5, hb5⟩
 obtain ⟨W6, hW6⟩ : ∃ z, w5.alloc (.cells #[.int .i64 f5.kind, .int .i64 f5.table, .slice f5.es.A f5.es.n f5.es.c, .slice f5.cs.A f5.cs.n f5.cs.c, .slice f5.ks.A f5.ks.n f5.ks.c] 38) = z := ⟨_, rfl⟩
 have B6 : Below w5.heap.size w5 W6 := by rw [← hW6]; exact balloc (Below.refl _ _) _
 have r6 : Row W6 w5.heap.size 38 [.int .i64 f5.kind, .int .i64 f5.table, .slice f5.es.A f5.es.n f5.es.c, .slice f5.cs.A f5.cs.n f5.cs.c, .slice f5.ks.A f5.ks.n f5.ks.c] := by rw [← hW6]; exact Row.new _ _ _
 have HX6 := Lib.hid (hx5.in_.on B6)
 have HB6 := Lib.hid (bch (bch HB4.out hb5) B6)
 have HW6 := Lib.hid hW6
 have Hr6 := Lib.hid r6
 clear hx5 hb5 hW6 B6 r6 c0 c1 c2 c3 c4
 go_upto_region 10 with fail
 rw [HW6.out]
 go_wp2_with fail
 refine (CT.out W6 HBd.out (dbIn_on HDb.out HB6.out)).mono ?_
 rintro e w7a ⟨rfl, hd7a, hb7a⟩
 have HX7a := Lib.hid (HX6.out.on hb7a)
 have HS7a := Lib.hid ((hd7a.db HBd.out).in_)
 have HB7a := Lib.hid (bch HB6.out hb7a)
 have Hr7a := Lib.hid (Hr6.out.on hb7a)
 clear hb7a hd7a
 have c0 := Hr7a.out.cell 0
 have c1 := Hr7a.out.cell 1
 have c2 := Hr7a.out.cell 2
 have c3 := Hr7a.out.cell 3
 have c4 := Hr7a.out.cell 4
 go_wp2_with fail
 refine (IX.out w7a f5 _ HX7a.out HS7a.out).mono ?_
 rintro e w7 ⟨rfl, hb7⟩
 have HX7 := Lib.hid (HX7a.out.on hb7)
 have HS7 := Lib.hid (dbIn_on HS7a.out hb7)
 have HB7 := Lib.hid (bch HB7a.out hb7)
 have Hr7 := Lib.hid (Hr7a.out.on hb7)
 clear hb7 c0 c1 c2 c3 c4
 go_wp2
 obtain ⟨u, hu⟩ : ∃ u, w7.drew = u := ⟨_, rfl⟩
 have Bu : Hid (Below w7.heap.size w7 u) := Lib.hid (hu ▸ (Below.refl _ _).drew)
 have Hu := Lib.hid hu
 have SB := Lib.hid (fun (z : World) (hz : Below w7.heap.size w7 z) => show z.cell? ⟨w5.heap.size, 0, none⟩ = some (.int .i64 f5.kind) ∧ z.cell? ⟨w5.heap.size, 1, none⟩ = some (.int .i64 f5.table) ∧ z.cell? ⟨w5.heap.size, 2, none⟩ = some (.slice f5.es.A f5.es.n f5.es.c) ∧ z.cell? ⟨w5.heap.size, 3, none⟩ = some (.slice f5.cs.A f5.cs.n f5.cs.c) ∧ z.cell? ⟨w5.heap.size, 4, none⟩ = some (.slice f5.ks.A f5.ks.n f5.ks.c) ∧ z.cell? ⟨w.heap.size, 0, none⟩ = some (.int .i64 f.kind) ∧ z.cell? ⟨w.heap.size, 1, none⟩ = some (.int .i64 f.table) ∧ z.cell? ⟨w.heap.size, 2, none⟩ = some (.slice f.es.A f.es.n f.es.c) ∧ z.cell? ⟨w.heap.size, 3, none⟩ = some (.slice f.cs.A f.cs.n f.cs.c) ∧ z.cell? ⟨w.heap.size, 4, none⟩ = some (.slice f.ks.A f.ks.n f.ks.c) from by
  have ra := Hr7.out.on hz
  have rb := Hr.out.on (bch HB7.out hz)
  exact ⟨ra.cell 0, ra.cell 1, ra.cell 2, ra.cell 3, ra.cell 4, rb.cell 0, rb.cell 1, rb.cell 2, rb.cell 3, rb.cell 4⟩)
 clear hu
 refine wp_region_held_drew (S := fun z => z.cell? ⟨w5.heap.size, 0, none⟩ = some (.int .i64 f5.kind) ∧ z.cell? ⟨w5.heap.size, 1, none⟩ = some (.int .i64 f5.table) ∧ z.cell? ⟨w5.heap.size, 2, none⟩ = some (.slice f5.es.A f5.es.n f5.es.c) ∧ z.cell? ⟨w5.heap.size, 3, none⟩ = some (.slice f5.cs.A f5.cs.n f5.cs.c) ∧ z.cell? ⟨w5.heap.size, 4, none⟩ = some (.slice f5.ks.A f5.ks.n f5.ks.c) ∧ z.cell? ⟨w.heap.size, 0, none⟩ = some (.int .i64 f.kind) ∧ z.cell? ⟨w.heap.size, 1, none⟩ = some (.int .i64 f.table) ∧ z.cell? ⟨w.heap.size, 2, none⟩ = some (.slice f.es.A f.es.n f.es.c) ∧ z.cell? ⟨w.heap.size, 3, none⟩ = some (.slice f.cs.A f.cs.n f.cs.c) ∧ z.cell? ⟨w.heap.size, 4, none⟩ = some (.slice f.ks.A f.ks.n f.ks.c)) (by kernel_rfl) ?_ (fun hHeld => ?_)
 ·exact SB.out _ (Below.refl _ _).drew
 rw [Hu.out] at hHeld ⊢
 refine takeL (i := 0) (v := ?v0) rfl (by kernel_rfl) (by kernel_rfl) (by kernel_rfl) (fun _ _ _ h => h) (Or.inl ⟨by rfl, ?hy0⟩) (by assumption) ?_
 case hy0 => ((intro w' hSw; (try dsimp only at hSw); obtain ⟨s0, s1, s2, s3, s4, t0, t1, t2, t3, t4⟩ := hSw; go_simp) <;> with_reducible rfl)
 try simp only [Act.put, sTA, sC0, sCS]
 refine takeL (i := 1) (v := ?v1) rfl (by kernel_rfl) (by kernel_rfl) (by kernel_rfl) (fun _ _ _ h => h) (Or.inl ⟨by rfl, ?hy1⟩) (by assumption) ?_
 case hy1 => ((intro w' hSw; (try dsimp only at hSw); obtain ⟨s0, s1, s2, s3, s4, t0, t1, t2, t3, t4⟩ := hSw; go_simp) <;> with_reducible rfl)
 try simp only [Act.put, sTA, sC0, sCS]
 refine wpAnyH_ready (rs := [2]) (by kernel_rfl) (by simp) ?_
 refine readyL rfl (fun K hK => ?_) AllReadyH.nil
 go_simp
 go_at_call 8
 refine (CX.out u (HH.out.on (bch HB7.out Bu.out))).mono ?_
 rintro e w8 ⟨f8, rfl, hx8, hb8⟩
 have HX8 := Lib.hid hx8.in_
 have HB8 := Lib.hid (bch Bu.out hb8)
 clear hx8 hb8
 refine hK.out _ _ ?hS2 (fun hHeld => ?_)
 case hS2 => exact SB.out _ HB8.out
 clear hK K
 try simp only [Act.put, sTA, sC0, sCS]
 refine wpAnyH_ready (rs := [3]) (by kernel_rfl) (by simp) ?_
 refine readyL rfl (fun K hK => ?_) AllReadyH.nil
 have EX := eqPlan_ok x f5 f8 w8 (HX7.out.on HB8.out) HX8.out
 unfold fpV at EX
 go_simp
 go_at_call 12
 refine EX.mono ?_
 rintro e w9 ⟨rfl, hb9⟩
 have HB9 := Lib.hid (bch HB8.out hb9)
 clear hb9 EX
 refine hK.out _ _ ?hS3 (fun hHeld => ?_)
 case hS3 => exact SB.out _ HB9.out
 clear hK K
 try simp only [Act.put, sTA, sC0, sCS]
 refine takeL (i := 4) (v := ?v4) rfl (by kernel_rfl) (by kernel_rfl) (by kernel_rfl) (fun _ _ _ h => h) (Or.inl ⟨by rfl, ?hy4⟩) (by assumption) ?_
 case hy4 => ((intro w' hSw; (try dsimp only at hSw); obtain ⟨s0, s1, s2, s3, s4, t0, t1, t2, t3, t4⟩ := hSw; go_simp) <;> with_reducible rfl)
 try simp only [Act.put, sTA, sC0, sCS]
 refine wpAnyH_done (by kernel_rfl) ?_ _
 clear hHeld
 go_wp2_with fail
 refine (CT.out w9 HBd.out (dbIn_on HDb.out (bch HB7.out HB9.out))).mono ?_
 rintro e w10 ⟨rfl, hd10, hb10⟩
 have HS10 := Lib.hid ((hd10.db HBd.out).in_)
 have HB10 := Lib.hid (bch HB9.out hb10)
 clear hb10 hd10
 go_wp2_with fail
 refine (EI.out w10 _ _ (dbIn_on HS7.out HB10.out) HS10.out).mono ?_
 rintro e w11 ⟨rfl, hb11⟩
 go_wp2
 go_ret
 exact ⟨rfl, bch HB1.out (bch (bch HB7.out HB10.out) hb11)⟩

namespace lawFnExactPlanCost
theorem own : ownKnob Tryz.prog.godebug = none := by kernel_rfl
theorem laidOut : laidOutB Tryz.prog = true := by kernel_rfl
theorem valTypes : ValTypes Tryz.prog 76 4 3 := ⟨⟨_, _, Tryz.underlying76, rfl, rfl, rfl, rfl⟩, Tryz.underlying4, Tryz.underlying3, by kernel_rfl, by kernel_rfl, by kernel_rfl⟩
theorem exTypes : ExTypes Tryz.prog 78 22 76 4 3 :=
 ⟨⟨_, _, _, _, Tryz.underlying78, rfl, rfl, rfl, rfl, rfl, rfl, rfl, rfl⟩, ⟨_, _, Tryz.underlying76, rfl, rfl, rfl, rfl⟩, Tryz.underlying22, Tryz.underlying4, Tryz.underlying3, by kernel_rfl, by kernel_rfl, by kernel_rfl, by kernel_rfl, by kernel_rfl⟩
theorem plTypes : PlTypes Tryz.prog 26 24 78 22 23 76 4 3 :=
 ⟨exTypes, ⟨_, _, _, _, _, Tryz.underlying26, rfl, rfl, rfl, rfl, rfl, rfl, rfl, rfl, rfl, rfl⟩, Tryz.underlying24, Tryz.underlying23, by kernel_rfl, by kernel_rfl, by kernel_rfl⟩

set_option maxRecDepth 100000 in
theorem lifted (os : Os) (started : os.Started) (H : Type) (enc : TypeId × Value → H) :
  ReturnsInHanded {} Tryz.checked os 4 .any (Rows.fnExactPlanCostSpec.pre6 enc Tryz.prog Tryz.f4 Rows.fnExactPlanCostRow.domain false) (Rows.fnExactPlanCostSpec.post enc Tryz.prog Tryz.f4 false true false false) := by
 refine returnsInHanded_of_change (C := Tryz.checked) own started (by kernel_rfl) Tryz.func4
  (ChangeSpec.witness6 (enc := enc) (C := Tryz.checked) false ⟨#[], #[.agg #[.int .i64 0, .int .i64 0, .slice none 0 0, .slice none 0 0, .slice none 0 0], .slice none 0 0], []⟩ 8 (by kernel_rfl) (by kernel_rfl) (by kernel_rfl) (by kernel_rfl)) ?_
 intro W base args ds gs before hval0 hW hcnd _
 have hval : ∀ (j : Nat) t v, Tryz.f4.params[j]? = some t → args[j]? = some v → Value.okWide Tryz.prog W .any base t v := hval0
 have hW' := hW
 obtain ⟨p, q, hA0, hV, rfl, hfz, hnd⟩ := hW
 have hA : DataW.TrodAll enc Tryz.prog W 0 (fun _ => true) true Tryz.f4.params.toList args.toList ds p := hA0
 rw [Tryz.params4] at hA hval
 obtain ⟨v0, vs0, d0, ds0, p0, q0, hargs, rfl, rfl, h0, r0⟩ := trodAll_cons hA
 obtain ⟨v1, vs1, d1, ds1, p1, q1, rfl, rfl, rfl, h1, r1⟩ := trodAll_cons r0
 obtain ⟨rfl, rfl, rfl⟩ := trodAll_nil r1
 obtain rfl : args = #[v0, v1] := by cases args; simp_all
 obtain ⟨rfl, rfl⟩ := trodVars_none hV
 obtain ⟨cs0, rfl, hz0⟩ := okWide_struct Tryz.underlying26 (hval 0 26 v0 rfl rfl)
 obtain ⟨cs0⟩ := cs0
 obtain ⟨a1, len1, c1, rfl⟩ := okWide_slice Tryz.underlying27 (hval 1 27 v1 rfl rfl)
 have k0 := h0
 have lt0 : ∀ x ∈ p0, x.block < W.heap.size := by obtain ⟨m, hm⟩ := k0; exact DataW.trod_lt m _ _ _ hm
 obtain ⟨f0, h0⟩ := h0
 have k1 := h1
 have lt1 : ∀ x ∈ p1, x.block < W.heap.size := by obtain ⟨m, hm⟩ := k1; exact DataW.trod_lt m _ _ _ hm
 obtain ⟨f1, h1⟩ := h1
 obtain ⟨g0, hcs0, x0, dd0, hx0⟩ := open_pl plTypes _ _ _ _ (Nat.le_refl _) (hz0.trans (by kernel_rfl)) h0
 have hcs0 : cs0 = fpC g0 := hcs0
 subst hcs0
 obtain ⟨db1, rfl, hc1, hm1, s1⟩ := open_tabs valTypes Tryz.underlying54 Tryz.underlying104 (by kernel_rfl) (by kernel_rfl) ⟨_, _, Tryz.underlying56, rfl, rfl, rfl, rfl⟩ Tryz.underlying27 (by kernel_rfl) h1
 clear hA0 hval0
 refine (FnExactPlanCost_walk g0 x0 a1 c1 db1 W ⟨dd0, hx0⟩ (Nat.le_trans hc1 hm1) s1).mono fun e W' ⟨he, bel⟩ => ?_
 subst he
 exact ⟨_, rfl, _, _, _, [], _, [], hW', trodAll_mk1 (shut_bool Tryz.underlying4 _), (trodAll_cons_mk (Below.trod laidOut (by kernel_rfl) (of_decide_eq_true (by kernel_rfl)) k0 bel lt0) (trodAll_cons_mk (Below.trod laidOut (by kernel_rfl) (of_decide_eq_true (by kernel_rfl)) k1 bel lt1) trodAll_mk0)), rfl, bel.frame _, fun h => by cases h⟩

theorem over : Rows.fnExactPlanCostRow.holds Tryz.pinned (OpenSpec.ofChange Rows.fnExactPlanCostSpec) :=
 OpenClaim.holds_of_wide 4 Tryz.f4 rfl rfl rfl rfl rfl rfl rfl ⟨rfl, rfl, rfl, rfl, rfl⟩ rfl rfl rfl rfl rfl (by kernel_rfl) Tryz.func4 (by kernel_rfl)
  (of_decide_eq_true (by kernel_rfl)) (by unfold Func.isWrapper; first | (rw [if_pos (by decide +kernel)]; kernel_rfl) | (rw [if_neg (by decide +kernel)]; exact ⟨rfl, rfl⟩))
  (fun os started H enc _ => lifted os started H enc)

theorem proved : Rows.FnExactPlanCostSaid := over
end lawFnExactPlanCost
#print axioms lawFnExactPlanCost.proved
end Go.Proofs.YtcbfbgngkdiijaaGreat
