/-
  Contracts: a filter over a plan (filterOf), any expression (anyExpr). (Printed by wip/geq.py.)
-/
import Derived.Test.YtcbfbgngkdiijaaProg
import Derived.Test.YtcbfbgngkdiijaaGeC
import Derived.Test.YtcbfbgngkdiijaaGeP
import Derived.Deep.CutBlock
import Derived.Deep.DeepCutAuto
namespace Go.Proofs.Ytcbfbgngkdiijaa
open Go.RowKit Go.Qo
set_option linter.unusedVariables false
set_option linter.unusedSimpArgs false

/-- What can be appended to at the root: the lists have no room left, or the list of expressions is the call's own and nothing else lies in its block. -/
def RootOk (lo : Nat) (w : World) (f : FP) (x : Pl) : Prop := (x.exprs.length ≤ 1000 ∧ x.cols.length ≤ 1000) ∧ f.cs.n = f.cs.c ∧ (f.es.n = f.es.c ∨ (x.cols = [] ∧ Kds lo w (.slice f.es.A f.es.n f.es.c) x.exprs ∧ PlsT (fun k => lo ≤ k ∧ (Value.slice f.es.A f.es.n f.es.c).ownBlock ≠ some k) w f.ks.A x.kids))
theorem Kds.low {lo lo' : Nat} {w : World} {v : Value} {es : List Ex} (h : Kds lo w v es) (hl : lo' ≤ lo) : Kds lo' w v es := by
  obtain ⟨fs, h1, h2, h3⟩ := h
  exact ⟨fs, h1, h2.low hl, fun i g x hg hx => (h3 i g x hg hx).mono fun k _ hk => ⟨by omega, hk.2⟩⟩
theorem RootOk.low {lo lo' : Nat} {w : World} {f : FP} {x : Pl} (h : RootOk lo w f x) (hl : lo' ≤ lo) : RootOk lo' w f x :=
  ⟨h.1, h.2.1, h.2.2.imp id fun ⟨h0, h1, h2⟩ => ⟨h0, h1.low hl, PlsT.mono h2 fun k _ hk => ⟨by omega, hk.2⟩⟩⟩
theorem RootOk.only {lo : Nat} {w w' : World} {f : FP} {x : Pl} {S : Nat → Prop} (h : RootOk lo w f x) (k : Only S w w') (hS : ∀ i, S i → i < lo) : RootOk lo w' f x :=
  ⟨h.1, h.2.1, h.2.2.imp id fun ⟨h0, h1, h2⟩ => ⟨h0, h1.only k hS, PlsT.keep h2 k.size fun j hj hl => k.block j hl fun hs => by have := hS j hs; omega⟩⟩
theorem rootOk_lit {lo : Nat} {w : World} {f : FP} {k t : Int} {es : List Ex} {cs : List Int} {ks : List Pl} (h1 : es.length ≤ 1000) (h2 : cs.length ≤ 1000) (h3 : f.cs.n = f.cs.c) (h4 : f.es.n = f.es.c) : RootOk lo w f (.mk k t es cs ks) := ⟨⟨h1, h2⟩, h3, .inl h4⟩

theorem Row.third (w : World) (t1 t2 t3 : TypeId) (c1 c2 c3 : Array Value) : Row (((w.alloc (.cells c1 t1)).alloc (.cells c2 t2)).alloc (.cells c3 t3)) (w.heap.size + 2) t3 c3.toList := by
  have := Row.new ((w.alloc (.cells c1 t1)).alloc (.cells c2 t2)) t3 c3
  simpa using this

set_option maxRecDepth 20000 in
set_option maxHeartbeats 2000000 in
theorem filterOf_ok (S : Nat → Prop) (f : FE) (g : FP) (x : Ex) (y : Pl) (w : World) (hS : ∀ k, w.heap.size ≤ k → S k) (hx : ExT S w f x) (hy : PlT S w g y) :
    Calls Try.prog 61 #[feV f, fpV g] w fun e w' => ∃ (h : FP) (z : Pl), e = .returned (fpV h) ∧ PlT S w' h z ∧ Below w.heap.size w w' ∧ (∀ lo w'', RootOk lo w'' h z) ∧ plN z = 1 + exN x + plN y := by
  obtain ⟨W1, hW1⟩ : ∃ z, ((w.alloc (.cells #[.int .i64 f.kind, .int .i64 f.col, .bool f.val.1, .int .i64 f.val.2, .slice f.sv.A f.sv.n f.sv.c] 66)).alloc (.cells #[.int .i64 g.kind, .int .i64 g.table, .slice g.es.A g.es.n g.es.c, .slice g.cs.A g.cs.n g.cs.c, .slice g.ks.A g.ks.n g.ks.c] 27)).alloc (.cells #[.int .i64 0, .int .i64 0, .slice none 0 0, .slice none 0 0, .slice none 0 0] 27) = z := ⟨_, rfl⟩
  have B1 : Below w.heap.size w W1 := by rw [← hW1]; exact balloc (balloc (balloc (Below.refl _ _) _) _) _
  have r1 : Row W1 w.heap.size 66 [.int .i64 f.kind, .int .i64 f.col, .bool f.val.1, .int .i64 f.val.2, .slice f.sv.A f.sv.n f.sv.c] := by rw [← hW1]; exact (Row.first _ _ _ _).alloc _
  have r2 : Row W1 (w.heap.size + 1) 27 [.int .i64 g.kind, .int .i64 g.table, .slice g.es.A g.es.n g.es.c, .slice g.cs.A g.cs.n g.cs.c, .slice g.ks.A g.ks.n g.ks.c] := by rw [← hW1]; exact (Row.second _ _ _ _).alloc _
  have r3 : Row W1 (w.heap.size + 2) 27 [.int .i64 0, .int .i64 0, .slice none 0 0, .slice none 0 0, .slice none 0 0] := by rw [← hW1]; exact Row.third _ _ _ _ _ _ _
  have hs1 : W1.heap.size = w.heap.size + 3 := by rw [← hW1]; simp
  have HW1 := Lib.hid hW1
  have HB1 := Lib.hid B1
  have Hr3 := Lib.hid r3
  have Hs1 := Lib.hid hs1
  have HX := Lib.hid (And.intro hS (And.intro hx hy))
  have i0 := r1.cell 0
  have i1 := r1.cell 1
  have i2 := r1.cell 2
  have i3 := r1.cell 3
  have i4 := r1.cell 4
  have j0 := r2.cell 0
  have j1 := r2.cell 1
  have j2 := r2.cell 2
  have j3 := r2.cell 3
  have j4 := r2.cell 4
  have c0 := r3.cell 0
  have c1 := r3.cell 1
  have c2 := r3.cell 2
  have c3 := r3.cell 3
  have c4 := r3.cell 4
  have f0 := r3.frozen 0
  have f1 := r3.frozen 1
  have f2 := r3.frozen 2
  have f3 := r3.frozen 3
  have f4 := r3.frozen 4
  have hl1 := r1.lt
  have hl2 := r2.lt
  have hl3 := r3.lt
  unfold feV fpV
  clear hW1 B1 r1 r2 r3 hs1 hS hx hy
  go_enter Try.func61, Try.ntmps61
  go_upto_region 1 with fail
  rw [HW1.out]
  obtain ⟨Z, hZ⟩ : ∃ z, (((((W1.setCell ⟨w.heap.size + 2, 0, none⟩ (.int .i64 2)).setCell ⟨w.heap.size + 2, 1, none⟩ (.int .i64 0)).setCell ⟨w.heap.size + 2, 2, none⟩ (.slice (some ⟨W1.heap.size, 0, none⟩) 1 1)).setCell ⟨w.heap.size + 2, 3, none⟩ (.slice none 0 0)).setCell ⟨w.heap.size + 2, 4, none⟩ (.slice (some ⟨W1.heap.size + 1, 0, none⟩) 1 1)) = z := ⟨_, rfl⟩
  have hZs : Only (fun k => k = w.heap.size + 2) W1 Z := by rw [← hZ]; exact set5 _ _ _ _ _ _ _
  have v0r : Row Z (w.heap.size + 2) 27 [.int .i64 2, .int .i64 0, .slice (some ⟨W1.heap.size, 0, none⟩) 1 1, .slice none 0 0, .slice (some ⟨W1.heap.size + 1, 0, none⟩) 1 1] := by rw [← hZ]; exact ((((Hr3.out.set 0 _).set 1 _).set 2 _).set 3 _).set 4 _
  have zs : Z.heap.size = W1.heap.size := by rw [← hZ]; simp [World.setCell]
  obtain ⟨V1, hV1⟩ : ∃ z, Z.alloc (.cells #[.int .i64 f.kind, .int .i64 f.col, .bool f.val.1, .int .i64 f.val.2, .slice f.sv.A f.sv.n f.sv.c] 66) = z := ⟨_, rfl⟩
  have v1b : Below Z.heap.size Z V1 := by rw [← hV1]; exact balloc (Below.refl _ _) _
  have v1s : V1.heap.size = W1.heap.size + 1 := by rw [← hV1]; simp; omega
  have v1r := v0r.on v1b
  have HV1 := Lib.hid hV1
  obtain ⟨V2, hV2⟩ : ∃ z, V1.alloc (.cells #[.int .i64 g.kind, .int .i64 g.table, .slice g.es.A g.es.n g.es.c, .slice g.cs.A g.cs.n g.cs.c, .slice g.ks.A g.ks.n g.ks.c] 27) = z := ⟨_, rfl⟩
  have v2b : Below V1.heap.size V1 V2 := by rw [← hV2]; exact balloc (Below.refl _ _) _
  have v2s : V2.heap.size = W1.heap.size + 2 := by rw [← hV2]; simp; omega
  have v2r := v1r.on v2b
  have HV2 := Lib.hid hV2
  have HZ := Lib.hid hZ
  have e0 := v2r.cell 0
  have e1 := v2r.cell 1
  have e2 := v2r.cell 2
  have e3 := v2r.cell 3
  have e4 := v2r.cell 4
  have VR := Lib.hid v2r
  have FA := Lib.hid (And.intro hZs (And.intro zs ((And.intro v1b (And.intro v1s  (And.intro v2b (And.intro v2s trivial)))))))
  clear hZ hZs zs hV1 v1b v1s v1r hV2 v2b v2s v2r v0r
  go_wp2
  rw [HZ.out, HV1.out, HV2.out]
  obtain ⟨hZs, zs, v1b, v1s, v2b, v2s, -⟩ := FA.out
  obtain ⟨hS, hx, hy⟩ := HX.out
  have hs1 := Hs1.out
  have k1 : ∀ k, S k → k < w.heap.size → Z.heap[k]? = w.heap[k]? := fun k _ hl => (hZs.block k (by omega) (show ¬ k = w.heap.size + 2 by omega)).trans (HB1.out.block k hl)
  have X1 := exs_lit1 (hx.keep (by omega) k1) #[.int .i64 f.kind, .int .i64 f.col, .bool f.val.1, .int .i64 f.val.2, .slice f.sv.A f.sv.n f.sv.c] rfl (hS _ (by omega)) 66
  rw [HV1.out, zs] at X1
  have Y1 := pls_lit1 ((hy.keep (by omega) k1).keep v1b.size fun k _ hl => v1b.block k hl) #[.int .i64 g.kind, .int .i64 g.table, .slice g.es.A g.es.n g.es.c, .slice g.cs.A g.cs.n g.cs.c, .slice g.ks.A g.ks.n g.ks.c] rfl (hS _ (by omega)) 27
  rw [HV2.out, v1s] at Y1
  have hm := PlT.make (S := S) (k := 2) (t := 0) (es := ⟨some ⟨W1.heap.size, 0, none⟩, 1, 1⟩) (cs := ⟨none, 0, 0⟩) (ks := ⟨some ⟨W1.heap.size + 1, 0, none⟩, 1, 1⟩) (xs := [x]) (cols := []) (ps := [y]) (SVok.lit (n := 1) (by decide)) SVok.nil (SVok.lit (n := 1) (by decide)) (X1.keep v2b.size fun k _ hl => v2b.block k hl) SlS.nil Y1
  refine bodyPost_ret (v := fpV ⟨2, 0, ⟨some ⟨W1.heap.size, 0, none⟩, 1, 1⟩, ⟨none, 0, 0⟩, ⟨some ⟨W1.heap.size + 1, 0, none⟩, 1, 1⟩⟩) (by simp [results, Try.results61, go_sem, feV, fpV, e0, e1, e2, e3, e4]) rfl ?_
  exact ⟨_, _, rfl, hm, bch (bch (Only.from_ HB1.out rfl hZs fun i (hi : i = w.heap.size + 2) => by omega) v1b) v2b, fun lo w'' => rootOk_lit (by simp) (by simp) rfl rfl, by simp only [plN, plsN, exsN]; omega⟩

set_option maxRecDepth 20000 in
set_option maxHeartbeats 4000000 in
theorem anyExpr_ok (b p : Nat) (width : Int) (w : World) (hR : Rd w b p) (hp : p + 60 ≤ 1099511627776) :
    Calls Try.prog 48 #[.pointer (some ⟨b, 0, none⟩), .int .i64 width] w (GotEx 60 b (p + 60) w) := by
  have hlt := hR.lt
  obtain ⟨W0, hW0⟩ : ∃ z, w.alloc (.cells #[.int .i64 0, .int .i64 0, .bool false, .int .i64 0, .slice none 0 0] 66) = z := ⟨_, rfl⟩
  have B0 : But b w W0 := by rw [← hW0]; exact (Only.refl w).alloc _
  have R0 : Rd W0 b p := by rw [← hW0]; exact hR.on (balloc (Below.refl _ _) _)
  have r0 : Row W0 w.heap.size 66 [.int .i64 0, .int .i64 0, .bool false, .int .i64 0, .slice none 0 0] := by rw [← hW0]; exact Row.new _ _ _
  have HE := Lib.hid (randomExpr_ok 3 (by omega) b p width W0 R0 (by unfold reC; omega))
  have e3 : ((3 : Nat) : Int) = 3 := rfl
  rw [e3] at HE
  have HW0 := Lib.hid hW0
  have HB0 := Lib.hid B0
  have Hr0 := Lib.hid r0
  have hl0 := r0.lt
  clear hR hW0 B0 R0 r0 e3
  go_enter Try.func48, Try.ntmps48
  go_upto_region 1 with fail
  rw [HW0.out]
  go_wp2_with fail
  refine HE.out.mono ?_
  rintro e w1 ⟨f, x, rfl, hx, hb1, hR1, hxn⟩
  have HXN := Lib.hid (show exN x ≤ 60 by unfold reC at hxn; omega)
  clear hxn
  have hr1 := Hr0.out.only hb1 (by omega)
  have hz1 := hb1.size
  unfold feV
  obtain ⟨W2, hW2⟩ : ∃ z, w1.alloc (.cells #[.int .i64 f.kind, .int .i64 f.col, .bool f.val.1, .int .i64 f.val.2, .slice f.sv.A f.sv.n f.sv.c] 66) = z := ⟨_, rfl⟩
  obtain ⟨eb, heb⟩ : ∃ n, w1.heap.size = n := ⟨_, rfl⟩
  have Hk2 := Lib.hid (show Row W2 eb 66 [.int .i64 f.kind, .int .i64 f.col, .bool f.val.1, .int .i64 f.val.2, .slice f.sv.A f.sv.n f.sv.c] by rw [← hW2, ← heb]; exact Row.new _ _ _)
  have Hr2 := Lib.hid (show Row W2 w.heap.size 66 [.int .i64 0, .int .i64 0, .bool false, .int .i64 0, .slice none 0 0] by rw [← hW2]; exact hr1.alloc _)
  have HB2 := Lib.hid (show But b w W2 by rw [← hW2]; exact (HB0.out.trans hb1).alloc _)
  have HR2 := Lib.hid (show Rd W2 b (p + 47) by rw [← hW2]; exact (hR1.on (balloc (Below.refl _ _) _)).mono (by unfold reC; omega))
  have HX2 := Lib.hid (show ExT (fun k => w.heap.size < k ∧ k < eb) W2 f x by
    rw [← hW2]
    have hb := balloc (Below.refl w1.heap.size w1) (.cells #[.int .i64 f.kind, .int .i64 f.col, .bool f.val.1, .int .i64 f.val.2, .slice f.sv.A f.sv.n f.sv.c] 66)
    exact (hx.mono fun k hk h => ⟨by omega, by omega⟩).keep hb.size fun k _ hl => hb.block k hl)
  have heb1 : w.heap.size < eb := by omega
  have Heb := Lib.hid heb
  have HW2 := Lib.hid hW2
  clear hx hb1 hR1 hr1 hW2 heb hz1
  go_upto_region 2 with fail
  rw [HW2.out, Heb.out]
  go_wp2_with fail
  refine (pick_ok b (p + 47) 18 W2 HR2.out (by omega)).mono ?_
  rintro e w3 ⟨k, rfl, hk, hb3, hsz3, hR3⟩
  have hk3 := Hk2.out.only hb3 (by omega)
  have Hr3 := Lib.hid (Hr2.out.only hb3 (by omega))
  have HB3 := Lib.hid (HB2.out.trans hb3)
  have HR3 := Lib.hid hR3
  have HX3 := Lib.hid (HX2.out.keep hb3.size fun j hj hl => hb3.block j hl (by omega))
  have Hk3 := Lib.hid hk3
  have hk0 := hk.1
  have hl3 := hk3.lt
  have k0 : w3.cell? ⟨eb, 0, none⟩ = some (.int .i64 f.kind) := hk3.cell 0
  have k1 : w3.cell? ⟨eb, 1, none⟩ = some (.int .i64 f.col) := hk3.cell 1
  have k2 : w3.cell? ⟨eb, 2, none⟩ = some (.bool f.val.1) := hk3.cell 2
  have k3 : w3.cell? ⟨eb, 3, none⟩ = some (.int .i64 f.val.2) := hk3.cell 3
  have k4 : w3.cell? ⟨eb, 4, none⟩ = some (.slice f.sv.A f.sv.n f.sv.c) := hk3.cell 4
  have hnf := hk3.frozen
  have HNf := Lib.hid hnf
  have Heb1 := Lib.hid heb1
  clear hk hb3 hsz3 hR3 hk3 hnf
  go_upto_block 0 with fail
  go_cut [] (fun wx => ∃ (f2 : FE) (x2 : Ex), Row wx eb 66 (feC f2) ∧ ExT (fun k => w.heap.size < k ∧ k < eb) wx f2 x2 ∧ Row wx w.heap.size 66 [.int .i64 0, .int .i64 0, .bool false, .int .i64 0, .slice none 0 0] ∧ But b w wx ∧ Rd wx b (p + 60) ∧ exN x2 ≤ 60)
  case first =>
    have h3 : k = 0 ∨ k = 1 ∨ k = 2 ∨ (¬ k = 0 ∧ ¬ k = 1 ∧ ¬ k = 2) := by omega
    rcases h3 with rfl | rfl | rfl | ⟨n0, n1, n2⟩
    · obtain ⟨V, hV⟩ : ∃ z, w3.alloc (.cells #[.int .i64 0, .int .i64 12, .int .i64 3, .int .i64 10] 3) = z := ⟨_, rfl⟩
      have hvb : Below w3.heap.size w3 V := by rw [← hV]; exact balloc (Below.refl _ _) _
      have hvs : V.heap.size = w3.heap.size + 1 := by rw [← hV]; simp
      have HO := Lib.hid (one_ok b (p + 48) (some ⟨w3.heap.size, 0, none⟩) 4 [0, 12, 3, 10] V (HR3.out.on hvb) (by omega) (by simp) (by simp) (by rw [← hV]; exact Row.sl' (t := 3) intC_length ((Row.new w3 _ _).of rfl)) (by rintro a ha; cases ha; exact (show w3.heap.size ≠ b by omega)))
      have Hvb := Lib.hid hvb
      have HV := Lib.hid hV
      clear hV hvb
      go_upto_region 4 with fail
      go_wp2_with fail
      rw [HV.out]
      refine HO.out.mono ?_
      rintro e w4 ⟨kk, rfl, _, hb4, hsz4, hR4⟩
      have hk4 := (Hk3.out.on Hvb.out).only hb4 (by omega)
      have Hr4 := Lib.hid ((Hr3.out.on Hvb.out).only hb4 (by omega))
      have HB4 := Lib.hid ((HB3.out.below Hvb.out).trans hb4)
      have HR4 := Lib.hid hR4
      have HX4 := Lib.hid ((HX3.out.keep Hvb.out.size fun j _ hl => Hvb.out.block j hl).keep hb4.size fun j hj hl => hb4.block j hl (by omega))
      have Hk4 := Lib.hid hk4
      have m0 : w4.cell? ⟨eb, 0, none⟩ = some (.int .i64 f.kind) := hk4.cell 0
      have g0 := hk4.frozen 0
      have hl4 := hk4.lt
      clear hb4 hsz4 hR4 hk4
      go_wp2
      go_meet
      have hs := Only.set (S := fun i => i = eb) (p := ⟨eb, 0, none⟩) (Only.refl w4) (.inl rfl) (.int .i64 kk)
      obtain ⟨q1, q2, q3, q4⟩ := HX4.out.flat
      have hbd := HX4.out.bnd.len
      exact ⟨⟨kk, f.col, f.val, f.sv⟩, .mk kk f.col f.val x.kids, (Hk4.out.set 0 _), (ExT.make (n := f.sv.n) (cap := f.sv.c) (A := f.sv.A) q4 q1 q2 q3 hbd).keep hs.size (fun j hj hl => hs.block j hl (show ¬ j = eb by omega)), Hr4.out.only hs (show ¬ w.heap.size = eb by omega), HB4.out.step hs (fun j (hj : j = eb) => .inr (by omega)), (HR4.out.apart hs fun j (hj : j = eb) => by omega).mono (by omega), by have h := HXN.out; rw [exN_eq] at h ⊢; exact h⟩
    · obtain ⟨V, hV⟩ : ∃ z, w3.alloc (.cells #[.int .i64 (-1), .int .i64 6, .int .i64 width] 3) = z := ⟨_, rfl⟩
      have hvb : Below w3.heap.size w3 V := by rw [← hV]; exact balloc (Below.refl _ _) _
      have hvs : V.heap.size = w3.heap.size + 1 := by rw [← hV]; simp
      have HO := Lib.hid (one_ok b (p + 48) (some ⟨w3.heap.size, 0, none⟩) 3 [(-1), 6, width] V (HR3.out.on hvb) (by omega) (by simp) (by simp) (by rw [← hV]; exact Row.sl' (t := 3) intC_length ((Row.new w3 _ _).of rfl)) (by rintro a ha; cases ha; exact (show w3.heap.size ≠ b by omega)))
      have Hvb := Lib.hid hvb
      have HV := Lib.hid hV
      clear hV hvb
      go_upto_region 6 with fail
      go_wp2_with fail
      rw [HV.out]
      refine HO.out.mono ?_
      rintro e w4 ⟨kk, rfl, _, hb4, hsz4, hR4⟩
      have hk4 := (Hk3.out.on Hvb.out).only hb4 (by omega)
      have Hr4 := Lib.hid ((Hr3.out.on Hvb.out).only hb4 (by omega))
      have HB4 := Lib.hid ((HB3.out.below Hvb.out).trans hb4)
      have HR4 := Lib.hid hR4
      have HX4 := Lib.hid ((HX3.out.keep Hvb.out.size fun j _ hl => Hvb.out.block j hl).keep hb4.size fun j hj hl => hb4.block j hl (by omega))
      have Hk4 := Lib.hid hk4
      have m0 : w4.cell? ⟨eb, 1, none⟩ = some (.int .i64 f.col) := hk4.cell 1
      have g0 := hk4.frozen 1
      have hl4 := hk4.lt
      clear hb4 hsz4 hR4 hk4
      go_wp2
      go_meet
      have hs := Only.set (S := fun i => i = eb) (p := ⟨eb, 1, none⟩) (Only.refl w4) (.inl rfl) (.int .i64 kk)
      obtain ⟨q1, q2, q3, q4⟩ := HX4.out.flat
      have hbd := HX4.out.bnd.len
      exact ⟨⟨f.kind, kk, f.val, f.sv⟩, .mk f.kind kk f.val x.kids, (Hk4.out.set 1 _), (ExT.make (n := f.sv.n) (cap := f.sv.c) (A := f.sv.A) q4 q1 q2 q3 hbd).keep hs.size (fun j hj hl => hs.block j hl (show ¬ j = eb by omega)), Hr4.out.only hs (show ¬ w.heap.size = eb by omega), HB4.out.step hs (fun j (hj : j = eb) => .inr (by omega)), (HR4.out.apart hs fun j (hj : j = eb) => by omega).mono (by omega), by have h := HXN.out; rw [exN_eq] at h ⊢; exact h⟩
    · have HV := Lib.hid (anyValue_ok b (p + 48) w3 HR3.out (by omega))
      go_wp2_with fail
      refine HV.out.mono ?_
      rintro e w4 ⟨⟨v1, v2⟩, rfl, hv, hb4, hR4⟩
      have hk4 := Hk3.out.only hb4 (by omega)
      have Hr4 := Lib.hid (Hr3.out.only hb4 (by omega))
      have HB4 := Lib.hid (HB3.out.trans hb4)
      have HR4 := Lib.hid hR4
      have HX4 := Lib.hid (HX3.out.keep hb4.size fun j hj hl => hb4.block j hl (by omega))
      have Hk4 := Lib.hid hk4
      have m2 : w4.cell? ⟨eb, 2, none⟩ = some (.bool f.val.1) := hk4.cell 2
      have m3 : w4.cell? ⟨eb, 3, none⟩ = some (.int .i64 f.val.2) := hk4.cell 3
      have g2 := hk4.frozen 2
      have g3 := hk4.frozen 3
      have hl4 := hk4.lt
      clear hv hb4 hR4 hk4
      go_wp2
      go_meet
      have hs := Only.set (S := fun i => i = eb) (p := ⟨eb, 3, none⟩) (Only.set (S := fun i => i = eb) (p := ⟨eb, 2, none⟩) (Only.refl w4) (.inl rfl) (.bool v1)) (.inl rfl) (.int .i64 v2)
      obtain ⟨q1, q2, q3, q4⟩ := HX4.out.flat
      have hbd := HX4.out.bnd.len
      exact ⟨⟨f.kind, f.col, (v1, v2), f.sv⟩, .mk f.kind f.col (v1, v2) x.kids, (Hk4.out.set 2 _).set 3 _, (ExT.make (n := f.sv.n) (cap := f.sv.c) (A := f.sv.A) q4 q1 q2 q3 hbd).keep hs.size (fun j hj hl => hs.block j hl (show ¬ j = eb by omega)), Hr4.out.only hs (show ¬ w.heap.size = eb by omega), HB4.out.step hs (fun j (hj : j = eb) => .inr (by omega)), (HR4.out.apart hs fun j (hj : j = eb) => by omega).mono (by omega), by have h := HXN.out; rw [exN_eq] at h ⊢; exact h⟩
    · have n0' : (k == 0) = false := by simpa using n0
      go_wp2
      go_meet
      exact ⟨f, x, Hk3.out, HX3.out, Hr3.out, HB3.out, HR3.out.mono (by omega), HXN.out⟩
  case rest =>
    obtain ⟨f2, x2, hke, hxe, hre, hbe, hRe, hxn2⟩ := hcut
    have HXM := Lib.hid hxn2
    clear hxn2
    have hle := hke.lt
    have hlr := hre.lt
    have k0 : wc.cell? ⟨eb, 0, none⟩ = some (.int .i64 f2.kind) := hke.cell 0
    have k1 : wc.cell? ⟨eb, 1, none⟩ = some (.int .i64 f2.col) := hke.cell 1
    have k2 : wc.cell? ⟨eb, 2, none⟩ = some (.bool f2.val.1) := hke.cell 2
    have k3 : wc.cell? ⟨eb, 3, none⟩ = some (.int .i64 f2.val.2) := hke.cell 3
    have k4 : wc.cell? ⟨eb, 4, none⟩ = some (.slice f2.sv.A f2.sv.n f2.sv.c) := hke.cell 4
    have c0 := hre.cell 0
    have c1 := hre.cell 1
    have c2 := hre.cell 2
    have c3 := hre.cell 3
    have c4 := hre.cell 4
    have f0 := hre.frozen 0
    have f1 := hre.frozen 1
    have f2' := hre.frozen 2
    have f3 := hre.frozen 3
    have f4 := hre.frozen 4
    have H9 := Lib.hid (And.intro hxe (And.intro hbe hRe))
    clear hke hxe hre hbe hRe
    go_wp2
    refine bodyPost_ret (v := feV f2) (by simp [results, Try.results48, go_sem, feV, c0, c1, c2, c3, c4]) rfl ?_
    exact gotEx_of (H9.out.1.mono fun k _ hk => hk.1) H9.out.2.1 H9.out.2.2 hlt _ _ _ _ _ rfl HXM.out
end Go.Proofs.Ytcbfbgngkdiijaa
