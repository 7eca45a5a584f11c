/-
  Contracts of the drawing of conditions: condition, randomCondition. (Printed by wip/gec.py.)
-/
import Derived.Test.YtcbfbgngkdiijaaProg
import Derived.Test.YtcbfbgngkdiijaaGeE
import Derived.Deep.DeepCutAuto
namespace Go.Proofs.Ytcbfbgngkdiijaa
open Go.RowKit Go.Qo
set_option linter.unusedVariables false
set_option linter.unusedSimpArgs false

theorem exs_lit1 {S : Nat → Prop} {w : World} {f : FE} {x : Ex} (hx : ExT S w f x) (cs : Array Value) (hcs : cs.toList = feC f) (hS : S w.heap.size) (t : TypeId) : ExsT S (w.alloc (.cells cs t)) (some ⟨w.heap.size, 0, none⟩) [x] := by
  have hb := balloc (Below.refl w.heap.size w) (.cells cs t)
  refine ⟨[f], rfl, Row.slS (t := t) feC_length ((Row.new w t cs).of (by rw [hcs]; simp)) hS, fun i g y hg hy => ?_⟩
  have hk : ExT S (w.alloc (.cells cs t)) f x := hx.keep hb.size fun b _ hl => hb.block b hl
  cases i with
  | zero => simp at hg hy; subst hg hy; exact hk
  | succ i => simp at hg
theorem exs_lit2 {S : Nat → Prop} {w : World} {f f' : FE} {x x' : Ex} (hx : ExT S w f x) (hx' : ExT S w f' x') (cs : Array Value) (hcs : cs.toList = feC f ++ feC f') (hS : S w.heap.size) (t : TypeId) : ExsT S (w.alloc (.cells cs t)) (some ⟨w.heap.size, 0, none⟩) [x, x'] := by
  have hb := balloc (Below.refl w.heap.size w) (.cells cs t)
  refine ⟨[f, f'], rfl, Row.slS (t := t) feC_length ((Row.new w t cs).of (by rw [hcs]; simp)) hS, fun i g y hg hy => ?_⟩
  have hk : ExT S (w.alloc (.cells cs t)) f x := hx.keep hb.size fun b _ hl => hb.block b hl
  have hk' : ExT S (w.alloc (.cells cs t)) f' x' := hx'.keep hb.size fun b _ hl => hb.block b hl
  cases i with
  | zero => simp at hg hy; subst hg hy; exact hk
  | succ i => cases i with
    | zero => simp at hg hy; subst hg hy; exact hk'
    | succ i => simp at hg
/-- What is handed back from a box of the call's own: the tree beside the box. -/
theorem gotEx_of {D b p : Nat} {w wx : World} {f : FE} {x : Ex} (hx : ExT (fun k => w.heap.size < k) wx f x) (hb : But b w wx) (hR : Rd wx b p) (hlt : b < w.heap.size) (v0 v1 v2 v3 v4 : Value) {e : Ending} (he : e = .returned (feV f)) (hD : exN x ≤ D) :
    GotEx D b p w e (((((wx.setCell ⟨w.heap.size, 0, none⟩ v0).setCell ⟨w.heap.size, 1, none⟩ v1).setCell ⟨w.heap.size, 2, none⟩ v2).setCell ⟨w.heap.size, 3, none⟩ v3).setCell ⟨w.heap.size, 4, none⟩ v4) := by
  have hs := set5 wx w.heap.size v0 v1 v2 v3 v4
  exact ⟨f, x, he, (hx.keep hs.size fun k hk hl => hs.block k hl (by omega)).mono fun k _ hk => Nat.le_of_lt hk, hb.step hs fun i hi => .inr (by omega), hR.apart hs fun i hi => by omega, hD⟩

def coC (d : Nat) : Nat := 30 * (d + 1)
def CO (d : Nat) : Prop := ∀ (b p : Nat) (width : Int) (w : World), Rd w b p → p + coC d ≤ 1099511627776 →
  Calls Try.prog 72 #[.pointer (some ⟨b, 0, none⟩), .int .i64 width, .int .i64 d] w (GotEx (coC d) b (p + coC d) w)

set_option maxRecDepth 20000 in
set_option maxHeartbeats 8000000 in
theorem condition_of (d : Nat) (hd : d ≤ 8) (ih : ∀ d', d = d' + 1 → CO d') : CO d := fun b p width w hR hp => by
  have hlt := hR.lt
  have hcd : 30 ≤ coC d := by unfold coC; omega
  have IH := Lib.hid ih
  have HP := Lib.hid (fun (z : World) (q : Nat) (n : Int) (hz : Rd z b q) (hq : q ≤ 1099511627776) => pick_ok b q n z hz hq)
  obtain ⟨W0, hW0⟩ : ∃ z, w.alloc (.cells #[.int .i64 0, .int .i64 0, .bool false, .int .i64 0, .slice none 0 0] 66) = z := ⟨_, rfl⟩
  have B0 : But b w W0 := by rw [← hW0]; exact (Only.refl w).alloc _
  have R0 : Rd W0 b p := by rw [← hW0]; exact hR.on (balloc (Below.refl _ _) _)
  have r0 : Row W0 w.heap.size 66 [.int .i64 0, .int .i64 0, .bool false, .int .i64 0, .slice none 0 0] := by rw [← hW0]; exact Row.new _ _ _
  have HW0 := Lib.hid hW0
  have HB0 := Lib.hid B0
  have HR0 := Lib.hid R0
  have Hr0 := Lib.hid r0
  clear hR ih hW0 B0 R0 r0
  go_enter Try.func72, Try.ntmps72
  go_upto_region 1 with fail
  rw [HW0.out]
  go_wp2_with fail
  refine (HP.out W0 p width HR0.out (by omega)).mono ?_
  rintro e w1 ⟨k1, rfl, hk1, hb1, hsz1, hR1⟩
  have hr1 := Hr0.out.only hb1 (by omega)
  have hl1 := hr1.lt
  obtain ⟨W2, hW2⟩ : ∃ z, w1.alloc (.cells #[.int .i64 1, .int .i64 k1, .bool false, .int .i64 0, .slice none 0 0] 66) = z := ⟨_, rfl⟩
  obtain ⟨cb, hcb⟩ : ∃ n, w1.heap.size = n := ⟨_, rfl⟩
  have Hc2 := Lib.hid (show Row W2 cb 66 (feC ⟨1, k1, (false, 0), ⟨none, 0, 0⟩⟩) by rw [← hW2, ← hcb]; exact Row.new _ _ _)
  have Hr2 := Lib.hid (show Row W2 w.heap.size 66 [.int .i64 0, .int .i64 0, .bool false, .int .i64 0, .slice none 0 0] by rw [← hW2]; exact hr1.alloc _)
  have HB2 := Lib.hid (show But b w W2 by rw [← hW2]; exact (HB0.out.trans hb1).alloc _)
  have HR2 := Lib.hid (show Rd W2 b (p + 1) by rw [← hW2]; exact hR1.on (balloc (Below.refl _ _) _))
  have hcb1 : w.heap.size < cb := by omega
  have HW2 := Lib.hid hW2
  have Hcb := Lib.hid hcb
  clear hk1 hb1 hsz1 hR1 hr1 hW2 hcb
  go_upto_region 2 with fail
  rw [HW2.out, Hcb.out]
  go_wp2_with fail
  refine (HP.out W2 (p + 1) 4 HR2.out (by omega)).mono ?_
  rintro e w3 ⟨k2, rfl, hk2, hb3, hsz3, hR3⟩
  go_wp2_with fail
  refine (constant_ok (false, k2) w3).mono ?_
  rintro e w4 ⟨rfl, hb4⟩
  have hc4 := (Hc2.out.only hb3 (by omega)).on hb4
  have hr4 := (Hr2.out.only hb3 (by omega)).on hb4
  have hl4 := hc4.lt
  unfold feV
  obtain ⟨W5, hW5⟩ : ∃ z, w4.alloc (.cells #[.int .i64 2, .int .i64 0, .bool false, .int .i64 k2, .slice none 0 0] 66) = z := ⟨_, rfl⟩
  obtain ⟨ob, hob⟩ : ∃ n, w4.heap.size = n := ⟨_, rfl⟩
  have Ho5 := Lib.hid (show Row W5 ob 66 (feC ⟨2, 0, (false, k2), ⟨none, 0, 0⟩⟩) by rw [← hW5, ← hob]; exact Row.new _ _ _)
  have Hc5 := Lib.hid (show Row W5 cb 66 (feC ⟨1, k1, (false, 0), ⟨none, 0, 0⟩⟩) by rw [← hW5]; exact hc4.alloc _)
  have Hr5 := Lib.hid (show Row W5 w.heap.size 66 [.int .i64 0, .int .i64 0, .bool false, .int .i64 0, .slice none 0 0] by rw [← hW5]; exact hr4.alloc _)
  have HB5 := Lib.hid (show But b w W5 by rw [← hW5]; exact ((HB2.out.trans hb3).below hb4).alloc _)
  have HR5 := Lib.hid (show Rd W5 b (p + 2) by rw [← hW5]; exact (hR3.on hb4).on (balloc (Below.refl _ _) _))
  have hob1 : cb < ob := by omega
  have HW5 := Lib.hid hW5
  have Hob := Lib.hid hob
  clear hk2 hb3 hsz3 hR3 hb4 hc4 hr4 hW5 hob hl4
  go_upto_region 3 with fail
  rw [HW5.out, Hob.out]
  go_wp2_with fail
  refine (HP.out W5 (p + 2) 3 HR5.out (by omega)).mono ?_
  rintro e w6 ⟨k3, rfl, hk3, hb6, hsz6, hR6⟩
  have Ho6 := Lib.hid (Ho5.out.only hb6 (by omega))
  have Hc6 := Lib.hid (Hc5.out.only hb6 (by omega))
  have Hr6 := Lib.hid (Hr5.out.only hb6 (by omega))
  have HB6 := Lib.hid (HB5.out.trans hb6)
  have HR6 := Lib.hid hR6
  have Hnum := Lib.hid (And.intro hlt (And.intro hcb1 hob1))
  clear hk3 hb6 hsz6 hR6
  go_upto_if 20 with fail
  go_cut [] (fun wx => ∃ f2 : FE, f2.sv = ⟨none, 0, 0⟩ ∧ Row wx ob 66 (feC f2) ∧ Row wx cb 66 (feC ⟨1, k1, (false, 0), ⟨none, 0, 0⟩⟩) ∧ Row wx w.heap.size 66 [.int .i64 0, .int .i64 0, .bool false, .int .i64 0, .slice none 0 0] ∧ But b w wx ∧ Rd wx b (p + 4))
  case first =>
    by_cases h3 : k3 = 0
    · subst h3
      go_wp2_with fail
      refine (HP.out w6 (p + 3) width HR6.out (by omega)).mono ?_
      rintro e w7 ⟨k5, rfl, hk5, hb7, hsz7, hR7⟩
      have ho7 := Ho6.out.only hb7 (by omega)
      have Hc7 := Lib.hid (Hc6.out.only hb7 (by omega))
      have Hr7 := Lib.hid (Hr6.out.only hb7 (by omega))
      have HB7 := Lib.hid (HB6.out.trans hb7)
      have HR7 := Lib.hid hR7
      have HO7 := Lib.hid ho7
      have hl7 := ho7.lt
      have c0 : w7.cell? ⟨ob, 0, none⟩ = some (.int .i64 2) := ho7.cell 0
      have c1 : w7.cell? ⟨ob, 1, none⟩ = some (.int .i64 0) := ho7.cell 1
      have c2 : w7.cell? ⟨ob, 2, none⟩ = some (.bool false) := ho7.cell 2
      have c3 : w7.cell? ⟨ob, 3, none⟩ = some (.int .i64 k2) := ho7.cell 3
      have c4 : w7.cell? ⟨ob, 4, none⟩ = some (.slice none 0 0) := ho7.cell 4
      have f0 := ho7.frozen 0
      have f1 := ho7.frozen 1
      have f2 := ho7.frozen 2
      have f3 := ho7.frozen 3
      have f4 := ho7.frozen 4
      clear hk5 hb7 hsz7 hR7 ho7
      go_wp2
      go_meet
      have hs := set5 w7 ob (.int .i64 1) (.int .i64 k5) (.bool false) (.int .i64 0) (.slice none 0 0)
      obtain ⟨n1, n2, n3⟩ := Hnum.out
      refine ⟨⟨1, k5, (false, 0), ⟨none, 0, 0⟩⟩, rfl, ((((HO7.out.set 0 _).set 1 _).set 2 _).set 3 _).set 4 _, Hc7.out.only hs (show ¬ cb = ob by omega), Hr7.out.only hs (show ¬ w.heap.size = ob by omega), HB7.out.step hs (fun i (hi : i = ob) => .inr (by omega)), HR7.out.apart hs (fun i (hi : i = ob) => by omega)⟩
    · have h3' : (k3 == 0) = false := by simpa using h3
      clear h3
      go_wp2
      go_meet
      exact ⟨⟨2, 0, (false, k2), ⟨none, 0, 0⟩⟩, rfl, Ho6.out, Hc6.out, Hr6.out, HB6.out, HR6.out.mono (by omega)⟩
  case rest =>
    obtain ⟨f2, hf2, hox, hcx, hrx, hbx, hRx⟩ := hcut
    have Hox := Lib.hid hox
    have Hcx := Lib.hid hcx
    have Hrx := Lib.hid hrx
    have HBx := Lib.hid hbx
    have HRx := Lib.hid hRx
    have Hf2 := Lib.hid hf2
    clear hox hcx hrx hbx hRx hf2
    have HPc := Lib.hid (HP.out wc (p + 4) 8 HRx.out (by omega))
    go_wp2_with fail
    refine HPc.out.mono ?_
    rintro e w9 ⟨k, rfl, hk, hb9, hsz9, hR9⟩
    have ho9 := Hox.out.only hb9 (by have := Hnum.out; omega)
    have hc9 := Hcx.out.only hb9 (by have := Hnum.out; omega)
    have hr9 := Hrx.out.only hb9 (by omega)
    have HB9 := Lib.hid (HBx.out.trans hb9)
    have HR9 := Lib.hid hR9
    have hlo := ho9.lt
    have hlc := hc9.lt
    have hlr := hr9.lt
    have hf2 := Hf2.out
    obtain ⟨fk, fc, fv, fs⟩ := f2
    obtain rfl : fs = ⟨none, 0, 0⟩ := hf2
    have Ho9 := Lib.hid ho9
    have Hc9 := Lib.hid hc9
    have Hr9 := Lib.hid hr9
    have o0 : w9.cell? ⟨ob, 0, none⟩ = some (.int .i64 fk) := ho9.cell 0
    have o1 : w9.cell? ⟨ob, 1, none⟩ = some (.int .i64 fc) := ho9.cell 1
    have o2 : w9.cell? ⟨ob, 2, none⟩ = some (.bool fv.1) := ho9.cell 2
    have o3 : w9.cell? ⟨ob, 3, none⟩ = some (.int .i64 fv.2) := ho9.cell 3
    have o4 : w9.cell? ⟨ob, 4, none⟩ = some (.slice none 0 0) := ho9.cell 4
    have d0 : w9.cell? ⟨cb, 0, none⟩ = some (.int .i64 1) := hc9.cell 0
    have d1 : w9.cell? ⟨cb, 1, none⟩ = some (.int .i64 k1) := hc9.cell 1
    have d2 : w9.cell? ⟨cb, 2, none⟩ = some (.bool false) := hc9.cell 2
    have d3 : w9.cell? ⟨cb, 3, none⟩ = some (.int .i64 0) := hc9.cell 3
    have d4 : w9.cell? ⟨cb, 4, none⟩ = some (.slice none 0 0) := hc9.cell 4
    have c0 : w9.cell? ⟨w.heap.size, 0, none⟩ = some (.int .i64 0) := hr9.cell 0
    have c1 : w9.cell? ⟨w.heap.size, 1, none⟩ = some (.int .i64 0) := hr9.cell 1
    have c2 : w9.cell? ⟨w.heap.size, 2, none⟩ = some (.bool false) := hr9.cell 2
    have c3 : w9.cell? ⟨w.heap.size, 3, none⟩ = some (.int .i64 0) := hr9.cell 3
    have c4 : w9.cell? ⟨w.heap.size, 4, none⟩ = some (.slice none 0 0) := hr9.cell 4
    have f0 := hr9.frozen 0
    have f1 := hr9.frozen 1
    have f2 := hr9.frozen 2
    have f3 := hr9.frozen 3
    have f4 := hr9.frozen 4
    have hk0 := hk.1
    have hk8 := hk.2.1 (by omega)
    have XC := Lib.hid (fun (z : World) => show ExT (fun k => w.heap.size < k) z ⟨1, k1, (false, 0), ⟨none, 0, 0⟩⟩ (.mk 1 k1 (false, 0) []) from ExT.leaf)
    have XO := Lib.hid (fun (z : World) => show ExT (fun k => w.heap.size < k) z ⟨fk, fc, fv, ⟨none, 0, 0⟩⟩ (.mk fk fc fv []) from ExT.leaf)
    have hp5 : p + 4 + 1 ≤ p + coC d := by omega
    clear hk hb9 hsz9 hR9 ho9 hc9 hr9
    have h7 : k = 0 ∨ k = 1 ∨ (k = 2 ∧ 0 < d) ∨ (k = 2 ∧ d = 0) ∨ k = 3 ∨ k = 4 ∨ k = 5 ∨ (¬ k = 0 ∧ ¬ k = 1 ∧ ¬ k = 2 ∧ ¬ k = 3 ∧ ¬ k = 4 ∧ ¬ k = 5) := by omega
    clear hk0 hk8
    rcases h7 with rfl | rfl | ⟨rfl, hdp⟩ | ⟨rfl, rfl⟩ | rfl | rfl | rfl | ⟨n0, n1, n2, n3, n4, n5⟩
    · have HRE := Lib.hid (randomExpr_ok 2 (by omega) b (p + 4 + 1) width w9 HR9.out (by unfold reC; omega))
      have e2 : ((2 : Nat) : Int) = 2 := rfl
      rw [e2] at HRE
      clear e2
      go_wp2_with fail
      refine HRE.out.mono ?_
      rintro e w10 ⟨f, x, rfl, hx, hb10, hR10, hxn⟩
      have hr10 := Hr9.out.only hb10 (by omega)
      have hl10 := hr10.lt
      have c0 := hr10.cell 0
      have c1 := hr10.cell 1
      have c2 := hr10.cell 2
      have c3 := hr10.cell 3
      have c4 := hr10.cell 4
      have f0 := hr10.frozen 0
      have f1 := hr10.frozen 1
      have f2 := hr10.frozen 2
      have f3 := hr10.frozen 3
      have f4 := hr10.frozen 4
      have H10 := Lib.hid (And.intro hx (And.intro hb10 hR10))
      have HXN := Lib.hid hxn
      clear hxn
      clear hx hb10 hR10 hr10
      unfold feV
      go_wp2
      refine bodyPost_ret (v := feV f) (by simp [results, Try.results72, go_sem, feV, c0, c1, c2, c3, c4]) rfl ?_
      exact gotEx_of (H10.out.1.mono fun k _ hk => by omega) (HB9.out.trans H10.out.2.1) (H10.out.2.2.mono (by unfold reC; omega)) hlt _ _ _ _ _ rfl (by have h := HXN.out; unfold reC at h; omega)
    · obtain ⟨Z, hZ⟩ : ∃ z, (((((w9.setCell ⟨w.heap.size, 0, none⟩ (.int .i64 10)).setCell ⟨w.heap.size, 1, none⟩ (.int .i64 0)).setCell ⟨w.heap.size, 2, none⟩ (.bool false)).setCell ⟨w.heap.size, 3, none⟩ (.int .i64 0)).setCell ⟨w.heap.size, 4, none⟩ (.slice (some ⟨w9.heap.size + 1, 0, none⟩) 1 1)) = z := ⟨_, rfl⟩
      have hZs : Only (fun k => k = w.heap.size) w9 Z := by rw [← hZ]; exact set5 _ _ _ _ _ _ _
      have v0r : Row Z w.heap.size 66 [.int .i64 10, .int .i64 0, .bool false, .int .i64 0, .slice (some ⟨w9.heap.size + 1, 0, none⟩) 1 1] := by rw [← hZ]; exact ((((Hr9.out.set 0 _).set 1 _).set 2 _).set 3 _).set 4 _
      have zs : Z.heap.size = w9.heap.size := by rw [← hZ]; simp [World.setCell]
      obtain ⟨V1, hV1⟩ : ∃ z, Z.alloc (.cells #[.int .i64 1, .int .i64 k1, .bool false, .int .i64 0, .slice none 0 0] 66) = z := ⟨_, rfl⟩
      have v1b : Below Z.heap.size Z V1 := by rw [← hV1]; exact balloc (Below.refl _ _) _
      have v1s : V1.heap.size = w9.heap.size + 1 := by rw [← hV1]; simp; omega
      have v1r := v0r.on v1b
      have HV1 := Lib.hid hV1
      obtain ⟨V2, hV2⟩ : ∃ z, V1.alloc (.cells #[.int .i64 11, .int .i64 0, .bool false, .int .i64 0, .slice (some ⟨w9.heap.size, 0, none⟩) 1 1] 66) = z := ⟨_, rfl⟩
      have v2b : Below V1.heap.size V1 V2 := by rw [← hV2]; exact balloc (Below.refl _ _) _
      have v2s : V2.heap.size = w9.heap.size + 2 := by rw [← hV2]; simp; omega
      have v2r := v1r.on v2b
      have HV2 := Lib.hid hV2
      have HZ := Lib.hid hZ
      have e0 := v2r.cell 0
      have e1 := v2r.cell 1
      have e2 := v2r.cell 2
      have e3 := v2r.cell 3
      have e4 := v2r.cell 4
      have VR := Lib.hid v2r
      have FA := Lib.hid (And.intro hZs (And.intro zs ((And.intro v1b (And.intro v1s  (And.intro v2b (And.intro v2s trivial)))))))
      clear hZ hZs zs hV1 v1b v1s v1r hV2 v2b v2s v2r v0r
      go_wp2
      rw [HZ.out, HV1.out, HV2.out]
      obtain ⟨hZs, zs, v1b, v1s, v2b, v2s, -⟩ := FA.out
      have X1 := exs_lit1 (XC.out Z) #[.int .i64 1, .int .i64 k1, .bool false, .int .i64 0, .slice none 0 0] rfl (show w.heap.size < Z.heap.size by omega) 66
      rw [HV1.out, zs] at X1
      have X2 := ExT.make (k := 11) (c := 0) (v := (false, 0)) (cap := 1) X1 rfl (Nat.le_refl 1) (by unfold maxLen; omega)
      have X3 := exs_lit1 X2 #[.int .i64 11, .int .i64 0, .bool false, .int .i64 0, .slice (some ⟨w9.heap.size, 0, none⟩) 1 1] rfl (show w.heap.size < V1.heap.size by omega) 66
      rw [HV2.out, v1s] at X3
      have X4 := ExT.make (k := 10) (c := 0) (v := (false, 0)) (cap := 1) X3 rfl (Nat.le_refl 1) (by unfold maxLen; omega)
      refine bodyPost_ret (v := feV ⟨10, 0, (false, 0), ⟨some ⟨w9.heap.size + 1, 0, none⟩, 1, 1⟩⟩) (by simp [results, Try.results72, go_sem, feV, fpV, e0, e1, e2, e3, e4]) rfl ?_
      exact ⟨_, _, rfl, X4.mono fun k _ hk => Nat.le_of_lt hk, ((HB9.out.step hZs fun i (hi : i = w.heap.size) => .inr (by omega)).below v1b).below v2b, (((HR9.out.apart hZs fun i (hi : i = w.heap.size) => by omega).on v1b).on v2b).mono hp5, by simp only [exN, exsN]; omega⟩
    · obtain ⟨d, rfl⟩ : ∃ d', d = d' + 1 := ⟨d - 1, by omega⟩
      have IHd := Lib.hid (IH.out d rfl)
      have hdw : IntKind.i64.wrap (d : Int) = d := IntWalk.i64_in _ (by omega)
      have hde : ((d : Int) + 1 == 0) = false := by rw [beq_eq_false_iff_ne]; omega
      have Hcc := Lib.hid (show coC (d + 1) = coC d + 30 by unfold coC; omega)
      have hpq : p + 4 + 1 + coC d ≤ 1099511627776 := by have := Hcc.out; omega
      go_wp2
      have SB := Lib.hid (fun (z : World) (hz : But b w9 z) => show z.cell? ⟨cb, 0, none⟩ = some (.int .i64 1) ∧ z.cell? ⟨cb, 1, none⟩ = some (.int .i64 k1) ∧ z.cell? ⟨cb, 2, none⟩ = some (.bool false) ∧ z.cell? ⟨cb, 3, none⟩ = some (.int .i64 0) ∧ z.cell? ⟨cb, 4, none⟩ = some (.slice none 0 0) ∧ z.cell? ⟨ob, 0, none⟩ = some (.int .i64 fk) ∧ z.cell? ⟨ob, 1, none⟩ = some (.int .i64 fc) ∧ z.cell? ⟨ob, 2, none⟩ = some (.bool fv.1) ∧ z.cell? ⟨ob, 3, none⟩ = some (.int .i64 fv.2) ∧ z.cell? ⟨ob, 4, none⟩ = some (.slice none 0 0) from
        have h := Hc9.out.only hz (by have := Hnum.out; omega); have h' := Ho9.out.only hz (by have := Hnum.out; omega)
        ⟨h.cell 0, h.cell 1, h.cell 2, h.cell 3, h.cell 4, h'.cell 0, h'.cell 1, h'.cell 2, h'.cell 3, h'.cell 4⟩)
      have RB := Lib.hid (fun (z : World) (hz : But b w9 z) => Hr9.out.only hz (by omega))
      obtain ⟨u, hu⟩ : ∃ u, w9.drew = u := ⟨_, rfl⟩
      have Bu := Lib.hid (show But b w9 u from hu ▸ (Only.refl w9).drew)
      have Ru := Lib.hid (show Rd u b (p + 4 + 1) from hu ▸ HR9.out.on (Below.refl _ _).drew)
      have hzu : w.heap.size < u.heap.size := by have := Bu.out.size; omega
      have Hu := Lib.hid hu
      clear hu o0 o1 o2 o3 o4 d0 d1 d2 d3 d4 c0 c1 c2 c3 c4 f0 f1 f2 f3 f4
      refine wp_region_g 11 (fun z => z.cell? ⟨cb, 0, none⟩ = some (.int .i64 1) ∧ z.cell? ⟨cb, 1, none⟩ = some (.int .i64 k1) ∧ z.cell? ⟨cb, 2, none⟩ = some (.bool false) ∧ z.cell? ⟨cb, 3, none⟩ = some (.int .i64 0) ∧ z.cell? ⟨cb, 4, none⟩ = some (.slice none 0 0) ∧ z.cell? ⟨ob, 0, none⟩ = some (.int .i64 fk) ∧ z.cell? ⟨ob, 1, none⟩ = some (.int .i64 fc) ∧ z.cell? ⟨ob, 2, none⟩ = some (.bool fv.1) ∧ z.cell? ⟨ob, 3, none⟩ = some (.int .i64 fv.2) ∧ z.cell? ⟨ob, 4, none⟩ = some (.slice none 0 0)) (by kernel_rfl) ?_ (fun hHeld => ?_)
      · exact SB.out _ (Only.refl w9).drew
      rw [Hu.out] at hHeld ⊢
      refine takeG (i := 0) (v := ?v1) rfl (by kernel_rfl) (by kernel_rfl) (by kernel_rfl) (by kernel_rfl) (fun _ _ _ h => h) (Or.inl ⟨by rfl, ?hy1⟩) (by assumption) ?_
      case hy1 => ((intro w' hSw; (try dsimp only at hSw); go_simp) <;> with_reducible rfl)
      try simp only [Act.put, List.setIfInBounds_toArray, List.set_cons_zero, List.set_cons_succ]
      refine takeG (i := 1) (v := ?v2) rfl (by kernel_rfl) (by kernel_rfl) (by kernel_rfl) (by kernel_rfl) (fun _ _ _ h => h) (Or.inl ⟨by rfl, ?hy2⟩) (by assumption) ?_
      case hy2 => ((intro w' hSw; (try dsimp only at hSw); go_simp) <;> with_reducible rfl)
      try simp only [Act.put, List.setIfInBounds_toArray, List.set_cons_zero, List.set_cons_succ]
      refine takeG (i := 2) (v := ?v3) rfl (by kernel_rfl) (by kernel_rfl) (by kernel_rfl) (by kernel_rfl) (fun _ _ _ h => h) (Or.inl ⟨by rfl, ?hy3⟩) (by assumption) ?_
      case hy3 => ((intro w' hSw; (try dsimp only at hSw); go_simp) <;> with_reducible rfl)
      try simp only [Act.put, List.setIfInBounds_toArray, List.set_cons_zero, List.set_cons_succ]
      refine takeG (i := 3) (v := ?v4) rfl (by kernel_rfl) (by kernel_rfl) (by kernel_rfl) (by kernel_rfl) (fun _ _ _ h => h) (Or.inl ⟨by rfl, ?hy4⟩) (by assumption) ?_
      case hy4 => ((intro w' hSw; (try dsimp only at hSw); go_simp) <;> with_reducible rfl)
      try simp only [Act.put, List.setIfInBounds_toArray, List.set_cons_zero, List.set_cons_succ]
      refine takeG (i := 5) (v := ?v5) rfl (by kernel_rfl) (by kernel_rfl) (by kernel_rfl) (by kernel_rfl) (fun _ _ _ h => h) (Or.inl ⟨by rfl, ?hy5⟩) (by assumption) ?_
      case hy5 => ((intro w' hSw; (try dsimp only at hSw); go_simp) <;> with_reducible rfl)
      try simp only [Act.put, List.setIfInBounds_toArray, List.set_cons_zero, List.set_cons_succ]
      refine takeG (i := 6) (v := ?v6) rfl (by kernel_rfl) (by kernel_rfl) (by kernel_rfl) (by kernel_rfl) (fun _ _ _ h => h) (Or.inl ⟨by rfl, ?hy6⟩) (by assumption) ?_
      case hy6 => ((intro w' hSw; (try dsimp only at hSw); go_simp) <;> with_reducible rfl)
      try simp only [Act.put, List.setIfInBounds_toArray, List.set_cons_zero, List.set_cons_succ]
      refine wpAnyG_ready (rs := [4, 7]) (by kernel_rfl) (by simp) ?_
      refine readyG rfl (fun K hK => ?_) (readyG rfl (fun K hK => ?_) AllReadyG.nil)
      · skip
        go_simp
        go_at_call 72
        refine (IHd.out b _ width u Ru.out hpq).mono ?_
        rintro e x1 ⟨f, x, rfl, hx, hb, hR, hxn⟩
        have HXN := Lib.hid hxn
        clear hxn
        have Bx1 := Lib.hid (Bu.out.trans hb)
        have Rx1 := Lib.hid hR
        have hzx1 : w.heap.size < x1.heap.size := by have := hb.size; omega
        have Xx1 : Hid (ExT (fun k => w.heap.size < k) x1 f x) := Lib.hid (hx.mono fun k _ hk => by omega)
        unfold feV
        clear hb hR hx
        refine hK.out _ _ ?hS7 (fun hHeld => ?_)
        case hS7 => exact fun _ => SB.out _ Bx1.out
        replace hHeld := hHeld (by decide)
        clear hK K
        try simp only [Act.put, List.setIfInBounds_toArray, List.set_cons_zero, List.set_cons_succ]
        refine wpAnyG_ready (rs := [7]) (by kernel_rfl) (by simp) ?_
        refine readyG rfl (fun K hK => ?_) AllReadyG.nil
        obtain ⟨x2, hx2⟩ : ∃ y, x1.alloc (.cells #[.int .i64 1, .int .i64 k1, .bool false, .int .i64 0, .slice none 0 0, .int .i64 fk, .int .i64 fc, .bool fv.1, .int .i64 fv.2, .slice none 0 0] 66) = y := ⟨_, rfl⟩
        have hb : Below x1.heap.size x1 x2 := by rw [← hx2]; exact balloc (Below.refl _ _) _
        have Bx2 := Lib.hid (Bx1.out.below hb)
        have Rx2 := Lib.hid (Rx1.out.on hb)
        have hzx2 : w.heap.size < x2.heap.size := by have := hb.size; omega
        have Xx2 : Hid (ExT (fun k => w.heap.size < k) x2 f x) := Lib.hid (Xx1.out.keep hb.size fun k _ hl => hb.block k hl)
        have y1 := exs_lit2 (XC.out x1) (XO.out x1) #[.int .i64 1, .int .i64 k1, .bool false, .int .i64 0, .slice none 0 0, .int .i64 fk, .int .i64 fc, .bool fv.1, .int .i64 fv.2, .slice none 0 0] rfl (show w.heap.size < x1.heap.size by omega) 66
        rw [hx2] at y1
        have Yx2 := Lib.hid (ExT.make (k := 6) (c := 0) (v := (false, 0)) (cap := 2) y1 rfl (Nat.le_refl 2) (by unfold maxLen; omega))
        clear y1
        go_simp
        try rw [hx2]
        have Hx2 := Lib.hid hx2
        clear hx2 hb
        refine hK.out _ _ ?hS8 (fun hHeld => ?_)
        case hS8 => exact fun _ => SB.out _ Bx2.out
        replace hHeld := hHeld (by decide)
        clear hK K
        try simp only [Act.put, List.setIfInBounds_toArray, List.set_cons_zero, List.set_cons_succ]
        refine takeG (i := 8) (v := ?v9) rfl (by kernel_rfl) (by kernel_rfl) (by kernel_rfl) (by kernel_rfl) (fun _ _ _ h => h) (Or.inl ⟨by rfl, ?hy9⟩) (by assumption) ?_
        case hy9 => ((intro w' hSw; (try dsimp only at hSw); go_simp) <;> with_reducible rfl)
        try simp only [Act.put, List.setIfInBounds_toArray, List.set_cons_zero, List.set_cons_succ]
        refine wpAnyG_ready (rs := [9]) (by kernel_rfl) (by simp) ?_
        refine readyG rfl (fun K hK => ?_) AllReadyG.nil
        obtain ⟨x3, hx3⟩ : ∃ y, x2.alloc (.cells #[.int .i64 f.kind, .int .i64 f.col, .bool f.val.1, .int .i64 f.val.2, .slice f.sv.A f.sv.n f.sv.c, .int .i64 6, .int .i64 0, .bool false, .int .i64 0, .slice (some ⟨x1.heap.size, 0, none⟩) 2 2] 66) = y := ⟨_, rfl⟩
        have hb : Below x2.heap.size x2 x3 := by rw [← hx3]; exact balloc (Below.refl _ _) _
        have Bx3 := Lib.hid (Bx2.out.below hb)
        have Rx3 := Lib.hid (Rx2.out.on hb)
        have hzx3 : w.heap.size < x3.heap.size := by have := hb.size; omega
        have Xx3 : Hid (ExT (fun k => w.heap.size < k) x3 f x) := Lib.hid (Xx2.out.keep hb.size fun k _ hl => hb.block k hl)
        have Yx3 : Hid (ExT (fun k => w.heap.size < k) x3 ⟨6, 0, (false, 0), ⟨some ⟨x1.heap.size, 0, none⟩, 2, 2⟩⟩ (.mk 6 0 (false, 0) [.mk 1 k1 (false, 0) [], .mk fk fc fv []])) := Lib.hid (Yx2.out.keep hb.size fun k _ hl => hb.block k hl)
        have y1 := exs_lit2 Xx2.out Yx2.out #[.int .i64 f.kind, .int .i64 f.col, .bool f.val.1, .int .i64 f.val.2, .slice f.sv.A f.sv.n f.sv.c, .int .i64 6, .int .i64 0, .bool false, .int .i64 0, .slice (some ⟨x1.heap.size, 0, none⟩) 2 2] rfl (show w.heap.size < x2.heap.size by omega) 66
        rw [hx3] at y1
        have Zx3 := Lib.hid (ExT.make (k := 8) (c := 0) (v := (false, 0)) (cap := 2) y1 rfl (Nat.le_refl 2) (by unfold maxLen; omega))
        clear y1
        go_simp
        try rw [hx3]
        have Hx3 := Lib.hid hx3
        clear hx3 hb
        refine hK.out _ _ ?hS10 (fun hHeld => ?_)
        case hS10 => exact fun _ => SB.out _ Bx3.out
        replace hHeld := hHeld (by decide)
        clear hK K
        try simp only [Act.put, List.setIfInBounds_toArray, List.set_cons_zero, List.set_cons_succ]
        refine takeG (i := 10) (v := ?v11) rfl (by kernel_rfl) (by kernel_rfl) (by kernel_rfl) (by kernel_rfl) (fun _ _ _ h => h) (Or.inl ⟨by rfl, ?hy11⟩) (by assumption) ?_
        case hy11 => ((intro w' hSw; (try dsimp only at hSw); go_simp) <;> with_reducible rfl)
        try simp only [Act.put, List.setIfInBounds_toArray, List.set_cons_zero, List.set_cons_succ]
        refine wpAnyG_ready (rs := [11]) (by kernel_rfl) (by simp) ?_
        refine readyG rfl (fun K hK => ?_) AllReadyG.nil
        have rr := RB.out _ Bx3.out
        have hl := rr.lt
        have c0 := rr.cell 0
        have f0 := rr.frozen 0
        have c1 := rr.cell 1
        have f1 := rr.frozen 1
        have c2 := rr.cell 2
        have f2 := rr.frozen 2
        have c3 := rr.cell 3
        have f3 := rr.frozen 3
        have c4 := rr.cell 4
        have f4 := rr.frozen 4
        clear rr
        go_simp
        refine hK.out _ _ ?hS12 (fun hHeld => ?_)
        case hS12 => exact fun h => absurd rfl h
        clear hK K
        try simp only [Act.put, List.setIfInBounds_toArray, List.set_cons_zero, List.set_cons_succ]
        refine wpAnyG_done (by kernel_rfl) ?_ _
        go_wp2
        refine bodyPost_ret (v := feV ⟨8, 0, (false, 0), ⟨some ⟨x2.heap.size, 0, none⟩, 2, 2⟩⟩) (by simp [results, Try.results72, go_sem, feV, c0, c1, c2, c3, c4]) rfl ?_
        exact gotEx_of Zx3.out (HB9.out.trans Bx3.out) (Rx3.out.mono (by have := Hcc.out; omega)) hlt _ _ _ _ _ rfl (by have h1 := HXN.out; have h2 := Hcc.out; simp only [exN, exsN]; omega)
      · skip
        obtain ⟨x1, hx1⟩ : ∃ y, u.alloc (.cells #[.int .i64 1, .int .i64 k1, .bool false, .int .i64 0, .slice none 0 0, .int .i64 fk, .int .i64 fc, .bool fv.1, .int .i64 fv.2, .slice none 0 0] 66) = y := ⟨_, rfl⟩
        have hb : Below u.heap.size u x1 := by rw [← hx1]; exact balloc (Below.refl _ _) _
        have Bx1 := Lib.hid (Bu.out.below hb)
        have Rx1 := Lib.hid (Ru.out.on hb)
        have hzx1 : w.heap.size < x1.heap.size := by have := hb.size; omega
        have y1 := exs_lit2 (XC.out u) (XO.out u) #[.int .i64 1, .int .i64 k1, .bool false, .int .i64 0, .slice none 0 0, .int .i64 fk, .int .i64 fc, .bool fv.1, .int .i64 fv.2, .slice none 0 0] rfl (show w.heap.size < u.heap.size by omega) 66
        rw [hx1] at y1
        have Yx1 := Lib.hid (ExT.make (k := 6) (c := 0) (v := (false, 0)) (cap := 2) y1 rfl (Nat.le_refl 2) (by unfold maxLen; omega))
        clear y1
        go_simp
        try rw [hx1]
        have Hx1 := Lib.hid hx1
        clear hx1 hb
        refine hK.out _ _ ?hS13 (fun hHeld => ?_)
        case hS13 => exact fun _ => SB.out _ Bx1.out
        replace hHeld := hHeld (by decide)
        clear hK K
        try simp only [Act.put, List.setIfInBounds_toArray, List.set_cons_zero, List.set_cons_succ]
        refine takeG (i := 8) (v := ?v14) rfl (by kernel_rfl) (by kernel_rfl) (by kernel_rfl) (by kernel_rfl) (fun _ _ _ h => h) (Or.inl ⟨by rfl, ?hy14⟩) (by assumption) ?_
        case hy14 => ((intro w' hSw; (try dsimp only at hSw); go_simp) <;> with_reducible rfl)
        try simp only [Act.put, List.setIfInBounds_toArray, List.set_cons_zero, List.set_cons_succ]
        refine wpAnyG_ready (rs := [4]) (by kernel_rfl) (by simp) ?_
        refine readyG rfl (fun K hK => ?_) AllReadyG.nil
        go_simp
        go_at_call 72
        refine (IHd.out b _ width x1 Rx1.out hpq).mono ?_
        rintro e x2 ⟨f, x, rfl, hx, hb, hR, hxn⟩
        have HXN := Lib.hid hxn
        clear hxn
        have Bx2 := Lib.hid (Bx1.out.trans hb)
        have Rx2 := Lib.hid hR
        have hzx2 : w.heap.size < x2.heap.size := by have := hb.size; omega
        have Yx2 : Hid (ExT (fun k => w.heap.size < k) x2 ⟨6, 0, (false, 0), ⟨some ⟨u.heap.size, 0, none⟩, 2, 2⟩⟩ (.mk 6 0 (false, 0) [.mk 1 k1 (false, 0) [], .mk fk fc fv []])) := Lib.hid (Yx1.out.keep hb.size fun k hk hl => hb.block k hl (by omega))
        have Xx2 : Hid (ExT (fun k => w.heap.size < k) x2 f x) := Lib.hid (hx.mono fun k _ hk => by omega)
        unfold feV
        clear hb hR hx
        refine hK.out _ _ ?hS15 (fun hHeld => ?_)
        case hS15 => exact fun _ => SB.out _ Bx2.out
        replace hHeld := hHeld (by decide)
        clear hK K
        try simp only [Act.put, List.setIfInBounds_toArray, List.set_cons_zero, List.set_cons_succ]
        refine wpAnyG_ready (rs := [9]) (by kernel_rfl) (by simp) ?_
        refine readyG rfl (fun K hK => ?_) AllReadyG.nil
        obtain ⟨x3, hx3⟩ : ∃ y, x2.alloc (.cells #[.int .i64 f.kind, .int .i64 f.col, .bool f.val.1, .int .i64 f.val.2, .slice f.sv.A f.sv.n f.sv.c, .int .i64 6, .int .i64 0, .bool false, .int .i64 0, .slice (some ⟨u.heap.size, 0, none⟩) 2 2] 66) = y := ⟨_, rfl⟩
        have hb : Below x2.heap.size x2 x3 := by rw [← hx3]; exact balloc (Below.refl _ _) _
        have Bx3 := Lib.hid (Bx2.out.below hb)
        have Rx3 := Lib.hid (Rx2.out.on hb)
        have hzx3 : w.heap.size < x3.heap.size := by have := hb.size; omega
        have Xx3 : Hid (ExT (fun k => w.heap.size < k) x3 f x) := Lib.hid (Xx2.out.keep hb.size fun k _ hl => hb.block k hl)
        have Yx3 : Hid (ExT (fun k => w.heap.size < k) x3 ⟨6, 0, (false, 0), ⟨some ⟨u.heap.size, 0, none⟩, 2, 2⟩⟩ (.mk 6 0 (false, 0) [.mk 1 k1 (false, 0) [], .mk fk fc fv []])) := Lib.hid (Yx2.out.keep hb.size fun k _ hl => hb.block k hl)
        have y1 := exs_lit2 Xx2.out Yx2.out #[.int .i64 f.kind, .int .i64 f.col, .bool f.val.1, .int .i64 f.val.2, .slice f.sv.A f.sv.n f.sv.c, .int .i64 6, .int .i64 0, .bool false, .int .i64 0, .slice (some ⟨u.heap.size, 0, none⟩) 2 2] rfl (show w.heap.size < x2.heap.size by omega) 66
        rw [hx3] at y1
        have Zx3 := Lib.hid (ExT.make (k := 8) (c := 0) (v := (false, 0)) (cap := 2) y1 rfl (Nat.le_refl 2) (by unfold maxLen; omega))
        clear y1
        go_simp
        try rw [hx3]
        have Hx3 := Lib.hid hx3
        clear hx3 hb
        refine hK.out _ _ ?hS16 (fun hHeld => ?_)
        case hS16 => exact fun _ => SB.out _ Bx3.out
        replace hHeld := hHeld (by decide)
        clear hK K
        try simp only [Act.put, List.setIfInBounds_toArray, List.set_cons_zero, List.set_cons_succ]
        refine takeG (i := 10) (v := ?v17) rfl (by kernel_rfl) (by kernel_rfl) (by kernel_rfl) (by kernel_rfl) (fun _ _ _ h => h) (Or.inl ⟨by rfl, ?hy17⟩) (by assumption) ?_
        case hy17 => ((intro w' hSw; (try dsimp only at hSw); go_simp) <;> with_reducible rfl)
        try simp only [Act.put, List.setIfInBounds_toArray, List.set_cons_zero, List.set_cons_succ]
        refine wpAnyG_ready (rs := [11]) (by kernel_rfl) (by simp) ?_
        refine readyG rfl (fun K hK => ?_) AllReadyG.nil
        have rr := RB.out _ Bx3.out
        have hl := rr.lt
        have c0 := rr.cell 0
        have f0 := rr.frozen 0
        have c1 := rr.cell 1
        have f1 := rr.frozen 1
        have c2 := rr.cell 2
        have f2 := rr.frozen 2
        have c3 := rr.cell 3
        have f3 := rr.frozen 3
        have c4 := rr.cell 4
        have f4 := rr.frozen 4
        clear rr
        go_simp
        refine hK.out _ _ ?hS18 (fun hHeld => ?_)
        case hS18 => exact fun h => absurd rfl h
        clear hK K
        try simp only [Act.put, List.setIfInBounds_toArray, List.set_cons_zero, List.set_cons_succ]
        refine wpAnyG_done (by kernel_rfl) ?_ _
        go_wp2
        refine bodyPost_ret (v := feV ⟨8, 0, (false, 0), ⟨some ⟨x2.heap.size, 0, none⟩, 2, 2⟩⟩) (by simp [results, Try.results72, go_sem, feV, c0, c1, c2, c3, c4]) rfl ?_
        exact gotEx_of Zx3.out (HB9.out.trans Bx3.out) (Rx3.out.mono (by have := Hcc.out; omega)) hlt _ _ _ _ _ rfl (by have h1 := HXN.out; have h2 := Hcc.out; simp only [exN, exsN]; omega)
    · obtain ⟨Z, hZ⟩ : ∃ z, (((((w9.setCell ⟨w.heap.size, 0, none⟩ (.int .i64 7)).setCell ⟨w.heap.size, 1, none⟩ (.int .i64 0)).setCell ⟨w.heap.size, 2, none⟩ (.bool false)).setCell ⟨w.heap.size, 3, none⟩ (.int .i64 0)).setCell ⟨w.heap.size, 4, none⟩ (.slice (some ⟨w9.heap.size, 0, none⟩) 2 2)) = z := ⟨_, rfl⟩
      have hZs : Only (fun k => k = w.heap.size) w9 Z := by rw [← hZ]; exact set5 _ _ _ _ _ _ _
      have v0r : Row Z w.heap.size 66 [.int .i64 7, .int .i64 0, .bool false, .int .i64 0, .slice (some ⟨w9.heap.size, 0, none⟩) 2 2] := by rw [← hZ]; exact ((((Hr9.out.set 0 _).set 1 _).set 2 _).set 3 _).set 4 _
      have zs : Z.heap.size = w9.heap.size := by rw [← hZ]; simp [World.setCell]
      obtain ⟨V1, hV1⟩ : ∃ z, Z.alloc (.cells #[.int .i64 1, .int .i64 k1, .bool false, .int .i64 0, .slice none 0 0, .int .i64 fk, .int .i64 fc, .bool fv.1, .int .i64 fv.2, .slice none 0 0] 66) = z := ⟨_, rfl⟩
      have v1b : Below Z.heap.size Z V1 := by rw [← hV1]; exact balloc (Below.refl _ _) _
      have v1s : V1.heap.size = w9.heap.size + 1 := by rw [← hV1]; simp; omega
      have v1r := v0r.on v1b
      have HV1 := Lib.hid hV1
      have HZ := Lib.hid hZ
      have e0 := v1r.cell 0
      have e1 := v1r.cell 1
      have e2 := v1r.cell 2
      have e3 := v1r.cell 3
      have e4 := v1r.cell 4
      have VR := Lib.hid v1r
      have FA := Lib.hid (And.intro hZs (And.intro zs ((And.intro v1b (And.intro v1s trivial)))))
      clear hZ hZs zs hV1 v1b v1s v1r v0r
      go_wp2
      rw [HZ.out, HV1.out]
      obtain ⟨hZs, zs, v1b, v1s, -⟩ := FA.out
      have X1 := exs_lit2 (XC.out Z) (XO.out Z) #[.int .i64 1, .int .i64 k1, .bool false, .int .i64 0, .slice none 0 0, .int .i64 fk, .int .i64 fc, .bool fv.1, .int .i64 fv.2, .slice none 0 0] rfl (show w.heap.size < Z.heap.size by omega) 66
      rw [HV1.out, zs] at X1
      have X2 := ExT.make (k := 7) (c := 0) (v := (false, 0)) (cap := 2) X1 rfl (Nat.le_refl 2) (by unfold maxLen; omega)
      refine bodyPost_ret (v := feV ⟨7, 0, (false, 0), ⟨some ⟨w9.heap.size, 0, none⟩, 2, 2⟩⟩) (by simp [results, Try.results72, go_sem, feV, fpV, e0, e1, e2, e3, e4]) rfl ?_
      exact ⟨_, _, rfl, X2.mono fun k _ hk => Nat.le_of_lt hk, (HB9.out.step hZs fun i (hi : i = w.heap.size) => .inr (by omega)).below v1b, ((HR9.out.apart hZs fun i (hi : i = w.heap.size) => by omega).on v1b).mono hp5, by simp only [exN, exsN]; omega⟩
    · obtain ⟨Z, hZ⟩ : ∃ z, (((((w9.setCell ⟨w.heap.size, 0, none⟩ (.int .i64 7)).setCell ⟨w.heap.size, 1, none⟩ (.int .i64 0)).setCell ⟨w.heap.size, 2, none⟩ (.bool false)).setCell ⟨w.heap.size, 3, none⟩ (.int .i64 0)).setCell ⟨w.heap.size, 4, none⟩ (.slice (some ⟨w9.heap.size, 0, none⟩) 2 2)) = z := ⟨_, rfl⟩
      have hZs : Only (fun k => k = w.heap.size) w9 Z := by rw [← hZ]; exact set5 _ _ _ _ _ _ _
      have v0r : Row Z w.heap.size 66 [.int .i64 7, .int .i64 0, .bool false, .int .i64 0, .slice (some ⟨w9.heap.size, 0, none⟩) 2 2] := by rw [← hZ]; exact ((((Hr9.out.set 0 _).set 1 _).set 2 _).set 3 _).set 4 _
      have zs : Z.heap.size = w9.heap.size := by rw [← hZ]; simp [World.setCell]
      obtain ⟨V1, hV1⟩ : ∃ z, Z.alloc (.cells #[.int .i64 fk, .int .i64 fc, .bool fv.1, .int .i64 fv.2, .slice none 0 0, .int .i64 1, .int .i64 k1, .bool false, .int .i64 0, .slice none 0 0] 66) = z := ⟨_, rfl⟩
      have v1b : Below Z.heap.size Z V1 := by rw [← hV1]; exact balloc (Below.refl _ _) _
      have v1s : V1.heap.size = w9.heap.size + 1 := by rw [← hV1]; simp; omega
      have v1r := v0r.on v1b
      have HV1 := Lib.hid hV1
      have HZ := Lib.hid hZ
      have e0 := v1r.cell 0
      have e1 := v1r.cell 1
      have e2 := v1r.cell 2
      have e3 := v1r.cell 3
      have e4 := v1r.cell 4
      have VR := Lib.hid v1r
      have FA := Lib.hid (And.intro hZs (And.intro zs ((And.intro v1b (And.intro v1s trivial)))))
      clear hZ hZs zs hV1 v1b v1s v1r v0r
      go_wp2
      rw [HZ.out, HV1.out]
      obtain ⟨hZs, zs, v1b, v1s, -⟩ := FA.out
      have X1 := exs_lit2 (XO.out Z) (XC.out Z) #[.int .i64 fk, .int .i64 fc, .bool fv.1, .int .i64 fv.2, .slice none 0 0, .int .i64 1, .int .i64 k1, .bool false, .int .i64 0, .slice none 0 0] rfl (show w.heap.size < Z.heap.size by omega) 66
      rw [HV1.out, zs] at X1
      have X2 := ExT.make (k := 7) (c := 0) (v := (false, 0)) (cap := 2) X1 rfl (Nat.le_refl 2) (by unfold maxLen; omega)
      refine bodyPost_ret (v := feV ⟨7, 0, (false, 0), ⟨some ⟨w9.heap.size, 0, none⟩, 2, 2⟩⟩) (by simp [results, Try.results72, go_sem, feV, fpV, e0, e1, e2, e3, e4]) rfl ?_
      exact ⟨_, _, rfl, X2.mono fun k _ hk => Nat.le_of_lt hk, (HB9.out.step hZs fun i (hi : i = w.heap.size) => .inr (by omega)).below v1b, ((HR9.out.apart hZs fun i (hi : i = w.heap.size) => by omega).on v1b).mono hp5, by simp only [exN, exsN]; omega⟩
    · obtain ⟨Z, hZ⟩ : ∃ z, (((((w9.setCell ⟨w.heap.size, 0, none⟩ (.int .i64 7)).setCell ⟨w.heap.size, 1, none⟩ (.int .i64 0)).setCell ⟨w.heap.size, 2, none⟩ (.bool false)).setCell ⟨w.heap.size, 3, none⟩ (.int .i64 0)).setCell ⟨w.heap.size, 4, none⟩ (.slice (some ⟨w9.heap.size, 0, none⟩) 2 2)) = z := ⟨_, rfl⟩
      have hZs : Only (fun k => k = w.heap.size) w9 Z := by rw [← hZ]; exact set5 _ _ _ _ _ _ _
      have v0r : Row Z w.heap.size 66 [.int .i64 7, .int .i64 0, .bool false, .int .i64 0, .slice (some ⟨w9.heap.size, 0, none⟩) 2 2] := by rw [← hZ]; exact ((((Hr9.out.set 0 _).set 1 _).set 2 _).set 3 _).set 4 _
      have zs : Z.heap.size = w9.heap.size := by rw [← hZ]; simp [World.setCell]
      obtain ⟨V1, hV1⟩ : ∃ z, Z.alloc (.cells #[.int .i64 fk, .int .i64 fc, .bool fv.1, .int .i64 fv.2, .slice none 0 0, .int .i64 1, .int .i64 k1, .bool false, .int .i64 0, .slice none 0 0] 66) = z := ⟨_, rfl⟩
      have v1b : Below Z.heap.size Z V1 := by rw [← hV1]; exact balloc (Below.refl _ _) _
      have v1s : V1.heap.size = w9.heap.size + 1 := by rw [← hV1]; simp; omega
      have v1r := v0r.on v1b
      have HV1 := Lib.hid hV1
      have HZ := Lib.hid hZ
      have e0 := v1r.cell 0
      have e1 := v1r.cell 1
      have e2 := v1r.cell 2
      have e3 := v1r.cell 3
      have e4 := v1r.cell 4
      have VR := Lib.hid v1r
      have FA := Lib.hid (And.intro hZs (And.intro zs ((And.intro v1b (And.intro v1s trivial)))))
      clear hZ hZs zs hV1 v1b v1s v1r v0r
      go_wp2
      rw [HZ.out, HV1.out]
      obtain ⟨hZs, zs, v1b, v1s, -⟩ := FA.out
      have X1 := exs_lit2 (XO.out Z) (XC.out Z) #[.int .i64 fk, .int .i64 fc, .bool fv.1, .int .i64 fv.2, .slice none 0 0, .int .i64 1, .int .i64 k1, .bool false, .int .i64 0, .slice none 0 0] rfl (show w.heap.size < Z.heap.size by omega) 66
      rw [HV1.out, zs] at X1
      have X2 := ExT.make (k := 7) (c := 0) (v := (false, 0)) (cap := 2) X1 rfl (Nat.le_refl 2) (by unfold maxLen; omega)
      refine bodyPost_ret (v := feV ⟨7, 0, (false, 0), ⟨some ⟨w9.heap.size, 0, none⟩, 2, 2⟩⟩) (by simp [results, Try.results72, go_sem, feV, fpV, e0, e1, e2, e3, e4]) rfl ?_
      exact ⟨_, _, rfl, X2.mono fun k _ hk => Nat.le_of_lt hk, (HB9.out.step hZs fun i (hi : i = w.heap.size) => .inr (by omega)).below v1b, ((HR9.out.apart hZs fun i (hi : i = w.heap.size) => by omega).on v1b).mono hp5, by simp only [exN, exsN]; omega⟩
    · obtain ⟨Z, hZ⟩ : ∃ z, (((((w9.setCell ⟨w.heap.size, 0, none⟩ (.int .i64 7)).setCell ⟨w.heap.size, 1, none⟩ (.int .i64 0)).setCell ⟨w.heap.size, 2, none⟩ (.bool false)).setCell ⟨w.heap.size, 3, none⟩ (.int .i64 0)).setCell ⟨w.heap.size, 4, none⟩ (.slice (some ⟨w9.heap.size, 0, none⟩) 2 2)) = z := ⟨_, rfl⟩
      have hZs : Only (fun k => k = w.heap.size) w9 Z := by rw [← hZ]; exact set5 _ _ _ _ _ _ _
      have v0r : Row Z w.heap.size 66 [.int .i64 7, .int .i64 0, .bool false, .int .i64 0, .slice (some ⟨w9.heap.size, 0, none⟩) 2 2] := by rw [← hZ]; exact ((((Hr9.out.set 0 _).set 1 _).set 2 _).set 3 _).set 4 _
      have zs : Z.heap.size = w9.heap.size := by rw [← hZ]; simp [World.setCell]
      obtain ⟨V1, hV1⟩ : ∃ z, Z.alloc (.cells #[.int .i64 1, .int .i64 k1, .bool false, .int .i64 0, .slice none 0 0, .int .i64 fk, .int .i64 fc, .bool fv.1, .int .i64 fv.2, .slice none 0 0] 66) = z := ⟨_, rfl⟩
      have v1b : Below Z.heap.size Z V1 := by rw [← hV1]; exact balloc (Below.refl _ _) _
      have v1s : V1.heap.size = w9.heap.size + 1 := by rw [← hV1]; simp; omega
      have v1r := v0r.on v1b
      have HV1 := Lib.hid hV1
      have HZ := Lib.hid hZ
      have e0 := v1r.cell 0
      have e1 := v1r.cell 1
      have e2 := v1r.cell 2
      have e3 := v1r.cell 3
      have e4 := v1r.cell 4
      have VR := Lib.hid v1r
      have FA := Lib.hid (And.intro hZs (And.intro zs ((And.intro v1b (And.intro v1s trivial)))))
      clear hZ hZs zs hV1 v1b v1s v1r v0r
      go_wp2
      rw [HZ.out, HV1.out]
      obtain ⟨hZs, zs, v1b, v1s, -⟩ := FA.out
      have X1 := exs_lit2 (XC.out Z) (XO.out Z) #[.int .i64 1, .int .i64 k1, .bool false, .int .i64 0, .slice none 0 0, .int .i64 fk, .int .i64 fc, .bool fv.1, .int .i64 fv.2, .slice none 0 0] rfl (show w.heap.size < Z.heap.size by omega) 66
      rw [HV1.out, zs] at X1
      have X2 := ExT.make (k := 7) (c := 0) (v := (false, 0)) (cap := 2) X1 rfl (Nat.le_refl 2) (by unfold maxLen; omega)
      refine bodyPost_ret (v := feV ⟨7, 0, (false, 0), ⟨some ⟨w9.heap.size, 0, none⟩, 2, 2⟩⟩) (by simp [results, Try.results72, go_sem, feV, fpV, e0, e1, e2, e3, e4]) rfl ?_
      exact ⟨_, _, rfl, X2.mono fun k _ hk => Nat.le_of_lt hk, (HB9.out.step hZs fun i (hi : i = w.heap.size) => .inr (by omega)).below v1b, ((HR9.out.apart hZs fun i (hi : i = w.heap.size) => by omega).on v1b).mono hp5, by simp only [exN, exsN]; omega⟩
    · obtain ⟨Z, hZ⟩ : ∃ z, (((((w9.setCell ⟨w.heap.size, 0, none⟩ (.int .i64 6)).setCell ⟨w.heap.size, 1, none⟩ (.int .i64 0)).setCell ⟨w.heap.size, 2, none⟩ (.bool false)).setCell ⟨w.heap.size, 3, none⟩ (.int .i64 0)).setCell ⟨w.heap.size, 4, none⟩ (.slice (some ⟨w9.heap.size, 0, none⟩) 2 2)) = z := ⟨_, rfl⟩
      have hZs : Only (fun k => k = w.heap.size) w9 Z := by rw [← hZ]; exact set5 _ _ _ _ _ _ _
      have v0r : Row Z w.heap.size 66 [.int .i64 6, .int .i64 0, .bool false, .int .i64 0, .slice (some ⟨w9.heap.size, 0, none⟩) 2 2] := by rw [← hZ]; exact ((((Hr9.out.set 0 _).set 1 _).set 2 _).set 3 _).set 4 _
      have zs : Z.heap.size = w9.heap.size := by rw [← hZ]; simp [World.setCell]
      obtain ⟨V1, hV1⟩ : ∃ z, Z.alloc (.cells #[.int .i64 1, .int .i64 k1, .bool false, .int .i64 0, .slice none 0 0, .int .i64 fk, .int .i64 fc, .bool fv.1, .int .i64 fv.2, .slice none 0 0] 66) = z := ⟨_, rfl⟩
      have v1b : Below Z.heap.size Z V1 := by rw [← hV1]; exact balloc (Below.refl _ _) _
      have v1s : V1.heap.size = w9.heap.size + 1 := by rw [← hV1]; simp; omega
      have v1r := v0r.on v1b
      have HV1 := Lib.hid hV1
      have HZ := Lib.hid hZ
      have e0 := v1r.cell 0
      have e1 := v1r.cell 1
      have e2 := v1r.cell 2
      have e3 := v1r.cell 3
      have e4 := v1r.cell 4
      have VR := Lib.hid v1r
      have FA := Lib.hid (And.intro hZs (And.intro zs ((And.intro v1b (And.intro v1s trivial)))))
      clear hZ hZs zs hV1 v1b v1s v1r v0r
      go_wp2
      rw [HZ.out, HV1.out]
      obtain ⟨hZs, zs, v1b, v1s, -⟩ := FA.out
      have X1 := exs_lit2 (XC.out Z) (XO.out Z) #[.int .i64 1, .int .i64 k1, .bool false, .int .i64 0, .slice none 0 0, .int .i64 fk, .int .i64 fc, .bool fv.1, .int .i64 fv.2, .slice none 0 0] rfl (show w.heap.size < Z.heap.size by omega) 66
      rw [HV1.out, zs] at X1
      have X2 := ExT.make (k := 6) (c := 0) (v := (false, 0)) (cap := 2) X1 rfl (Nat.le_refl 2) (by unfold maxLen; omega)
      refine bodyPost_ret (v := feV ⟨6, 0, (false, 0), ⟨some ⟨w9.heap.size, 0, none⟩, 2, 2⟩⟩) (by simp [results, Try.results72, go_sem, feV, fpV, e0, e1, e2, e3, e4]) rfl ?_
      exact ⟨_, _, rfl, X2.mono fun k _ hk => Nat.le_of_lt hk, (HB9.out.step hZs fun i (hi : i = w.heap.size) => .inr (by omega)).below v1b, ((HR9.out.apart hZs fun i (hi : i = w.heap.size) => by omega).on v1b).mono hp5, by simp only [exN, exsN]; omega⟩
theorem condition_ok : ∀ d : Nat, d ≤ 8 → CO d := fun d => by
  induction d with
  | zero => exact fun h => condition_of 0 h fun d' e => by cases e
  | succ d ih => exact fun h => condition_of (d + 1) h fun d' e => by cases e; exact ih (by omega)

set_option maxHeartbeats 1000000 in
theorem randomCondition_ok (b p : Nat) (width : Int) (w : World) (hR : Rd w b p) (hp : p + 90 ≤ 1099511627776) :
    Calls Try.prog 62 #[.pointer (some ⟨b, 0, none⟩), .int .i64 width] w (GotEx 90 b (p + 90) w) := by
  have hlt := hR.lt
  obtain ⟨W0, hW0⟩ : ∃ z, w.alloc (.cells #[.int .i64 0, .int .i64 0, .bool false, .int .i64 0, .slice none 0 0] 66) = z := ⟨_, rfl⟩
  have B0 : But b w W0 := by rw [← hW0]; exact (Only.refl w).alloc _
  have R0 : Rd W0 b p := by rw [← hW0]; exact hR.on (balloc (Below.refl _ _) _)
  have r0 : Row W0 w.heap.size 66 [.int .i64 0, .int .i64 0, .bool false, .int .i64 0, .slice none 0 0] := by rw [← hW0]; exact Row.new _ _ _
  have hl0 := r0.lt
  have HC := Lib.hid (condition_ok 2 (by omega) b p width W0 R0 (by unfold coC; omega))
  have e2 : ((2 : Nat) : Int) = 2 := rfl
  rw [e2] at HC
  have HW0 := Lib.hid hW0
  have HB0 := Lib.hid B0
  have Hr0 := Lib.hid r0
  clear hR hW0 B0 R0 r0 e2
  go_enter Try.func62, Try.ntmps62
  go_upto_region 1 with fail
  rw [HW0.out]
  go_wp2_with fail
  refine HC.out.mono ?_
  rintro e w10 ⟨f, x, rfl, hx, hb10, hR10, hxn⟩
  have hr10 := Hr0.out.only hb10 (by omega)
  have hl10 := hr10.lt
  have c0 := hr10.cell 0
  have c1 := hr10.cell 1
  have c2 := hr10.cell 2
  have c3 := hr10.cell 3
  have c4 := hr10.cell 4
  have f0 := hr10.frozen 0
  have f1 := hr10.frozen 1
  have f2 := hr10.frozen 2
  have f3 := hr10.frozen 3
  have f4 := hr10.frozen 4
  have H10 := Lib.hid (And.intro hx (And.intro hb10 hR10))
  have HXN := Lib.hid hxn
  clear hxn
  clear hx hb10 hR10 hr10
  unfold feV
  go_wp2
  refine bodyPost_ret (v := feV f) (by simp [results, Try.results62, go_sem, feV, c0, c1, c2, c3, c4]) rfl ?_
  exact gotEx_of (H10.out.1.mono fun k _ hk => by omega) (HB0.out.trans H10.out.2.1) (H10.out.2.2.mono (by unfold coC; omega)) hlt _ _ _ _ _ rfl (by have h := HXN.out; unfold coC at h; omega)
end Go.Proofs.Ytcbfbgngkdiijaa
