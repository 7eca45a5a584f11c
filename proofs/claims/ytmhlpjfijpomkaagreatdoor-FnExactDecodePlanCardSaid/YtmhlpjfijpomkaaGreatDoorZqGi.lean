import Derived.Test.YtmhlpjfijpomkaaGreatDoorProg
import Derived.Test.YtmhlpjfijpomkaaGreatDoorZqGf
import Derived.Test.YtmhlpjfijpomkaaGreatDoorZqSzP
import Derived.Test.YtmhlpjfijpomkaaGreatDoorZqPln
/-
  Contract: two expressions that hold one tree are equal (the laws' eqExpr).
-/
namespace Go.Proofs.YtmhlpjfijpomkaaGreatDoor
open Go.RowKit Go.Qo
set_option linter.unusedVariables false
set_option linter.unusedSimpArgs false

def EqX (x : Ex) : Prop := ∀ (f g : FE) (w : World), ExIn w w.heap.size f x → ExIn w w.heap.size g x →
  Calls Tryz.prog 74 #[feV f, feV g] w fun e w' => e = .returned (.bool true) ∧ Below w.heap.size w w'

set_option maxRecDepth 20000 in
set_option maxHeartbeats 2000000 in
theorem eqExprS_of (es : List Ex) (he : ∀ x ∈ es, EqX x) (A A' : Option Addr) (c c' : Nat) (w : World) (hn : es.length ≤ maxLen) (h : ExsIn w w.heap.size A es) (h' : ExsIn w w.heap.size A' es) :
    Calls Tryz.prog 31 #[.slice A es.length c, .slice A' es.length c'] w fun e w' => e = .returned (.bool true) ∧ Below w.heap.size w w' := by
  have HE := Lib.hid he
  have HH := Lib.hid (And.intro h h')
  clear he h h'
  unfold maxLen at hn
  go_enter Tryz.func31, Tryz.ntmps31
  go_wp2
  go_loopg [5] es.length (fun g iv wr => ∃ i : Nat, i ≤ es.length ∧ g = es.length - i ∧ iv = .int .i64 i ∧ Below w.heap.size w wr)
  case atStart => exact ⟨0, by omega, by omega, rfl, Below.refl _ _⟩
  case round =>
    obtain ⟨i, hi, rfl, rfl, hb⟩ := hrel
    have HB := Lib.hid hb
    clear hb
    by_cases hlt : i < es.length
    · obtain ⟨b1, o1, f, hA, hB1, ⟨d0, d1, d2, d3, d4⟩, hf⟩ := (HH.out.1.on HB.out).at_ hlt
      obtain ⟨b2, o2, g, hA', hB2, ⟨k0, k1, k2, k3, k4⟩, hg⟩ := (HH.out.2.on HB.out).at_ hlt
      subst hA
      subst hA'
      have HX := Lib.hid (fun z : Aft wr.heap.size wr => HE.out _ (List.getElem_mem hlt) f g z.v (hf.on z.h) (hg.on z.h))
      unfold feV at HX
      have hil : (i : Int) < (es.length : Int) := by omega
      have D0 := fun z : Aft wr.heap.size wr => z.cell hB1 d0
      have D1 := fun z : Aft wr.heap.size wr => z.cell hB1 d1
      have D2 := fun z : Aft wr.heap.size wr => z.cell hB1 d2
      have D3 := fun z : Aft wr.heap.size wr => z.cell hB1 d3
      have D4 := fun z : Aft wr.heap.size wr => z.cell hB1 d4
      have K0 := fun z : Aft wr.heap.size wr => z.cell hB2 k0
      have K1 := fun z : Aft wr.heap.size wr => z.cell hB2 k1
      have K2 := fun z : Aft wr.heap.size wr => z.cell hB2 k2
      have K3 := fun z : Aft wr.heap.size wr => z.cell hB2 k3
      have K4 := fun z : Aft wr.heap.size wr => z.cell hB2 k4
      clear hf hg d0 d1 d2 d3 d4 k0 k1 k2 k3 k4
      go_wp2
      refine wp_region_aft wr.heap.size (by kernel_rfl) (by kernel_rfl) ?_
      repeat (go_big_quiet_step ((go_at_call 74; exact Calls.aft (Nat.le_refl _) (HX.out _))))
      refine wpQuiet_nil ?_
      intro w2 hw'
      obtain ⟨⟨_, hb2⟩, rfl⟩ := hw'
      go_wp2
      have H2 := Lib.hid (bch HB.out hb2)
      clear hb2 D0 D1 D2 D3 D4 K0 K1 K2 K3 K4
      go_wp2
      go_roundg (es.length - (i + 1))
      case measure => omega
      case rel => exact ⟨i + 1, by omega, rfl, by go_num, H2.out⟩
    · go_wp2
      go_ret
      exact ⟨rfl, HB.out⟩

set_option maxRecDepth 20000 in
set_option maxHeartbeats 2000000 in
theorem eqExpr_ok : ∀ x : Ex, EqX x := Ex.ind fun x ih f g w h h' => by
  obtain ⟨a1, a2, a3, a4, a5, a6⟩ := h.flat
  obtain ⟨b1, b2, b3, b4, b5, b6⟩ := h'.flat
  have e1 : g.kind = f.kind := b1.trans a1.symm
  have e2 : g.col = f.col := b2.trans a2.symm
  have e3 : g.val = f.val := b3.trans a3.symm
  obtain ⟨W1, hW1⟩ : ∃ z, (w.alloc (.cells #[.int .i64 f.kind, .int .i64 f.col, .bool f.val.1, .int .i64 f.val.2, .slice f.sv.A x.kids.length f.sv.c] 40)).alloc (.cells #[.int .i64 f.kind, .int .i64 f.col, .bool f.val.1, .int .i64 f.val.2, .slice g.sv.A x.kids.length g.sv.c] 40) = z := ⟨_, rfl⟩
  have B1 : Below w.heap.size w W1 := by rw [← hW1]; exact balloc (balloc (Below.refl _ _) _) _
  have r1 : Row W1 w.heap.size 40 [.int .i64 f.kind, .int .i64 f.col, .bool f.val.1, .int .i64 f.val.2, .slice f.sv.A x.kids.length f.sv.c] := by rw [← hW1]; exact Row.first _ _ _ _
  have r2 : Row W1 (w.heap.size + 1) 40 [.int .i64 f.kind, .int .i64 f.col, .bool f.val.1, .int .i64 f.val.2, .slice g.sv.A x.kids.length g.sv.c] := by rw [← hW1]; exact Row.second _ _ _ _
  have HL := Lib.hid (fun (z : World) (hz : Below W1.heap.size W1 z) => eqExprS_of x.kids ih f.sv.A g.sv.A f.sv.c g.sv.c z (by omega) ((h.kids_in.on B1).on hz) ((h'.kids_in.on B1).on hz))
  have HV := Lib.hid (eqValue_ok f.val f.val W1)
  have HB1 := Lib.hid B1
  have HW1 := Lib.hid hW1
  have HR1 := Lib.hid r1
  have HR2 := Lib.hid r2
  have c0 : W1.cell? ⟨w.heap.size, 0, none⟩ = some (.int .i64 f.kind) := r1.cell 0
  have c1 : W1.cell? ⟨w.heap.size, 1, none⟩ = some (.int .i64 f.col) := r1.cell 1
  have c2 : W1.cell? ⟨w.heap.size, 2, none⟩ = some (.bool f.val.1) := r1.cell 2
  have c3 : W1.cell? ⟨w.heap.size, 3, none⟩ = some (.int .i64 f.val.2) := r1.cell 3
  have k0 : W1.cell? ⟨w.heap.size + 1, 0, none⟩ = some (.int .i64 f.kind) := r2.cell 0
  have k1 : W1.cell? ⟨w.heap.size + 1, 1, none⟩ = some (.int .i64 f.col) := r2.cell 1
  have k2 : W1.cell? ⟨w.heap.size + 1, 2, none⟩ = some (.bool f.val.1) := r2.cell 2
  have k3 : W1.cell? ⟨w.heap.size + 1, 3, none⟩ = some (.int .i64 f.val.2) := r2.cell 3
  rw [show decide (f.val = f.val) = true by simp] at HV
  unfold feV
  rw [e1, e2, e3, a4, b4]
  clear h h' ih a1 a2 a3 a4 a5 a6 b1 b2 b3 b4 b5 b6 e1 e2 e3 B1 r1 r2 hW1
  go_enter Tryz.func74, Tryz.ntmps74
  go_upto_region 1 with fail
  rw [HW1.out]
  go_wp2_with fail
  refine HV.out.mono ?_
  rintro e w2 ⟨rfl, hb2⟩
  have HB2 := Lib.hid hb2
  have c4 : w2.cell? ⟨w.heap.size, 4, none⟩ = some (.slice f.sv.A x.kids.length f.sv.c) := (HR1.out.on hb2).cell 4
  have k4 : w2.cell? ⟨w.heap.size + 1, 4, none⟩ = some (.slice g.sv.A x.kids.length g.sv.c) := (HR2.out.on hb2).cell 4
  clear hb2 c0 c1 c2 c3 k0 k1 k2 k3
  go_wp2_with fail
  refine (HL.out w2 HB2.out).mono ?_
  rintro e w3 ⟨rfl, hb3⟩
  go_wp2
  go_ret
  exact ⟨rfl, bch (bch HB1.out HB2.out) hb3⟩
end Go.Proofs.YtmhlpjfijpomkaaGreatDoor

/-
  Contract: two plans that hold one tree are equal (the laws' eqPlan). (Printed by wip/eqy.py.)
-/
namespace Go.Proofs.YtmhlpjfijpomkaaGreatDoor
open Go.RowKit Go.Qo
set_option linter.unusedVariables false
set_option linter.unusedSimpArgs false

def EqY (x : Pl) : Prop := ∀ (f g : FP) (w : World), PlIn w w.heap.size f x → PlIn w w.heap.size g x →
  Calls Tryz.prog 9 #[fpV f, fpV g] w fun e w' => e = .returned (.bool true) ∧ Below w.heap.size w w'

set_option maxRecDepth 20000 in
set_option maxHeartbeats 2000000 in
theorem eqPlanS_of (es : List Pl) (he : ∀ x ∈ es, EqY x) (A A' : Option Addr) (c c' : Nat) (w : World) (hn : es.length ≤ maxLen) (h : PlsIn w w.heap.size A es) (h' : PlsIn w w.heap.size A' es) :
    Calls Tryz.prog 32 #[.slice A es.length c, .slice A' es.length c'] w fun e w' => e = .returned (.bool true) ∧ Below w.heap.size w w' := by
  have HE := Lib.hid he
  have HH := Lib.hid (And.intro h h')
  clear he h h'
  unfold maxLen at hn
  go_enter Tryz.func32, Tryz.ntmps32
  go_wp2
  go_loopg [5] es.length (fun g iv wr => ∃ i : Nat, i ≤ es.length ∧ g = es.length - i ∧ iv = .int .i64 i ∧ Below w.heap.size w wr)
  case atStart => exact ⟨0, by omega, by omega, rfl, Below.refl _ _⟩
  case round =>
    obtain ⟨i, hi, rfl, rfl, hb⟩ := hrel
    have HB := Lib.hid hb
    clear hb
    by_cases hlt : i < es.length
    · obtain ⟨b1, o1, f, hA, hB1, ⟨d0, d1, d2, d3, d4⟩, hf⟩ := (HH.out.1.on HB.out).at_ hlt
      obtain ⟨b2, o2, g, hA', hB2, ⟨k0, k1, k2, k3, k4⟩, hg⟩ := (HH.out.2.on HB.out).at_ hlt
      subst hA
      subst hA'
      have HX := Lib.hid (fun z : Aft wr.heap.size wr => HE.out _ (List.getElem_mem hlt) f g z.v (hf.on z.h) (hg.on z.h))
      unfold fpV at HX
      have hil : (i : Int) < (es.length : Int) := by omega
      have D0 := fun z : Aft wr.heap.size wr => z.cell hB1 d0
      have D1 := fun z : Aft wr.heap.size wr => z.cell hB1 d1
      have D2 := fun z : Aft wr.heap.size wr => z.cell hB1 d2
      have D3 := fun z : Aft wr.heap.size wr => z.cell hB1 d3
      have D4 := fun z : Aft wr.heap.size wr => z.cell hB1 d4
      have K0 := fun z : Aft wr.heap.size wr => z.cell hB2 k0
      have K1 := fun z : Aft wr.heap.size wr => z.cell hB2 k1
      have K2 := fun z : Aft wr.heap.size wr => z.cell hB2 k2
      have K3 := fun z : Aft wr.heap.size wr => z.cell hB2 k3
      have K4 := fun z : Aft wr.heap.size wr => z.cell hB2 k4
      clear hf hg d0 d1 d2 d3 d4 k0 k1 k2 k3 k4
      go_wp2
      refine wp_region_aft wr.heap.size (by kernel_rfl) (by kernel_rfl) ?_
      repeat (go_big_quiet_step ((go_at_call 9; exact Calls.aft (Nat.le_refl _) (HX.out _))))
      refine wpQuiet_nil ?_
      intro w2 hw'
      obtain ⟨⟨_, hb2⟩, rfl⟩ := hw'
      go_wp2
      have H2 := Lib.hid (bch HB.out hb2)
      clear hb2 D0 D1 D2 D3 D4 K0 K1 K2 K3 K4
      go_wp2
      go_roundg (es.length - (i + 1))
      case measure => omega
      case rel => exact ⟨i + 1, by omega, rfl, by go_num, H2.out⟩
    · go_wp2
      go_ret
      exact ⟨rfl, HB.out⟩

set_option maxRecDepth 20000 in
set_option maxHeartbeats 2000000 in
theorem eqPlan_ok : ∀ p : Pl, EqY p := Pl.ind fun p ih f g w h h' => by
  obtain ⟨a1, a2, ⟨e1, e2, e3⟩, ⟨i1, i2, i3⟩, ⟨j1, j2, j3⟩, hE, hC⟩ := h.flat
  obtain ⟨b1, b2, ⟨u1, u2, u3⟩, ⟨v1, v2, v3⟩, ⟨y1, y2, y3⟩, hE', hC'⟩ := h'.flat
  have k1 : g.kind = f.kind := b1.trans a1.symm
  have k2 : g.table = f.table := b2.trans a2.symm
  obtain ⟨W1, hW1⟩ : ∃ z, (w.alloc (.cells #[.int .i64 f.kind, .int .i64 f.table, .slice f.es.A p.exprs.length f.es.c, .slice f.cs.A p.cols.length f.cs.c, .slice f.ks.A p.kids.length f.ks.c] 26)).alloc (.cells #[.int .i64 f.kind, .int .i64 f.table, .slice g.es.A p.exprs.length g.es.c, .slice g.cs.A p.cols.length g.cs.c, .slice g.ks.A p.kids.length g.ks.c] 26) = z := ⟨_, rfl⟩
  have B1 : Below w.heap.size w W1 := by rw [← hW1]; exact balloc (balloc (Below.refl _ _) _) _
  have r1 : Row W1 w.heap.size 26 [.int .i64 f.kind, .int .i64 f.table, .slice f.es.A p.exprs.length f.es.c, .slice f.cs.A p.cols.length f.cs.c, .slice f.ks.A p.kids.length f.ks.c] := by rw [← hW1]; exact Row.first _ _ _ _
  have r2 : Row W1 (w.heap.size + 1) 26 [.int .i64 f.kind, .int .i64 f.table, .slice g.es.A p.exprs.length g.es.c, .slice g.cs.A p.cols.length g.cs.c, .slice g.ks.A p.kids.length g.ks.c] := by rw [← hW1]; exact Row.second _ _ _ _
  have LE := Lib.hid (eqExprS_of p.exprs (fun y _ => eqExpr_ok y) f.es.A g.es.A f.es.c g.es.c W1 (by omega) (hE.on B1) (hE'.on B1))
  have LC0 := fun (z : World) (hz : Below W1.heap.size W1 z) => eqIntS_ok f.cs.A g.cs.A f.cs.c g.cs.c p.cols p.cols z (by omega) (by omega) ((hC.on B1).on hz) ((hC'.on B1).on hz)
  rw [show decide (p.cols = p.cols) = true by simp] at LC0
  have LC := Lib.hid LC0
  have LK := Lib.hid (fun (z : World) (hz : Below W1.heap.size W1 z) => eqPlanS_of p.kids ih f.ks.A g.ks.A f.ks.c g.ks.c z (by omega) ((plKids_in h |>.on B1).on hz) ((plKids_in h' |>.on B1).on hz))
  have HB1 := Lib.hid B1
  have HW1 := Lib.hid hW1
  have HR1 := Lib.hid r1
  have HR2 := Lib.hid r2
  have c0 := r1.cell 0
  have c1 := r1.cell 1
  have c2 := r1.cell 2
  have d0 := r2.cell 0
  have d1 := r2.cell 1
  have d2 := r2.cell 2
  unfold fpV
  rw [k1, k2, e1, i1, j1, u1, v1, y1]
  clear h h' ih a1 a2 e1 e2 e3 i1 i2 i3 j1 j2 j3 hE hC b1 b2 u1 u2 u3 v1 v2 v3 y1 y2 y3 hE' hC' k1 k2 B1 r1 r2 hW1 LC0
  go_enter Tryz.func9, Tryz.ntmps9
  go_upto_region 1 with fail
  rw [HW1.out]
  go_wp2_with fail
  refine LE.out.mono ?_
  rintro e w2 ⟨rfl, hb2⟩
  have HB2 := Lib.hid hb2
  have c3 := (HR1.out.on hb2).cell 3
  have d3 := (HR2.out.on hb2).cell 3
  clear hb2 c0 c1 c2 d0 d1 d2
  go_wp2_with fail
  refine (LC.out w2 HB2.out).mono ?_
  rintro e w3 ⟨rfl, hb3⟩
  have HB3 := Lib.hid (bch HB2.out hb3)
  have c4 := (HR1.out.on HB3.out).cell 4
  have d4 := (HR2.out.on HB3.out).cell 4
  clear hb3 c3 d3
  go_wp2_with fail
  refine (LK.out w3 HB3.out).mono ?_
  rintro e w4 ⟨rfl, hb4⟩
  go_wp2
  go_ret
  exact ⟨rfl, bch (bch HB1.out HB3.out) hb4⟩
end Go.Proofs.YtmhlpjfijpomkaaGreatDoor

/-
  Contracts of the functions of sort keys: laws' own copies, sizes and comparisons.
-/
namespace Go.Proofs.YtmhlpjfijpomkaaGreatDoor
open Go.RowKit Go.Qo
set_option linter.unusedVariables false
set_option linter.unusedSimpArgs false

abbrev Key := Int × Bool
def keyC (k : Key) : List Value := [.int .i64 k.1, .bool k.2]

theorem Key.at_ {w : World} {B : Nat} {A : Option Addr} {xs : List Key} (h : Sl 2 keyC w B A xs) {i : Nat} (hi : i < xs.length) :
    ∃ b off, A = some ⟨b, off, none⟩ ∧ b < B ∧ w.cell? ⟨b, off + i * 2, none⟩ = some (.int .i64 xs[i].1) ∧ w.cell? ⟨b, off + i * 2 + 1, none⟩ = some (.bool xs[i].2) :=
  Sl.at2 (f := fun k : Key => .int .i64 k.1) (g := fun k : Key => .bool k.2) h hi

end Go.Proofs.YtmhlpjfijpomkaaGreatDoor

/-
  Contracts: a copy of a list of numbers, marks in it.
-/
namespace Go.Proofs.YtmhlpjfijpomkaaGreatDoor
open Go.RowKit Go.Qo
set_option linter.unusedVariables false
set_option linter.unusedSimpArgs false

theorem zeroIntT : (Tryz.prog.info? 3).map (fun i => (i.zero, i.size, i.bytes)) = some (some (.int .i64 0), 1, 8) := by kernel_rfl

set_option maxHeartbeats 400000 in
theorem toIntS_ok (A : Option Addr) (c : Nat) (xs : List Int) (w : World) (hn : xs.length ≤ 1048576) (h : Sl 1 intC w w.heap.size A xs) :
    Calls Tryz.prog 7 #[.slice A xs.length c] w fun e w' => e = .returned (.slice (some ⟨w.heap.size, 0, none⟩) xs.length xs.length) ∧ Below w.heap.size w w' ∧ Row w' w.heap.size 3 (xs.flatMap intC) := by
  have hmk := run_make_rowN (P := Tryz.prog) 22 3 _ _ _ Tryz.underlying22 zeroIntT .i64 .i64 xs.length (by omega) (by omega)
  go_enter Tryz.func7, Tryz.ntmps7
  go_wp2
  go_loopg [4] (xs.length) (fun g i wr => ∃ k : Nat, k ≤ xs.length ∧ g = xs.length - k ∧ i = .int .i64 k ∧ Below w.heap.size w wr ∧ Row wr w.heap.size 3 (filled intC [.int .i64 0] xs k))
  case atStart =>
    exact ⟨0, by omega, by omega, rfl, balloc (Below.refl _ _) _, (Row.new _ _ _).of (by have h1 := (made_zeros [Value.int .i64 0] xs.length).trans (filled_zero intC [Value.int .i64 0] xs).symm; rw [show xs.length * [Value.int .i64 0].length = xs.length from Nat.mul_one _] at h1; exact h1)⟩
  case round =>
    obtain ⟨k, hk, rfl, rfl, hb, hrow⟩ := hrel
    by_cases hlt : k < xs.length
    · obtain ⟨b, off, rfl, hB, c1⟩ := Ints.at_ (h.below hb) hlt
      have hx := Lib.hid (List.getElem?_eq_getElem hlt)
      generalize xs[k] = x at *
      have Hrow := Lib.hid hrow
      have hlen := filled_length 1 intC intC_length [.int .i64 0] rfl xs hk
      obtain ⟨v1, hv1⟩ : ∃ v, (filled intC [.int .i64 0] xs k)[k]? = some v := ⟨_, List.getElem?_eq_getElem (by omega)⟩
      have e1 : wr.cell? ⟨w.heap.size, k, none⟩ = some v1 := (hrow.cell k).trans hv1
      have e3 := hrow.frozen k
      have hbl := hrow.lt
      have Hb := Lib.hid hb
      clear hrow hlen hv1 hb
      go_wp2
      go_roundg (xs.length - (k + 1))
      case measure => omega
      case rel =>
        exact ⟨k + 1, by omega, rfl, by go_num, Hb.out.setCell (p := ⟨_, _, none⟩) (Nat.le_refl _) _,
          (Hrow.out.set _ _).of (by have := filled_next 1 intC intC_length [.int .i64 0] rfl xs hx.out; simpa [over, intC] using this)⟩
    · go_wp2
      go_ret
      exact ⟨rfl, hb, hrow.of (filled_all _ _ _ (by omega))⟩

set_option maxHeartbeats 1000000 in
theorem markIntS2_ok (b n c : Nat) (cs : List Value) (k : Int) (w : World) (hk0 : 0 ≤ k) (hk : k ≤ 4398046511104) (hn : n ≤ 1048576) (h : Row w b 3 cs) (hl : cs.length = n) :
    Calls Tryz.prog 11 #[.slice (some ⟨b, 0, none⟩) n c, .int .i64 k] w fun e w' => e = .returned (.int .i64 (k + n)) ∧ Only (fun i => i = b) w w' := by
  have HO := Lib.hid (And.intro h hl)
  clear h hl
  go_enter Tryz.func11, Tryz.ntmps11
  go_wp2
  go_loopg [1, 5] n (fun g kv iv wr => ∃ (i : Nat) (kk : Int) (cs' : List Value), i ≤ n ∧ g = n - i ∧ kk = k + i ∧ kv = .int .i64 kk ∧ iv = .int .i64 i ∧ Row wr b 3 cs' ∧ cs'.length = n ∧ Only (fun i => i = b) w wr)
  case atStart => exact ⟨0, k, cs, by omega, by omega, by omega, rfl, rfl, HO.out.1, HO.out.2, Only.refl _⟩
  case round =>
    obtain ⟨i, kk, cs', hi, rfl, hkk, rfl, rfl, hr, hl', hon⟩ := hrel
    have HR := Lib.hid (And.intro hr (And.intro hl' (And.intro hon hkk)))
    have hkb : 0 ≤ kk ∧ kk ≤ 4398046511104 + 2097152 := by omega
    obtain ⟨hkb0, hkb1⟩ := hkb
    by_cases hlt : i < n
    · have l0 : i < cs'.length := by omega
      have c0 : wr.cell? ⟨b, i, none⟩ = some cs'[i] := (hr.cell i).trans (List.getElem?_eq_getElem l0)
      have f0 := hr.frozen i
      have hbl := hr.lt
      have hlt5 : (i : Int) < (n : Int) := by omega
      generalize cs'[i] = u0 at *
      have hk1 : IntKind.i64.wrap (kk + 1) = kk + 1 := IntWalk.i64_in _ (by omega)
      clear hr hl' hon hkk l0
      go_wp2
      go_roundg (n - (i + 1))
      case measure => omega
      case rel =>
        exact ⟨i + 1, kk + 1, _, by omega, rfl, by have := HR.out.2.2.2; omega, rfl, by go_num, HR.out.1.set i _, by rw [List.length_set]; exact HR.out.2.1, HR.out.2.2.1.set (p := ⟨b, i, none⟩) (.inl rfl) _⟩
    · obtain rfl : i = n := by omega
      go_wp2
      go_ret
      exact ⟨ret_int HR.out.2.2.2, HR.out.2.2.1⟩
end Go.Proofs.YtmhlpjfijpomkaaGreatDoor
