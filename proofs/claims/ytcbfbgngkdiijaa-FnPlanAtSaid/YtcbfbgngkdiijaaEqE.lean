/-
  Contracts: two expressions that hold one tree are equal (equalExprs, equalLists).
-/
import Derived.Test.YtcbfbgngkdiijaaProg
import Derived.Test.YtcbfbgngkdiijaaPlD
import Derived.OpenShut
import Derived.Deep.DeepCutAuto
namespace Go.Proofs.Ytcbfbgngkdiijaa
open Go.RowKit Go.Qo
set_option linter.unusedVariables false
set_option linter.unusedSimpArgs false

theorem eqlV {x y : Val} (r : Bool) (hr : decide (x = y) = r) (w : World) : (binOp .eql 64 (.agg #[.bool x.1, .int .i64 x.2]) (.agg #[.bool y.1, .int .i64 y.2])).run Try.prog w = .ok (.bool r) w := by
  have hs : Try.prog.stoodInHeld 64 = false := by kernel_rfl
  subst hr
  obtain ⟨a, b⟩ := x
  obtain ⟨c, d⟩ := y
  simp [go_sem, hs]
  by_cases h1 : a = c <;> by_cases h2 : b = d <;> simp [h1, h2]
/-- An expression as a value. -/
def feV (f : FE) : Value := .agg #[.int .i64 f.kind, .int .i64 f.col, .bool f.val.1, .int .i64 f.val.2, .slice f.sv.A f.sv.n f.sv.c]
def EqE (x : Ex) : Prop := ∀ (f g : FE) (w : World), ExIn w w.heap.size f x → ExIn w w.heap.size g x →
  Calls Try.prog 46 #[feV f, feV g] w fun e w' => e = .returned (.bool true) ∧ Below w.heap.size w w'

set_option maxRecDepth 20000 in
set_option maxHeartbeats 2000000 in
theorem equalLists_of (es : List Ex) (he : ∀ x ∈ es, EqE x) (A A' : Option Addr) (c c' : Nat) (w : World) (hn : es.length ≤ maxLen) (h : ExsIn w w.heap.size A es) (h' : ExsIn w w.heap.size A' es) :
    Calls Try.prog 25 #[.slice A es.length c, .slice A' es.length c'] w fun e w' => e = .returned (.bool true) ∧ Below w.heap.size w w' := by
  have HE := Lib.hid he
  have HH := Lib.hid (And.intro h h')
  clear he h h'
  unfold maxLen at hn
  go_enter Try.func25, Try.ntmps25
  go_wp2
  go_loopg [5] es.length (fun g iv wr => ∃ i : Nat, i ≤ es.length ∧ g = es.length - i ∧ iv = .int .i64 i ∧ Below w.heap.size w wr)
  case atStart => exact ⟨0, by omega, by omega, rfl, Below.refl _ _⟩
  case round =>
    obtain ⟨i, hi, rfl, rfl, hb⟩ := hrel
    have HB := Lib.hid hb
    clear hb
    by_cases hlt : i < es.length
    · obtain ⟨b1, o1, f, hA, hB1, ⟨d0, d1, d2, d3, d4⟩, hf⟩ := (HH.out.1.on HB.out).at_ hlt
      obtain ⟨b2, o2, g, hA', hB2, ⟨k0, k1, k2, k3, k4⟩, hg⟩ := (HH.out.2.on HB.out).at_ hlt
      subst hA
      subst hA'
      have HX := Lib.hid (fun z : Aft wr.heap.size wr => HE.out _ (List.getElem_mem hlt) f g z.v (hf.on z.h) (hg.on z.h))
      unfold feV at HX
      have hil : (i : Int) < (es.length : Int) := by omega
      have D0 := fun z : Aft wr.heap.size wr => z.cell hB1 d0
      have D1 := fun z : Aft wr.heap.size wr => z.cell hB1 d1
      have D2 := fun z : Aft wr.heap.size wr => z.cell hB1 d2
      have D3 := fun z : Aft wr.heap.size wr => z.cell hB1 d3
      have D4 := fun z : Aft wr.heap.size wr => z.cell hB1 d4
      have K0 := fun z : Aft wr.heap.size wr => z.cell hB2 k0
      have K1 := fun z : Aft wr.heap.size wr => z.cell hB2 k1
      have K2 := fun z : Aft wr.heap.size wr => z.cell hB2 k2
      have K3 := fun z : Aft wr.heap.size wr => z.cell hB2 k3
      have K4 := fun z : Aft wr.heap.size wr => z.cell hB2 k4
      clear hf hg d0 d1 d2 d3 d4 k0 k1 k2 k3 k4
      go_wp2
      refine wp_region_aft wr.heap.size (by kernel_rfl) (by kernel_rfl) ?_
      repeat (go_big_quiet_step ((go_at_call 46; exact Calls.aft (Nat.le_refl _) (HX.out _))))
      refine wpQuiet_nil ?_
      intro w2 hw'
      obtain ⟨⟨_, hb2⟩, rfl⟩ := hw'
      go_wp2
      have H2 := Lib.hid (bch HB.out hb2)
      clear hb2 D0 D1 D2 D3 D4 K0 K1 K2 K3 K4
      go_wp2
      go_roundg (es.length - (i + 1))
      case measure => omega
      case rel => exact ⟨i + 1, by omega, rfl, by go_num, H2.out⟩
    · go_wp2
      go_ret
      exact ⟨rfl, HB.out⟩

set_option maxRecDepth 20000 in
set_option maxHeartbeats 2000000 in
theorem equalExprs_ok : ∀ x : Ex, EqE x := Ex.ind fun x ih f g w h h' => by
  obtain ⟨a1, a2, a3, a4, a5, a6⟩ := h.flat
  obtain ⟨b1, b2, b3, b4, b5, b6⟩ := h'.flat
  have e1 : g.kind = f.kind := b1.trans a1.symm
  have e2 : g.col = f.col := b2.trans a2.symm
  have e3 : g.val = f.val := b3.trans a3.symm
  obtain ⟨W1, hW1⟩ : ∃ z, (w.alloc (.cells #[.int .i64 f.kind, .int .i64 f.col, .bool f.val.1, .int .i64 f.val.2, .slice f.sv.A x.kids.length f.sv.c] 66)).alloc (.cells #[.int .i64 f.kind, .int .i64 f.col, .bool f.val.1, .int .i64 f.val.2, .slice g.sv.A x.kids.length g.sv.c] 66) = z := ⟨_, rfl⟩
  have B1 : Below w.heap.size w W1 := by rw [← hW1]; exact balloc (balloc (Below.refl _ _) _) _
  have r1 : Row W1 w.heap.size 66 [.int .i64 f.kind, .int .i64 f.col, .bool f.val.1, .int .i64 f.val.2, .slice f.sv.A x.kids.length f.sv.c] := by rw [← hW1]; exact Row.first _ _ _ _
  have r2 : Row W1 (w.heap.size + 1) 66 [.int .i64 f.kind, .int .i64 f.col, .bool f.val.1, .int .i64 f.val.2, .slice g.sv.A x.kids.length g.sv.c] := by rw [← hW1]; exact Row.second _ _ _ _
  have HL := Lib.hid (equalLists_of x.kids ih f.sv.A g.sv.A f.sv.c g.sv.c W1 (by omega) (h.kids_in.on B1) (h'.kids_in.on B1))
  have HB1 := Lib.hid B1
  have HW1 := Lib.hid hW1
  have c0 : W1.cell? ⟨w.heap.size, 0, none⟩ = some (.int .i64 f.kind) := r1.cell 0
  have c1 : W1.cell? ⟨w.heap.size, 1, none⟩ = some (.int .i64 f.col) := r1.cell 1
  have c2 : W1.cell? ⟨w.heap.size, 2, none⟩ = some (.bool f.val.1) := r1.cell 2
  have c3 : W1.cell? ⟨w.heap.size, 3, none⟩ = some (.int .i64 f.val.2) := r1.cell 3
  have c4 : W1.cell? ⟨w.heap.size, 4, none⟩ = some (.slice f.sv.A x.kids.length f.sv.c) := r1.cell 4
  have k0 : W1.cell? ⟨w.heap.size + 1, 0, none⟩ = some (.int .i64 f.kind) := r2.cell 0
  have k1 : W1.cell? ⟨w.heap.size + 1, 1, none⟩ = some (.int .i64 f.col) := r2.cell 1
  have k2 : W1.cell? ⟨w.heap.size + 1, 2, none⟩ = some (.bool f.val.1) := r2.cell 2
  have k3 : W1.cell? ⟨w.heap.size + 1, 3, none⟩ = some (.int .i64 f.val.2) := r2.cell 3
  have k4 : W1.cell? ⟨w.heap.size + 1, 4, none⟩ = some (.slice g.sv.A x.kids.length g.sv.c) := r2.cell 4
  have hev := fun z => eqlV (x := f.val) (y := f.val) true (by simp) z
  unfold feV
  rw [e1, e2, e3, a4, b4]
  clear h h' ih a1 a2 a3 a4 a5 a6 b1 b2 b3 b4 b5 b6 e1 e2 e3 B1 r1 r2 hW1
  go_enter Try.func46, Try.ntmps46
  go_upto_region 1 with fail
  rw [HW1.out]
  go_wp2_with fail
  refine HL.out.mono ?_
  rintro e w2 ⟨rfl, hb2⟩
  go_wp2
  go_ret
  exact ⟨rfl, bch HB1.out hb2⟩
end Go.Proofs.Ytcbfbgngkdiijaa
