/-
  Contract: two plans that hold one tree are equal (equalPlans).
-/
import Derived.Test.YtcbfbgngkdiijaaProg
import Derived.Test.YtcbfbgngkdiijaaEqE
import Derived.Test.YtcbfbgngkdiijaaIntE
namespace Go.Proofs.Ytcbfbgngkdiijaa
open Go.RowKit Go.Qo
set_option linter.unusedVariables false
set_option linter.unusedSimpArgs false

/-- A plan as a value. -/
def fpV (f : FP) : Value := .agg #[.int .i64 f.kind, .int .i64 f.table, .slice f.es.A f.es.n f.es.c, .slice f.cs.A f.cs.n f.cs.c, .slice f.ks.A f.ks.n f.ks.c]

set_option maxRecDepth 20000 in
set_option maxHeartbeats 2000000 in
theorem equalPlans_ok : ∀ (p : Pl) (f g : FP) (w : World), PlIn w w.heap.size f p → PlIn w w.heap.size g p →
    Calls Try.prog 11 #[fpV f, fpV g] w fun e w' => e = .returned (.bool true) ∧ Below w.heap.size w w' := Pl.ind fun p ih f g w h h' => by
  obtain ⟨a1, a2, ⟨a3, a3', a3''⟩, ⟨a4, a4', a4''⟩, ⟨a5, a5', a5''⟩, a6, a7⟩ := h.flat
  obtain ⟨b1, b2, ⟨b3, _, _⟩, ⟨b4, _, _⟩, ⟨b5, _, _⟩, b6, b7⟩ := h'.flat
  have e1 : g.kind = f.kind := b1.trans a1.symm
  have e2 : g.table = f.table := b2.trans a2.symm
  obtain ⟨W1, hW1⟩ : ∃ z, (w.alloc (.cells #[.int .i64 f.kind, .int .i64 f.table, .slice f.es.A p.exprs.length f.es.c, .slice f.cs.A p.cols.length f.cs.c, .slice f.ks.A p.kids.length f.ks.c] 27)).alloc (.cells #[.int .i64 f.kind, .int .i64 f.table, .slice g.es.A p.exprs.length g.es.c, .slice g.cs.A p.cols.length g.cs.c, .slice g.ks.A p.kids.length g.ks.c] 27) = z := ⟨_, rfl⟩
  have B1 : Below w.heap.size w W1 := by rw [← hW1]; exact balloc (balloc (Below.refl _ _) _) _
  have r1 : Row W1 w.heap.size 27 [.int .i64 f.kind, .int .i64 f.table, .slice f.es.A p.exprs.length f.es.c, .slice f.cs.A p.cols.length f.cs.c, .slice f.ks.A p.kids.length f.ks.c] := by rw [← hW1]; exact Row.first _ _ _ _
  have r2 : Row W1 (w.heap.size + 1) 27 [.int .i64 f.kind, .int .i64 f.table, .slice g.es.A p.exprs.length g.es.c, .slice g.cs.A p.cols.length g.cs.c, .slice g.ks.A p.kids.length g.ks.c] := by rw [← hW1]; exact Row.second _ _ _ _
  have hx := Lib.hid (show p.exprs.length ≤ maxLen ∧ p.cols.length ≤ maxLen ∧ p.kids.length ≤ maxLen by omega)
  have HL := Lib.hid (equalLists_of p.exprs (fun x _ => equalExprs_ok x) f.es.A g.es.A f.es.c g.es.c W1 hx.out.1 (a6.on B1) (b6.on B1))
  have HI := Lib.hid (fun (z : World) (hz : Below W1.heap.size W1 z) => equalInts_ok f.cs.A g.cs.A f.cs.c g.cs.c p.cols p.cols z hx.out.2.1 hx.out.2.1 (a7.on (bch B1 hz)) (b7.on (bch B1 hz)))
  simp only [decide_true] at HI
  have HK := Lib.hid (fun (z : World) (hz : Below w.heap.size w z) (i : Nat) (hi : i < p.kids.length) => And.intro ((h.on hz).kid hi) ((h'.on hz).kid hi))
  have IH := Lib.hid ih
  have HB1 := Lib.hid B1
  have HW1 := Lib.hid hW1
  have BX := Lib.hid (fun (z : World) (hz : Below W1.heap.size W1 z) => show (z.cell? ⟨w.heap.size, 0, none⟩ = some (.int .i64 f.kind) ∧ z.cell? ⟨w.heap.size, 1, none⟩ = some (.int .i64 f.table) ∧ z.cell? ⟨w.heap.size, 2, none⟩ = some (.slice f.es.A p.exprs.length f.es.c) ∧ z.cell? ⟨w.heap.size, 3, none⟩ = some (.slice f.cs.A p.cols.length f.cs.c) ∧ z.cell? ⟨w.heap.size, 4, none⟩ = some (.slice f.ks.A p.kids.length f.ks.c)) ∧
      (z.cell? ⟨w.heap.size + 1, 0, none⟩ = some (.int .i64 f.kind) ∧ z.cell? ⟨w.heap.size + 1, 1, none⟩ = some (.int .i64 f.table) ∧ z.cell? ⟨w.heap.size + 1, 2, none⟩ = some (.slice g.es.A p.exprs.length g.es.c) ∧ z.cell? ⟨w.heap.size + 1, 3, none⟩ = some (.slice g.cs.A p.cols.length g.cs.c) ∧ z.cell? ⟨w.heap.size + 1, 4, none⟩ = some (.slice g.ks.A p.kids.length g.ks.c))
    from ⟨⟨(r1.on hz).cell 0, (r1.on hz).cell 1, (r1.on hz).cell 2, (r1.on hz).cell 3, (r1.on hz).cell 4⟩, ⟨(r2.on hz).cell 0, (r2.on hz).cell 1, (r2.on hz).cell 2, (r2.on hz).cell 3, (r2.on hz).cell 4⟩⟩)
  have BL := Lib.hid (And.intro r1.lt r2.lt)
  have hkl : p.kids.length ≤ 9223372036854775807 := by have := hx.out.2.2; unfold maxLen at this; omega
  have z1 := BX.out _ (Below.refl _ _)
  unfold fpV
  rw [e1, e2, a3, a4, a5, b3, b4, b5]
  clear h h' ih a1 a2 a3 a3' a3'' a4 a4' a4'' a5 a5' a5'' a6 a7 b1 b2 b3 b4 b5 b6 b7 e1 e2 B1 r1 r2 hW1
  go_enter Try.func11, Try.ntmps11
  go_upto_region 1 with fail
  rw [HW1.out]
  go_wp2_with fail
  refine HL.out.mono ?_
  rintro e w2 ⟨rfl, hb2⟩
  have H2 := Lib.hid hb2
  clear hb2
  have z2 := BX.out _ H2.out
  go_wp2_with fail
  refine (HI.out _ H2.out).mono ?_
  rintro e w3 ⟨rfl, hb3⟩
  have H3 := Lib.hid (bch H2.out hb3)
  clear hb3 z1 z2
  have z3 := BX.out _ H3.out
  go_wp2
  go_loopg [5] p.kids.length (fun g iv wr => ∃ i : Nat, i ≤ p.kids.length ∧ g = p.kids.length - i ∧ iv = .int .i64 i ∧ Below w3.heap.size w3 wr)
  case atStart => exact ⟨0, by omega, by omega, rfl, Below.refl _ _⟩
  case round =>
    obtain ⟨i, hi, rfl, rfl, hb⟩ := hrel
    have HB := Lib.hid hb
    have zr := BX.out _ (bch H3.out hb)
    clear hb z3
    by_cases hlt : i < p.kids.length
    · obtain ⟨⟨v1, o1, fk, hA, hB1, ⟨d0, d1, d2, d3, d4⟩, hf⟩, v2, o2, gk, hA', hB2, ⟨k0, k1, k2, k3, k4⟩, hg⟩ := HK.out wr (bch HB1.out (bch H3.out HB.out)) i hlt
      have HX := Lib.hid (fun z : Aft wr.heap.size wr => IH.out _ (List.getElem_mem hlt) fk gk z.v (hf.on z.h) (hg.on z.h))
      unfold fpV at HX
      rw [hA, hA'] at zr
      have hil : (i : Int) < (p.kids.length : Int) := by omega
      have bl1 : w.heap.size < wr.heap.size := by have := BL.out.1; have := H3.out.size; have := HB.out.size; omega
      have bl2 : w.heap.size + 1 < wr.heap.size := by have := BL.out.2; have := H3.out.size; have := HB.out.size; omega
      have T1 := fun z : Aft wr.heap.size wr => z.cell bl1 zr.1.2.2.2.2
      have T2 := fun z : Aft wr.heap.size wr => z.cell bl2 zr.2.2.2.2.2
      have D0 := fun z : Aft wr.heap.size wr => z.cell hB1 d0
      have D1 := fun z : Aft wr.heap.size wr => z.cell hB1 d1
      have D2 := fun z : Aft wr.heap.size wr => z.cell hB1 d2
      have D3 := fun z : Aft wr.heap.size wr => z.cell hB1 d3
      have D4 := fun z : Aft wr.heap.size wr => z.cell hB1 d4
      have K0 := fun z : Aft wr.heap.size wr => z.cell hB2 k0
      have K1 := fun z : Aft wr.heap.size wr => z.cell hB2 k1
      have K2 := fun z : Aft wr.heap.size wr => z.cell hB2 k2
      have K3 := fun z : Aft wr.heap.size wr => z.cell hB2 k3
      have K4 := fun z : Aft wr.heap.size wr => z.cell hB2 k4
      clear hf hg d0 d1 d2 d3 d4 k0 k1 k2 k3 k4 hA hA'
      go_wp2
      refine wp_region_aft wr.heap.size (by kernel_rfl) (by kernel_rfl) ?_
      repeat (go_big_quiet_step ((go_at_call 11; exact Calls.aft (Nat.le_refl _) (HX.out _))))
      refine wpQuiet_nil ?_
      intro w4 hw'
      obtain ⟨⟨_, hb4⟩, rfl⟩ := hw'
      go_wp2
      have H4 := Lib.hid (bch HB.out hb4)
      clear hb4 D0 D1 D2 D3 D4 K0 K1 K2 K3 K4 T1 T2
      go_wp2
      go_roundg (p.kids.length - (i + 1))
      case measure => omega
      case rel => exact ⟨i + 1, by omega, rfl, by go_num, H4.out⟩
    · go_wp2
      go_ret
      exact ⟨rfl, bch HB1.out (bch H3.out HB.out)⟩
end Go.Proofs.Ytcbfbgngkdiijaa
