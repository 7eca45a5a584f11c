import Derived.Test.YtmhlpjfijpomkaaGreatDoorProg
import Derived.Test.YtmhlpjfijpomkaaGreatDoorZpGa
import Derived.Deep.RegionHeld3
/-
  Contract: lists of numbers compared (equalInts).
-/
namespace Go.Proofs.YtmhlpjfijpomkaaGreatDoor
open Go.RowKit Go.Qo
set_option linter.unusedVariables false
set_option linter.unusedSimpArgs false

set_option maxHeartbeats 1000000 in
theorem equalInts_ok (A A' : Option Addr) (c c' : Nat) (xs ys : List Int) (w : World) (hn : xs.length ≤ maxLen) (hn' : ys.length ≤ maxLen) (h : Sl 1 intC w w.heap.size A xs) (h' : Sl 1 intC w w.heap.size A' ys) :
    Calls Tryz.prog 56 #[.slice A xs.length c, .slice A' ys.length c'] w fun e w' => e = .returned (.bool (decide (xs = ys))) ∧ Below w.heap.size w w' := by
  unfold maxLen at hn hn'
  by_cases hl : xs.length = ys.length
  · have hl' := Lib.hid hl
    have hne : ((xs.length : Int) != (ys.length : Int)) = false := by simp [hl]
    clear hl
    go_enter Tryz.func56, Tryz.ntmps56
    go_wp2
    go_loopg [5] (xs.length) (fun g i wr => ∃ k : Nat, k ≤ xs.length ∧ g = xs.length - k ∧ i = .int .i64 k ∧ Below w.heap.size w wr ∧ xs.take k = ys.take k)
    case atStart => exact ⟨0, by omega, by omega, rfl, Below.refl _ _, rfl⟩
    case round =>
      obtain ⟨k, hk, rfl, rfl, hb, hp⟩ := hrel
      have Hp := Lib.hid hp
      clear hp
      by_cases hlt : k < xs.length
      · have hlt' : k < ys.length := by have := hl'.out; omega
        obtain ⟨b, off, rfl, hB, c1⟩ := Ints.at_ (h.below hb) hlt
        obtain ⟨b', off', rfl, hB', c1'⟩ := Ints.at_ (h'.below hb) hlt'
        have hx := Lib.hid (List.getElem?_eq_getElem hlt)
        have hy := Lib.hid (List.getElem?_eq_getElem hlt')
        generalize xs[k] = x at *
        generalize ys[k] = y at *
        by_cases hxy : x = y
        · subst hxy
          go_wp2
          go_quiet (fail)
          go_wp2
          go_roundg (xs.length - (k + 1))
          case measure => omega
          case rel => exact ⟨k + 1, by omega, rfl, by go_num, bdrewN hb _, take_eq_succ Hp.out hx.out hy.out⟩
        · have hxn : (x != y) = true := by simp [hxy]
          have HXY := Lib.hid hxy
          clear hxy
          go_wp2
          go_quiet (fail)
          go_wp2
          go_ret
          exact ⟨ret_bool (decide_eq_false (ne_of_at hx.out hy.out HXY.out)).symm, bdrewN hb _⟩
      · go_wp2
        go_ret
        exact ⟨ret_bool (decide_eq_true (eq_of_take Hp.out (by omega) (by have := hl'.out; omega))).symm, hb⟩
  · go_enter Tryz.func56, Tryz.ntmps56
    go_wp2
    go_ret
    exact ⟨ret_bool (decide_eq_false fun he => hl (by rw [he])).symm, Below.refl _ _⟩

end Go.Proofs.YtmhlpjfijpomkaaGreatDoor

/-
  Contract: two plans that hold one tree are equal (equalPlans).
-/
namespace Go.Proofs.YtmhlpjfijpomkaaGreatDoor
open Go.RowKit Go.Qo
set_option linter.unusedVariables false
set_option linter.unusedSimpArgs false

/-- A plan as a value. -/
def fpV (f : FP) : Value := .agg #[.int .i64 f.kind, .int .i64 f.table, .slice f.es.A f.es.n f.es.c, .slice f.cs.A f.cs.n f.cs.c, .slice f.ks.A f.ks.n f.ks.c]

set_option maxRecDepth 20000 in
set_option maxHeartbeats 2000000 in
theorem equalPlans_ok : ∀ (p : Pl) (f g : FP) (w : World), PlIn w w.heap.size f p → PlIn w w.heap.size g p →
    Calls Tryz.prog 24 #[fpV f, fpV g] w fun e w' => e = .returned (.bool true) ∧ Below w.heap.size w w' := Pl.ind fun p ih f g w h h' => by
  obtain ⟨a1, a2, ⟨a3, a3', a3''⟩, ⟨a4, a4', a4''⟩, ⟨a5, a5', a5''⟩, a6, a7⟩ := h.flat
  obtain ⟨b1, b2, ⟨b3, _, _⟩, ⟨b4, _, _⟩, ⟨b5, _, _⟩, b6, b7⟩ := h'.flat
  have e1 : g.kind = f.kind := b1.trans a1.symm
  have e2 : g.table = f.table := b2.trans a2.symm
  obtain ⟨W1, hW1⟩ : ∃ z, (w.alloc (.cells #[.int .i64 f.kind, .int .i64 f.table, .slice f.es.A p.exprs.length f.es.c, .slice f.cs.A p.cols.length f.cs.c, .slice f.ks.A p.kids.length f.ks.c] 26)).alloc (.cells #[.int .i64 f.kind, .int .i64 f.table, .slice g.es.A p.exprs.length g.es.c, .slice g.cs.A p.cols.length g.cs.c, .slice g.ks.A p.kids.length g.ks.c] 26) = z := ⟨_, rfl⟩
  have B1 : Below w.heap.size w W1 := by rw [← hW1]; exact balloc (balloc (Below.refl _ _) _) _
  have r1 : Row W1 w.heap.size 26 [.int .i64 f.kind, .int .i64 f.table, .slice f.es.A p.exprs.length f.es.c, .slice f.cs.A p.cols.length f.cs.c, .slice f.ks.A p.kids.length f.ks.c] := by rw [← hW1]; exact Row.first _ _ _ _
  have r2 : Row W1 (w.heap.size + 1) 26 [.int .i64 f.kind, .int .i64 f.table, .slice g.es.A p.exprs.length g.es.c, .slice g.cs.A p.cols.length g.cs.c, .slice g.ks.A p.kids.length g.ks.c] := by rw [← hW1]; exact Row.second _ _ _ _
  have hx := Lib.hid (show p.exprs.length ≤ maxLen ∧ p.cols.length ≤ maxLen ∧ p.kids.length ≤ maxLen by omega)
  have HL := Lib.hid (equalLists_of p.exprs (fun x _ => equalExprs_ok x) f.es.A g.es.A f.es.c g.es.c W1 hx.out.1 (a6.on B1) (b6.on B1))
  have HI := Lib.hid (fun (z : World) (hz : Below W1.heap.size W1 z) => equalInts_ok f.cs.A g.cs.A f.cs.c g.cs.c p.cols p.cols z hx.out.2.1 hx.out.2.1 (a7.on (bch B1 hz)) (b7.on (bch B1 hz)))
  simp only [decide_true] at HI
  have HK := Lib.hid (fun (z : World) (hz : Below w.heap.size w z) (i : Nat) (hi : i < p.kids.length) => And.intro ((h.on hz).kid hi) ((h'.on hz).kid hi))
  have IH := Lib.hid ih
  have HB1 := Lib.hid B1
  have HW1 := Lib.hid hW1
  have BX := Lib.hid (fun (z : World) (hz : Below W1.heap.size W1 z) => show (z.cell? ⟨w.heap.size, 0, none⟩ = some (.int .i64 f.kind) ∧ z.cell? ⟨w.heap.size, 1, none⟩ = some (.int .i64 f.table) ∧ z.cell? ⟨w.heap.size, 2, none⟩ = some (.slice f.es.A p.exprs.length f.es.c) ∧ z.cell? ⟨w.heap.size, 3, none⟩ = some (.slice f.cs.A p.cols.length f.cs.c) ∧ z.cell? ⟨w.heap.size, 4, none⟩ = some (.slice f.ks.A p.kids.length f.ks.c)) ∧
      (z.cell? ⟨w.heap.size + 1, 0, none⟩ = some (.int .i64 f.kind) ∧ z.cell? ⟨w.heap.size + 1, 1, none⟩ = some (.int .i64 f.table) ∧ z.cell? ⟨w.heap.size + 1, 2, none⟩ = some (.slice g.es.A p.exprs.length g.es.c) ∧ z.cell? ⟨w.heap.size + 1, 3, none⟩ = some (.slice g.cs.A p.cols.length g.cs.c) ∧ z.cell? ⟨w.heap.size + 1, 4, none⟩ = some (.slice g.ks.A p.kids.length g.ks.c))
    from ⟨⟨(r1.on hz).cell 0, (r1.on hz).cell 1, (r1.on hz).cell 2, (r1.on hz).cell 3, (r1.on hz).cell 4⟩, ⟨(r2.on hz).cell 0, (r2.on hz).cell 1, (r2.on hz).cell 2, (r2.on hz).cell 3, (r2.on hz).cell 4⟩⟩)
  have BL := Lib.hid (And.intro r1.lt r2.lt)
  have hkl : p.kids.length ≤ 9223372036854775807 := by have := hx.out.2.2; unfold maxLen at this; omega
  have z1 := BX.out _ (Below.refl _ _)
  unfold fpV
  rw [e1, e2, a3, a4, a5, b3, b4, b5]
  clear h h' ih a1 a2 a3 a3' a3'' a4 a4' a4'' a5 a5' a5'' a6 a7 b1 b2 b3 b4 b5 b6 b7 e1 e2 B1 r1 r2 hW1
  go_enter Tryz.func24, Tryz.ntmps24
  go_upto_region 1 with fail
  rw [HW1.out]
  go_wp2_with fail
  refine HL.out.mono ?_
  rintro e w2 ⟨rfl, hb2⟩
  have H2 := Lib.hid hb2
  clear hb2
  have z2 := BX.out _ H2.out
  go_wp2_with fail
  refine (HI.out _ H2.out).mono ?_
  rintro e w3 ⟨rfl, hb3⟩
  have H3 := Lib.hid (bch H2.out hb3)
  clear hb3 z1 z2
  have z3 := BX.out _ H3.out
  go_wp2
  go_loopg [5] p.kids.length (fun g iv wr => ∃ i : Nat, i ≤ p.kids.length ∧ g = p.kids.length - i ∧ iv = .int .i64 i ∧ Below w3.heap.size w3 wr)
  case atStart => exact ⟨0, by omega, by omega, rfl, Below.refl _ _⟩
  case round =>
    obtain ⟨i, hi, rfl, rfl, hb⟩ := hrel
    have HB := Lib.hid hb
    have zr := BX.out _ (bch H3.out hb)
    clear hb z3
    by_cases hlt : i < p.kids.length
    · obtain ⟨⟨v1, o1, fk, hA, hB1, ⟨d0, d1, d2, d3, d4⟩, hf⟩, v2, o2, gk, hA', hB2, ⟨k0, k1, k2, k3, k4⟩, hg⟩ := HK.out wr (bch HB1.out (bch H3.out HB.out)) i hlt
      have HX := Lib.hid (fun z : Aft wr.heap.size wr => IH.out _ (List.getElem_mem hlt) fk gk z.v (hf.on z.h) (hg.on z.h))
      unfold fpV at HX
      rw [hA, hA'] at zr
      have hil : (i : Int) < (p.kids.length : Int) := by omega
      have bl1 : w.heap.size < wr.heap.size := by have := BL.out.1; have := H3.out.size; have := HB.out.size; omega
      have bl2 : w.heap.size + 1 < wr.heap.size := by have := BL.out.2; have := H3.out.size; have := HB.out.size; omega
      have T1 := fun z : Aft wr.heap.size wr => z.cell bl1 zr.1.2.2.2.2
      have T2 := fun z : Aft wr.heap.size wr => z.cell bl2 zr.2.2.2.2.2
      have D0 := fun z : Aft wr.heap.size wr => z.cell hB1 d0
      have D1 := fun z : Aft wr.heap.size wr => z.cell hB1 d1
      have D2 := fun z : Aft wr.heap.size wr => z.cell hB1 d2
      have D3 := fun z : Aft wr.heap.size wr => z.cell hB1 d3
      have D4 := fun z : Aft wr.heap.size wr => z.cell hB1 d4
      have K0 := fun z : Aft wr.heap.size wr => z.cell hB2 k0
      have K1 := fun z : Aft wr.heap.size wr => z.cell hB2 k1
      have K2 := fun z : Aft wr.heap.size wr => z.cell hB2 k2
      have K3 := fun z : Aft wr.heap.size wr => z.cell hB2 k3
      have K4 := fun z : Aft wr.heap.size wr => z.cell hB2 k4
      clear hf hg d0 d1 d2 d3 d4 k0 k1 k2 k3 k4 hA hA'
      go_wp2
      refine wp_region_aft wr.heap.size (by kernel_rfl) (by kernel_rfl) ?_
      repeat (go_big_quiet_step ((go_at_call 24; exact Calls.aft (Nat.le_refl _) (HX.out _))))
      refine wpQuiet_nil ?_
      intro w4 hw'
      obtain ⟨⟨_, hb4⟩, rfl⟩ := hw'
      go_wp2
      have H4 := Lib.hid (bch HB.out hb4)
      clear hb4 D0 D1 D2 D3 D4 K0 K1 K2 K3 K4 T1 T2
      go_wp2
      go_roundg (p.kids.length - (i + 1))
      case measure => omega
      case rel => exact ⟨i + 1, by omega, rfl, by go_num, H4.out⟩
    · go_wp2
      go_ret
      exact ⟨rfl, bch HB1.out (bch H3.out HB.out)⟩
end Go.Proofs.YtmhlpjfijpomkaaGreatDoor

/-
  A region that draws its order, whose LAST operation may break what the others rely on: S is asked behind every operation but number 'last'. What is taken first must be waited for by 'last'. No program in sight.
-/
namespace Go.Qo
set_option linter.unusedVariables false
section
variable {P : Program} {ops : Array Oper} {Q : Exit → Act → World → Prop} {md : Region.Mode} {S : World → Prop} {last : Nat}

/-- Whatever order is picked; S holds behind every operation but the last. -/
def wpAnyG (P : Program) (md : Region.Mode) (ops : Array Oper) (Q : Exit → Act → World → Prop) (S : World → Prop) (last : Nat) : Nat → Array Bool → Act → World → Prop
  | 0, listed, a, w => Region.ready md ops listed = [] ∧ Q .normal a w
  | fuel + 1, listed, a, w =>
    (Region.ready md ops listed = [] → Q .normal a w) ∧
    ∀ i ∈ Region.ready md ops listed, wpOp P ops Q i (fun a' w' => (i ≠ last → S w') ∧ wpAnyG P md ops Q S last fuel (listed.setIfInBounds i true) a' w') a w
theorem wpAny_ofG : ∀ (fuel : Nat) (listed : Array Bool) (a : Act) (w : World), wpAnyG P md ops Q S last fuel listed a w → wpAny P md ops Q fuel listed a w
  | 0, _, _, _, h => h
  | fuel + 1, _, _, _, h => ⟨h.1, fun i hi => wpOp_mono (fun a' w' h' => wpAny_ofG fuel _ a' w' h'.2) (h.2 i hi)⟩
/-- The last operation waits for number i. -/
def waitsFor (md : Region.Mode) (ops : Array Oper) (last i : Nat) : Bool := match ops[last]? with
  | some o => o.after.any fun e => Region.binds md e && e.on == i
  | none => true
theorem waits_ne {listed : Array Bool} {i j : Nat} (h : waitsFor md ops last i = true) (hi : i ∈ Region.ready md ops listed) (hj : j ∈ Region.ready md ops listed) : j ≠ last := by
  rintro rfl
  obtain ⟨_, oj, hoj, hall⟩ := mem_ready.1 hj
  unfold waitsFor at h
  rw [hoj] at h
  obtain ⟨e, he, hb⟩ := Array.any_eq_true'.1 h
  simp only [Bool.and_eq_true, beq_iff_eq] at hb
  have h1 := hall e he hb.1
  have h0 := (mem_ready.1 hi).1
  rw [hb.2] at h1
  rcases Nat.lt_or_ge i listed.size with h' | h'
  · simp [h'] at h0 h1; rw [h0] at h1; cases h1
  · simp [Array.getElem?_eq_none h'] at h1
theorem wpAnyG_first {i : Nat} {oi : Oper} {v : Value} (hi : ops[i]? = some oi) (hsel : ∀ (j : Nat) (o : Oper) cs b, ops[j]? = some o → o.op ≠ .select cs b)
    (hQ : ∀ c a w, Q (.panic c) (a.put oi.dst v) w → Q (.panic c) a w) (hwt : waitsFor md ops last i = true) :
    ∀ (fuel : Nat) (listed : Array Bool) (a : Act) (w : World),
      (∀ j oj, ops[j]? = some oj → j ≠ i → listed.getD j true = false → (∀ e ∈ oj.after, Region.binds md e = true → e.on ≠ i) → oi.apart ops oj = true) →
      i ∈ Region.ready md ops listed → YieldsIf P ops S oi v a → S w →
      wpAnyG P md ops Q S last fuel (listed.setIfInBounds i true) (a.put oi.dst v) w → wpAnyG P md ops Q S last (fuel + 1) listed a w := by
  intro fuel
  induction fuel with
  | zero =>
    intro listed a w _ hr hy hS H
    refine ⟨fun h => (by rw [h] at hr; cases hr), fun j hj => ?_⟩
    by_cases hji : j = i
    · subst hji; exact hy.wpOp hi hS ⟨fun _ => hS, H⟩
    · have := ready_mono hj hji
      rw [H.1] at this
      cases this
  | succ fuel ih =>
    intro listed a w hfree hr hy hS H
    refine ⟨fun h => (by rw [h] at hr; cases hr), fun j hj => ?_⟩
    by_cases hji : j = i
    · subst hji; exact hy.wpOp hi hS ⟨fun _ => hS, H⟩
    · have h1 := H.2 j (ready_mono hj hji)
      have hjl : j ≠ last := waits_ne hwt hr hj
      obtain ⟨hjun, oj, hoj, hall⟩ := mem_ready.1 hj
      have hnot : ∀ e ∈ oj.after, Region.binds md e = true → e.on ≠ i := fun e he hb heq => by
        have h1 := hall e he hb
        have h0 := (mem_ready.1 hr).1
        rw [heq] at h1
        rcases Nat.lt_or_ge i listed.size with h' | h'
        · simp [h'] at h0 h1; rw [h0] at h1; cases h1
        · simp [Array.getElem?_eq_none h'] at h1
      have h2 := wpOp_putIf hoj (hfree j oj hoj hji hjun hnot) (fun cs b => hsel i oi cs b hi) (fun cs b => hsel j oj cs b hoj) hQ hy h1
      have hfree' : ∀ k ok, ops[k]? = some ok → k ≠ i → (listed.setIfInBounds j true).getD k true = false →
          (∀ e ∈ ok.after, Region.binds md e = true → e.on ≠ i) → oi.apart ops ok = true := fun k ok hk hki hun hno => by
        refine hfree k ok hk hki ?_ hno
        by_cases hjk : j = k
        · subst hjk; exact hjun
        · rw [getD_set_ne true hjk] at hun; exact hun
      refine wpOp_mono (fun a' w' h3 => ⟨fun _ => h3.2.1 hjl, ih (listed.setIfInBounds j true) a' w' hfree' (ready_mono hr (Ne.symm hji)) h3.1 (h3.2.1 hjl) ?_⟩) h2
      rw [Array.setIfInBounds_comm _ _ hji]
      exact h3.2.2
/-- The beginning. -/
theorem wp_region_g {id : Nat} {a : Act} {w : World} (last : Nat) (S : World → Prop) {l : List Oper} (hm : P.follows .mixedOrders = true) (hS : S w.drew)
    (h : S w.drew → wpAnyG P .any l.toArray Q S last l.toArray.size (Array.replicate l.toArray.size false) a w.drew) : (Code.region id l.toArray true).wp P Q a w :=
  wp_region_any hm (wpAny_ofG _ _ _ _ (h hS))
/-- Take first an operation that yields in all worlds that meet S. -/
theorem takeG {l : List Oper} {i : Nat} {oi : Oper} {v : Value} {fuel : Nat} {listed : Array Bool} {a : Act} {w : World} (hi : l[i]? = some oi)
    (hs : Region.noSelect l.toArray = true) (hf : Region.free md l.toArray listed i = true) (hr : (Region.ready md l.toArray listed).contains i = true) (hwt : waitsFor md l.toArray last i = true)
    (hQ : ∀ c a w, Q (.panic c) (a.put oi.dst v) w → Q (.panic c) a w) (hy : YieldsIf P l.toArray S oi v a) (hS : S w)
    (h : wpAnyG P md l.toArray Q S last fuel (listed.setIfInBounds i true) (a.put oi.dst v) w) : wpAnyG P md l.toArray Q S last (fuel + 1) listed a w :=
  wpAnyG_first (by simpa using hi) (Region.noSelect_spec hs) hQ hwt fuel listed a w (Region.free_spec (by simpa using hi) hf) (by simpa using hr) hy hS h
/-- Each of the operations rs comes up next. -/
def AllReadyG (P : Program) (md : Region.Mode) (ops : Array Oper) (Q : Exit → Act → World → Prop) (S : World → Prop) (last fuel : Nat) (listed : Array Bool) (a : Act) (w : World) (rs : List Nat) : Prop :=
  ∀ i ∈ rs, wpOp P ops Q i (fun a' w' => (i ≠ last → S w') ∧ wpAnyG P md ops Q S last fuel (listed.setIfInBounds i true) a' w') a w
theorem AllReadyG.nil {fuel : Nat} {listed : Array Bool} {a : Act} {w : World} : AllReadyG P md ops Q S last fuel listed a w [] := fun _ h => by cases h
theorem readyG {l : List Oper} {fuel : Nat} {listed : Array Bool} {a : Act} {w : World} {i : Nat} {o : Oper} {rs : List Nat} (ho : l[i]? = some o)
    (h : ∀ K' : Act → World → Prop, Shut (∀ a w, (i ≠ last → S w) → ((i ≠ last → S w) → wpAnyG P md l.toArray Q S last fuel (listed.setIfInBounds i true) a w) → K' a w) → if Region.wanted o (yielded l.toArray a.tmps) = true then Oper.wp P o a w K' Q else K' (a.put o.dst undef) w)
    (hs : AllReadyG P md l.toArray Q S last fuel listed a w rs) : AllReadyG P md l.toArray Q S last fuel listed a w (i :: rs) := fun j hj => by
  rcases List.mem_cons.1 hj with rfl | hj
  · exact wpOp_step (by simpa using ho) (fun K' hK => h K' (fun a w hS hW => hK a w ⟨hS, hW hS⟩))
  · exact hs j hj
theorem wpAnyG_ready {rs : List Nat} {fuel : Nat} {listed : Array Bool} {a : Act} {w : World} (hr : Region.ready md ops listed = rs) (hne : rs ≠ [])
    (h : AllReadyG P md ops Q S last fuel listed a w rs) : wpAnyG P md ops Q S last (fuel + 1) listed a w := ⟨fun h0 => absurd (hr ▸ h0) hne, hr ▸ h⟩
theorem wpAnyG_done {listed : Array Bool} {a : Act} {w : World} (hr : Region.ready md ops listed = []) (h : Q .normal a w) : ∀ fuel, wpAnyG P md ops Q S last fuel listed a w
  | 0 => ⟨hr, h⟩
  | _ + 1 => ⟨fun _ => h, by rw [hr]; simp⟩
end
end Go.Qo

/-
  Words for the generators of trees: what they hand back. No program in sight.
-/
namespace Go.Proofs.YtmhlpjfijpomkaaGreatDoor
open Go.RowKit Go.Qo
set_option linter.unusedVariables false
set_option linter.unusedSimpArgs false

theorem Rd.apart {w w' : World} {b p : Nat} {S : Nat → Prop} (h : Rd w b p) (k : Only S w w') (hS : ∀ i, S i → b < i) : Rd w' b p := by
  have hlt := h.lt
  have hsz := k.size
  obtain ⟨A, xs, c, q, h1, h2, h3, h4, h5⟩ := h
  exact ⟨A, xs, c, q, h1, h2, h3.only k (fun hb => by have := hS b hb; omega), h4, h5.keep fun i o hi => World.cell?_of_block (w := w) (a := ⟨i, o, none⟩) (k.block i (by omega) fun hi' => by have := hS i hi'; omega)⟩
theorem set5 (w : World) (g : Nat) (v0 v1 v2 v3 v4 : Value) : Only (fun k => k = g) w (((((w.setCell ⟨g, 0, none⟩ v0).setCell ⟨g, 1, none⟩ v1).setCell ⟨g, 2, none⟩ v2).setCell ⟨g, 3, none⟩ v3).setCell ⟨g, 4, none⟩ v4) :=
  ((((((Only.refl (S := fun k => k = g) w).set (p := ⟨g, 0, none⟩) (.inl rfl) v0).set (p := ⟨g, 1, none⟩) (.inl rfl) v1).set (p := ⟨g, 2, none⟩) (.inl rfl) v2).set (p := ⟨g, 3, none⟩) (.inl rfl) v3).set (p := ⟨g, 4, none⟩) (.inl rfl) v4)
/-- An expression of the call's own is handed back; the reader alone has changed; its counter is at most p. -/
def GotEx (b p : Nat) (w : World) (e : Ending) (w' : World) : Prop :=
  ∃ (f : FE) (x : Ex), e = .returned (feV f) ∧ ExT (fun k => w.heap.size ≤ k) w' f x ∧ But b w w' ∧ Rd w' b p
def GotPl (b p : Nat) (w : World) (e : Ending) (w' : World) : Prop :=
  ∃ (f : FP) (x : Pl), e = .returned (fpV f) ∧ PlT (fun k => w.heap.size ≤ k) w' f x ∧ But b w w' ∧ Rd w' b p
/-- The kids of an expression while they grow: a slice of the call's own, its elements trees beside it. -/
def Kds (lo : Nat) (w : World) (v : Value) (es : List Ex) : Prop :=
  ∃ fs : List FE, fs.length = es.length ∧ Ow lo 40 5 feC w v fs ∧ ∀ (i : Nat) (g : FE) (x : Ex), fs[i]? = some g → es[i]? = some x → ExT (fun k => lo ≤ k ∧ v.ownBlock ≠ some k) w g x
theorem Kds.nil {lo : Nat} {w : World} : Kds lo w (.slice none 0 0) [] := ⟨[], rfl, Ow.nil, fun i g x h _ => by simp at h⟩
theorem Kds.only {lo : Nat} {w w' : World} {v : Value} {es : List Ex} {S : Nat → Prop} (h : Kds lo w v es) (k : Only S w w') (hS : ∀ i, S i → i < lo) : Kds lo w' v es := by
  obtain ⟨fs, h1, h2, h3⟩ := h
  exact ⟨fs, h1, h2.only k fun i hi => .inl (hS i hi), fun i g x hg hx => (h3 i g x hg hx).keep k.size fun c hc hl => k.block c hl fun hs => by have := hS c hs; omega⟩
theorem Kds.shape {lo : Nat} {w : World} {v : Value} {es : List Ex} (h : Kds lo w v es) : ∃ A c, v = .slice A es.length c ∧ es.length ≤ c ∧ c ≤ maxLen := by
  obtain ⟨fs, h1, h2, h3⟩ := h
  obtain ⟨A, c, hv, h4, h5, _⟩ := h2.shape feC_length
  exact ⟨A, c, by rw [hv, h1], by omega, h5⟩
theorem Kds.exs {lo : Nat} {w : World} {A : Option Addr} {n c : Nat} {es : List Ex} (h : Kds lo w (.slice A n c) es) : ExsT (fun k => lo ≤ k) w A es := by
  obtain ⟨fs, h1, h2, h3⟩ := h
  exact ⟨fs, h1, SlS.of_ow feC_length h2, fun i g x hg hx => (h3 i g x hg hx).mono fun b _ hb => hb.1⟩
/-- One kid more: appended in a world in which it is held beside. -/
theorem Kds.snoc {lo : Nat} {w w' : World} {v v' : Value} {es : List Ex} {fs : List FE} {f : FE} {x : Ex} (hl : fs.length = es.length)
    (h3 : ∀ (i : Nat) (g : FE) (x : Ex), fs[i]? = some g → es[i]? = some x → ExT (fun k => lo ≤ k ∧ v.ownBlock ≠ some k) w g x) (hx : ExT (fun k => lo ≤ k ∧ v.ownBlock ≠ some k) w f x)
    (how : Ow lo 40 5 feC w' v' (fs ++ [f])) (hgr : w.grownBy w' v.ownBlock) (hob : v'.ownBlock = v.ownBlock ∨ v'.ownBlock = some w.heap.size) : Kds lo w' v' (es ++ [x]) := by
  have key : ∀ (g : FE) (y : Ex), ExT (fun k => lo ≤ k ∧ v.ownBlock ≠ some k) w g y → ExT (fun k => lo ≤ k ∧ v'.ownBlock ≠ some k) w' g y := fun g y h => by
    have h' : ExT (fun k => lo ≤ k ∧ v.ownBlock ≠ some k ∧ k < w.heap.size) w g y := h.mono fun b hb hk => ⟨hk.1, hk.2, hb⟩
    refine (h'.keep hgr.size fun c hc hl => hgr.block c hl fun e => hc.2.1 e.symm).mono fun c _ hc => ⟨hc.1, ?_⟩
    rcases hob with e | e
    · rw [e]; exact hc.2.1
    · rw [e]; intro e'; have := Option.some.inj e'; omega
  refine ⟨fs ++ [f], by simp [hl], how, fun i g y hg hy => ?_⟩
  by_cases hi : i < fs.length
  · rw [List.getElem?_append_left hi] at hg
    rw [List.getElem?_append_left (by omega)] at hy
    exact key g y (h3 i g y hg hy)
  · rw [List.getElem?_append_right (by omega)] at hg
    rw [List.getElem?_append_right (by omega)] at hy
    have h0 : i - fs.length = 0 := by
      have := (List.getElem?_eq_some_iff.1 hg).1
      simp at this
      omega
    rw [h0] at hg
    rw [← hl, h0] at hy
    simp at hg hy
    subst hg hy
    exact key _ _ hx
end Go.Proofs.YtmhlpjfijpomkaaGreatDoor
