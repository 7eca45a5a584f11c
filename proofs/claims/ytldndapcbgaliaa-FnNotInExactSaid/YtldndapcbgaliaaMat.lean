/-
  Contracts of the matcher: a map from numbers to how often they occur; matcherOf, matches.
-/
import Derived.Test.YtldndapcbgaliaaProg
import Derived.Maps.Own
import Derived.Maps.OwnOps
import Derived.Maps.Views
import Derived.Test.YtldndapcbgaliaaTab
import Derived.Test.YtldndapcbgaliaaRow
import Derived.Test.YtldndapcbgaliaaPln
import Derived.Test.YtldndapcbgaliaaHasC
import Derived.Deep.DeepCutAuto
namespace Go.Proofs.Ytldndapcbgaliaa
open Go.RowKit Go.Qo Go.Maps
set_option linter.unusedVariables false
set_option linter.unusedSimpArgs false

theorem keyInt : Keyed Try.prog 3 := int_keyed Try.underlying3
theorem zeroInt (w : World) : (zeroValue 3).run Try.prog w = .ok (.int .i64 0) w := by kernel_rfl
/-- Block b is a map of at most n entries: how often each number occurs in ns. -/
def MapN (w : World) (b n : Nat) (ns : List Int) : Prop :=
  ∃ D : DataW Unit, w.ownsMap Try.prog 3 (plainElem Try.prog 3) b n D ∧ IsMap D ∧ ∀ x : Int, D.atKey (.int .i64 x) (.lit (.int .i64 0)) = .lit (.int .i64 (ns.count x : Nat))
theorem MapN.lt {w : World} {b n : Nat} {ns : List Int} (h : MapN w b n ns) : b < w.heap.size := by obtain ⟨D, h, _⟩ := h; exact h.lt
theorem MapN.made (w : World) : MapN (w.alloc (.map #[] 0)) w.heap.size 0 [] := ⟨.map [], World.ownsMap_made _ _ _ _, ⟨_, rfl⟩, fun x => rfl⟩
theorem MapN.kept {w w' : World} {b n : Nat} {ns : List Int} (h : MapN w b n ns) (hb : w'.heap[b]? = w.heap[b]?) : MapN w' b n ns := by
  obtain ⟨D, ⟨es, clock, h1, h2⟩, h3⟩ := h
  exact ⟨D, ⟨es, clock, hb.trans h1, h2⟩, h3⟩
theorem MapN.on {w w' : World} {b n : Nat} {ns : List Int} (h : MapN w b n ns) (hb : Below w.heap.size w w') : MapN w' b n ns := h.kept (hb.block b h.lt)
theorem MapN.look {w : World} {b n : Nat} {ns : List Int} (h : MapN w b n ns) {x : Int} (hx : (Lit.int .i64 x).wf = true) : (Instr.lookup 85 (.map (some b)) (.int .i64 x) false).run Try.prog w = .ok (.int .i64 (ns.count x : Nat)) w := by
  obtain ⟨D, h1, h2, h3⟩ := h
  obtain ⟨c, hrun, hat, _⟩ := h1.lookup_int keyInt Try.underlying85 Try.underlying3 (zeroInt _) (keyOf_int_mk Try.underlying3 hx)
  rw [h3 x] at hat
  have e : ((ns.count x : Nat) : Int) = c := by
    cases hat
    rfl
  rw [e]
  exact hrun
set_option maxRecDepth 20000 in
theorem MapN.add {w : World} {b n : Nat} {ns : List Int} (h : MapN w b n ns) (hn : n < maxLen) {x : Int} (hx : (Lit.int .i64 x).wf = true) (hc : ns.length ≤ 1048576) : ∃ w', (Instr.mapUpdate 85 (.map (some b)) (.int .i64 x) (.int .i64 ((ns.count x : Nat) + 1))).run Try.prog w = .ok () w' ∧ MapN w' b (n + 1) (ns ++ [x]) ∧ w.grownBy w' (some b) := by
  obtain ⟨D, h1, h2, h3⟩ := h
  have hcl : ns.count x ≤ ns.length := List.count_le_length
  obtain ⟨w', hrun, hown, hg⟩ := h1.update keyInt Try.underlying85 hn (keyOf_int_mk Try.underlying3 hx) (plainElem_int (H := Unit) (q := .i64) Try.underlying3 (WalkArith.wf_i64 (n := ((ns.count x : Nat) : Int) + 1) (by omega)))
  refine ⟨w', hrun, ⟨_, hown, ?_, fun y => ?_⟩, hg⟩
  · obtain ⟨es, rfl⟩ := h2
    exact ⟨_, rfl⟩
  · by_cases hxy : y = x
    · subst hxy
      rw [atKey_put_same h2 (by simp [WideAt.IsKeyLit]), List.count_append]
      simp
    · rw [atKey_put_other (by intro e; injection e with _ e; exact hxy e), h3 y, List.count_append, List.count_singleton]
      simp [Ne.symm hxy]

theorem MapN.mono_ {w : World} {b n m : Nat} {ns : List Int} (h : MapN w b n ns) (hm : n ≤ m) : MapN w b m ns := by
  obtain ⟨D, h1, h2⟩ := h
  exact ⟨D, h1.mono hm, h2⟩
theorem tabRowOk_ {W : Int} {rows : List Row1} (h : TabOk W rows) : ∀ r ∈ rows, RowOk W r := fun r hr => h.srt.1 r hr
/-- The numbers of a column. -/
def colN (c : Nat) (rows : List Row1) : List Int := rows.filterMap fun r => match r[c]? with | some (false, n) => some n | _ => none
def colNull (c : Nat) (rows : List Row1) : Nat := (rows.filter fun r => match r[c]? with | some (true, _) => true | _ => false).length
theorem colN_snoc (c : Nat) (rows : List Row1) (r : Row1) : colN c (rows ++ [r]) = colN c rows ++ (match r[c]? with | some (false, n) => [n] | _ => []) := by
  unfold colN
  rw [List.filterMap_append]
  congr 1
  simp only [List.filterMap_cons, List.filterMap_nil]
  split <;> (split <;> simp_all)
theorem colNull_snoc (c : Nat) (rows : List Row1) (r : Row1) : colNull c (rows ++ [r]) = colNull c rows + (match r[c]? with | some (true, _) => 1 | _ => 0) := by
  unfold colNull
  rw [List.filter_append, List.length_append]
  congr 1
  simp only [List.filter_cons, List.filter_nil]
  split
  · split at * <;> simp_all
  · split <;> simp_all
theorem colN_length (c : Nat) (rows : List Row1) : (colN c rows).length ≤ rows.length := List.length_filterMap_le _ _
theorem colNull_le (c : Nat) (rows : List Row1) : colNull c rows ≤ rows.length := List.length_filter_le _ _
theorem wf_val {v : Val} (h : vValid v = true) : (Lit.int .i64 v.2).wf = true := by
  have : -9999 ≤ v.2 ∧ v.2 ≤ 9999 := by
    unfold vValid at h
    split at h
    · simp at h; omega
    · simp at h; omega
  exact WalkArith.wf_i64 (by omega)
/-- Whether a row's number in a column is among ns. -/
def mt (ci : Nat) (ns : List Int) (r : Row1) : Bool := match r[ci]? with | some (false, n) => decide (0 < ns.count n) | _ => false

set_option maxRecDepth 20000 in
set_option maxHeartbeats 2000000 in
theorem matches_ok (b N ci c : Nat) (nulls : Int) (ns : List Int) (W : Int) (A : Option Addr) (r : Row1) (w : World) (hm : MapN w b N ns) (hci : ci < r.length) (hr : RowOk W r) (h : Sl 2 valC w w.heap.size A r) :
    Calls Try.prog 66 #[.agg #[.map (some b), .int .i64 nulls, .int .i64 ci], .slice A r.length c] w fun e w' => e = .returned (.bool (mt ci ns r)) ∧ Below w.heap.size w w' := by
  obtain ⟨b2, off, rfl, hB, c0, c1⟩ := Val.at_ h hci
  have hv := hr.vals _ (List.getElem_mem hci)
  have hx := Lib.hid (List.getElem?_eq_getElem hci)
  have hl6 := (rowValid_len hr.1).2
  generalize r[ci] = v at *
  obtain ⟨nl, n⟩ := v
  have hwf := wf_val hv
  obtain ⟨t, ht⟩ : ∃ t, mt ci ns r = t := ⟨_, rfl⟩
  rw [ht]
  obtain ⟨W2, hW2⟩ : ∃ z, (w.alloc (.cells #[.map (some b), .int .i64 nulls, .int .i64 ci] 89)).alloc (.cells #[.bool nl, .int .i64 n] 40) = z := ⟨_, rfl⟩
  have B2 : Below w.heap.size w W2 := by rw [← hW2]; exact balloc (balloc (Below.refl _ _) _) _
  have r1 : Row W2 w.heap.size 89 [.map (some b), .int .i64 nulls, .int .i64 ci] := by rw [← hW2]; exact Row.first _ _ _ _
  have r2 : Row W2 (w.heap.size + 1) 40 [.bool nl, .int .i64 n] := by rw [← hW2]; exact Row.second _ _ _ _
  have hlook := (hm.on B2).look hwf
  obtain ⟨m, hmm⟩ : ∃ m, ns.count n = m := ⟨_, rfl⟩
  rw [hmm] at hlook
  have hm1 : ((0 : Int) < (m : Int)) ↔ 0 < m := by omega
  have HT := Lib.hid (show t = (!nl && decide (0 < m)) by
    rw [← ht, ← hmm]
    unfold mt
    rw [hx.out]
    cases nl <;> simp)
  have HB := Lib.hid B2
  have HW2 := Lib.hid hW2
  have e0 : W2.cell? ⟨w.heap.size, 0, none⟩ = some (.map (some b)) := r1.cell 0
  have e1 : W2.cell? ⟨w.heap.size, 2, none⟩ = some (.int .i64 ci) := r1.cell 2
  have e2 : W2.cell? ⟨w.heap.size + 1, 0, none⟩ = some (.bool nl) := r2.cell 0
  have e3 : W2.cell? ⟨w.heap.size + 1, 1, none⟩ = some (.int .i64 n) := r2.cell 1
  have cc := (balloc (Below.refl _ w) (.cells #[.map (some b), .int .i64 nulls, .int .i64 ci] 89))
  have c0' := (cc.cell (p := ⟨b2, off + ci * 2, none⟩) hB).trans c0
  have c1' := (cc.cell (p := ⟨b2, off + ci * 2 + 1, none⟩) hB).trans c1
  clear hm hr h hv ht hmm B2 r1 r2 hW2 cc
  go_enter Try.func66, Try.ntmps66
  go_upto_region 2 with fail
  rw [HW2.out]
  cases nl
  · by_cases h0 : 0 < m
    · have h0' : (0 : Int) < (m : Int) := by omega
      go_wp2
      go_ret
      exact ⟨ret_bool (by rw [HT.out]; simp [h0]), HB.out⟩
    · have h0' : ¬ (0 : Int) < (m : Int) := by omega
      go_wp2
      go_ret
      exact ⟨ret_bool (by rw [HT.out]; simp [h0]), HB.out⟩
  · go_wp2
    go_ret
    exact ⟨ret_bool (by rw [HT.out]; simp), HB.out⟩
/-- The matcher of a column, and whether there is one. -/
def MatRes (q : Bool) (cb : Nat) (ca : Int) (ys : List Row1) (w : World) (e : Ending) (w' : World) : Prop :=
  ((q = false ∧ e = .returned (.tuple #[.agg #[.map none, .int .i64 0, .int .i64 0], .bool false])) ∨ (q = true ∧ ∃ mb N, e = .returned (.tuple #[.agg #[.map (some mb), .int .i64 (colNull cb ys : Nat), .int .i64 ca], .bool true]) ∧ MapN w' mb N (colN cb ys))) ∧ Below w.heap.size w w'
theorem resMatcher {b : Nat} {v0 v1 v2 : Value} {r : Bool} (tmps : Array Value) (hp : tmps.getD 8 undef = .pointer (some ⟨b, 0, none⟩)) (hr : tmps.getD 9 undef = .bool r) (w : World) (c0 : w.cell? ⟨b, 0, none⟩ = some v0) (c1 : w.cell? ⟨b, 1, none⟩ = some v1) (c2 : w.cell? ⟨b, 2, none⟩ = some v2) :
    (results Try.f63 tmps).run Try.prog w = .ok (.tuple #[.agg #[v0, v1, v2], .bool r]) w := by
  simp only [Array.getD_eq_getD_getElem?] at hp hr
  simp [results, Try.results63, go_sem, hp, hr, c0, c1, c2]
theorem take_snoc_ {α : Type} {l : List α} {k : Nat} {x : α} (h : l[k]? = some x) : l.take (k + 1) = l.take k ++ [x] := by rw [List.take_add_one, h]; rfl

set_option maxRecDepth 20000 in
set_option maxHeartbeats 4000000 in
theorem matcherOf_ok (W W' : Int) (A A' : Option Addr) (c c' : Nat) (xs ys : List Row1) (ca cb : Int) (w : World) (hn : xs.length ≤ 1048576) (hn' : ys.length ≤ 1048576) (h : Rws w w.heap.size A xs) (h' : Rws w w.heap.size A' ys) (q : Bool) (hq : q = true ↔ ((TabOk W xs ∧ 0 ≤ ca ∧ ca < W) ∧ (TabOk W' ys ∧ 0 ≤ cb ∧ cb < W'))) :
    Calls Try.prog 63 #[.agg #[.int .i64 W, .slice A xs.length c], .agg #[.int .i64 W', .slice A' ys.length c'], .int .i64 ca, .int .i64 cb] w (MatRes q cb.toNat ca ys w) := by
  have Hq := Lib.hid hq
  obtain ⟨t1, ht1⟩ : ∃ q : Bool, q = true ↔ (TabOk W xs ∧ 0 ≤ ca ∧ ca < W) := ⟨_, @decide_eq_true_iff _ (Classical.propDecidable _)⟩
  obtain ⟨t2, ht2⟩ : ∃ q : Bool, q = true ↔ (TabOk W' ys ∧ 0 ≤ cb ∧ cb < W') := ⟨_, @decide_eq_true_iff _ (Classical.propDecidable _)⟩
  obtain ⟨W0, hW0⟩ : ∃ z, ((w.alloc (.cells #[.int .i64 W, .slice A xs.length c] 25)).alloc (.cells #[.int .i64 W', .slice A' ys.length c'] 25)).alloc (.cells #[.map none, .int .i64 0, .int .i64 0] 89) = z := ⟨_, rfl⟩
  have B0 : Below w.heap.size w W0 := by rw [← hW0]; exact balloc (balloc (balloc (Below.refl _ _) _) _) _
  have r0 : Row W0 w.heap.size 25 [.int .i64 W, .slice A xs.length c] := by rw [← hW0]; exact ((Row.new _ _ _).alloc _).alloc _
  have r1 : Row W0 (w.heap.size + 1) 25 [.int .i64 W', .slice A' ys.length c'] := by rw [← hW0]; exact (Row.second _ _ _ _).alloc _
  have r2 : Row W0 (w.heap.size + 2) 89 [.map none, .int .i64 0, .int .i64 0] := by rw [← hW0]; exact Row.third _ _ _ _ _
  have H1 := Lib.hid (hasColumn_ok W ca A c xs W0 hn (h.on B0) t1 ht1)
  have H2 := Lib.hid (fun (z : World) (hz : Below W0.heap.size W0 z) => hasColumn_ok W' cb A' c' ys z hn' (h'.on (bch B0 hz)) t2 ht2)
  have HH := Lib.hid (fun (z : World) (hz : Below w.heap.size w z) => show Rws z z.heap.size A' ys from h'.on hz)
  have HQ1 := Lib.hid ht1
  have HQ2 := Lib.hid ht2
  have HW := Lib.hid hW0
  have HB0 := Lib.hid B0
  have HR0 := Lib.hid (And.intro r0 (And.intro r1 r2))
  have a0 : W0.cell? ⟨w.heap.size, 0, none⟩ = some (.int .i64 W) := r0.cell 0
  have a1 : W0.cell? ⟨w.heap.size, 1, none⟩ = some (.slice A xs.length c) := r0.cell 1
  have hmk := @run_makeMap Try.prog
  clear hq ht1 ht2 h h' B0 r0 r1 r2 hW0
  cases t1
  · have hf : q = false := bfalse Hq.out fun ht => by have := HQ1.out.2 ht.1; cases this
    subst hf
    go_enter Try.func63, Try.ntmps63
    go_upto_region 1 with fail
    rw [HW.out]
    go_wp2_with fail
    refine H1.out.mono ?_
    rintro e w1 ⟨rfl, hb1⟩
    have r2 := HR0.out.2.2.on hb1
    have e0 : w1.cell? ⟨w.heap.size + 2, 0, none⟩ = some (.map none) := r2.cell 0
    have e1 : w1.cell? ⟨w.heap.size + 2, 1, none⟩ = some (.int .i64 0) := r2.cell 1
    have e2 : w1.cell? ⟨w.heap.size + 2, 2, none⟩ = some (.int .i64 0) := r2.cell 2
    have f0 := r2.frozen 0
    have f1 := r2.frozen 1
    have f2 := r2.frozen 2
    have l2 := r2.lt
    have H1' := Lib.hid (bch HB0.out hb1)
    clear hb1 r2
    go_wp2
    refine bodyPost_ret (resMatcher (b := w.heap.size + 2) (r := false) _ rfl rfl _ (v0 := .map none) (v1 := .int .i64 0) (v2 := .int .i64 0) (by simp [go_sem, e0, e1, e2, l2]) (by simp [go_sem, e0, e1, e2, l2]) (by simp [go_sem, e0, e1, e2, l2])) rfl ?_
    exact ⟨.inl ⟨rfl, rfl⟩, ((H1'.out.setCell (p := ⟨w.heap.size + 2, 0, none⟩) (by simp) _).setCell (p := ⟨w.heap.size + 2, 1, none⟩) (by simp) _).setCell (p := ⟨w.heap.size + 2, 2, none⟩) (by simp) _⟩
  · cases t2
    · have hf : q = false := bfalse Hq.out fun ht => by have := HQ2.out.2 ht.2; cases this
      subst hf
      go_enter Try.func63, Try.ntmps63
      go_upto_region 1 with fail
      rw [HW.out]
      go_wp2_with fail
      refine H1.out.mono ?_
      rintro e w1 ⟨rfl, hb1⟩
      have r1 := HR0.out.2.1.on hb1
      have b0 : w1.cell? ⟨w.heap.size + 1, 0, none⟩ = some (.int .i64 W') := r1.cell 0
      have b1 : w1.cell? ⟨w.heap.size + 1, 1, none⟩ = some (.slice A' ys.length c') := r1.cell 1
      have HB1 := Lib.hid hb1
      clear hb1 a0 a1 r1
      go_wp2_with fail
      refine (H2.out _ HB1.out).mono ?_
      rintro e w2 ⟨rfl, hb2⟩
      have hbb := bch HB1.out hb2
      have r2 := HR0.out.2.2.on hbb
      have e0 : w2.cell? ⟨w.heap.size + 2, 0, none⟩ = some (.map none) := r2.cell 0
      have e1 : w2.cell? ⟨w.heap.size + 2, 1, none⟩ = some (.int .i64 0) := r2.cell 1
      have e2 : w2.cell? ⟨w.heap.size + 2, 2, none⟩ = some (.int .i64 0) := r2.cell 2
      have f0 := r2.frozen 0
      have f1 := r2.frozen 1
      have f2 := r2.frozen 2
      have l2 := r2.lt
      have H1' := Lib.hid (bch HB0.out hbb)
      clear hb2 r2 hbb b0 b1
      go_wp2
      refine bodyPost_ret (resMatcher (b := w.heap.size + 2) (r := false) _ rfl rfl _ (v0 := .map none) (v1 := .int .i64 0) (v2 := .int .i64 0) (by simp [go_sem, e0, e1, e2, l2]) (by simp [go_sem, e0, e1, e2, l2]) (by simp [go_sem, e0, e1, e2, l2])) rfl ?_
      exact ⟨.inl ⟨rfl, rfl⟩, ((H1'.out.setCell (p := ⟨w.heap.size + 2, 0, none⟩) (by simp) _).setCell (p := ⟨w.heap.size + 2, 1, none⟩) (by simp) _).setCell (p := ⟨w.heap.size + 2, 2, none⟩) (by simp) _⟩
    · have hf : q = true := Hq.out.2 ⟨HQ1.out.1 rfl, HQ2.out.1 rfl⟩
      subst hf
      obtain ⟨hT2, hcb0, hcb1⟩ := HQ2.out.1 rfl
      obtain ⟨ci, hci⟩ : ∃ n : Nat, cb = n := ⟨cb.toNat, by omega⟩
      subst hci
      have HT := Lib.hid (And.intro hT2 (And.intro hcb0 hcb1))
      have hy4 : ys.length ≤ 400 := hT2.2.2.1
      clear hT2 hcb0 hcb1
      rw [show ((ci : Nat) : Int).toNat = ci from by omega]
      go_enter Try.func63, Try.ntmps63
      go_upto_region 1 with fail
      rw [HW.out]
      go_wp2_with fail
      refine H1.out.mono ?_
      rintro e w1 ⟨rfl, hb1⟩
      have r1 := HR0.out.2.1.on hb1
      have b0 : w1.cell? ⟨w.heap.size + 1, 0, none⟩ = some (.int .i64 W') := r1.cell 0
      have b1 : w1.cell? ⟨w.heap.size + 1, 1, none⟩ = some (.slice A' ys.length c') := r1.cell 1
      have HB1 := Lib.hid hb1
      clear hb1 a0 a1 r1
      go_wp2_with fail
      refine (H2.out _ HB1.out).mono ?_
      rintro e w2 ⟨rfl, hb2⟩
      have hbb := bch HB1.out hb2
      have r2 := HR0.out.2.2.on hbb
      have r1 := HR0.out.2.1.on hbb
      have b0 : w2.cell? ⟨w.heap.size + 1, 0, none⟩ = some (.int .i64 W') := r1.cell 0
      have b1 : w2.cell? ⟨w.heap.size + 1, 1, none⟩ = some (.slice A' ys.length c') := r1.cell 1
      have HB2 := Lib.hid (bch HB0.out hbb)
      have R2 := Lib.hid (And.intro r1 r2)
      clear hb2 r1 r2 hbb
      -- the matcher and its map
      go_upto_region 5 with fail
      obtain ⟨mb, hmb⟩ : ∃ mb, w2.heap.size + 1 = mb := ⟨_, rfl⟩
      rw [hmb]
      obtain ⟨W5, hW5⟩ : ∃ z, (w2.alloc (.cells #[.map (some mb), .int .i64 0, .int .i64 ca] 89)).alloc (.map #[] 0) = z := ⟨_, rfl⟩
      rw [hW5]
      have B5 : Below w2.heap.size w2 W5 := by rw [← hW5]; exact balloc (balloc (Below.refl _ _) _) _
      have m5 : Row W5 w2.heap.size 89 [.map (some mb), .int .i64 0, .int .i64 ca] := by rw [← hW5]; exact Row.first _ _ _ _
      have n5 : MapN W5 mb 0 [] := by
        rw [← hW5]
        have := MapN.made (w2.alloc (.cells #[.map (some mb), .int .i64 0, .int .i64 ca] 89))
        rw [World.size_alloc, hmb] at this
        exact this
      have s5 := m5.lt
      have HL := Lib.hid (show w.heap.size + 2 < w2.heap.size ∧ w2.heap.size + 1 = mb ∧ mb < W5.heap.size from ⟨R2.out.2.lt, hmb, n5.lt⟩)
      have H5 := Lib.hid (And.intro (bch HB2.out B5) (And.intro m5 (And.intro n5 (And.intro (R2.out.2.on B5) B5))))
      have d1 : W5.cell? ⟨w.heap.size + 1, 1, none⟩ = some (.slice A' ys.length c') := (R2.out.1.on B5).cell 1
      clear hW5 B5 m5 n5 s5 b0 b1 hmk hmb
      go_wp2
      go_loopg [32] ys.length (fun g iv wr => ∃ (k : Nat) (u : Int), k ≤ ys.length ∧ g = ys.length - k ∧ iv = .int .i64 k ∧ u = (colNull ci (ys.take k) : Nat) ∧ Row wr w2.heap.size 89 [.map (some mb), .int .i64 u, .int .i64 ca] ∧ MapN wr mb k (colN ci (ys.take k)) ∧ Row wr (w.heap.size + 2) 89 [.map none, .int .i64 0, .int .i64 0] ∧ Below w.heap.size w wr ∧ Below w2.heap.size w2 wr)
      case atStart => exact ⟨0, 0, by omega, by omega, rfl, rfl, H5.out.2.1, H5.out.2.2.1, H5.out.2.2.2.1, H5.out.1, H5.out.2.2.2.2⟩
      case round =>
        obtain ⟨k, u, hk, rfl, rfl, hu, hm, hN, hr, hb, hb2⟩ := hrel
        have hu4 : 0 ≤ u ∧ u ≤ 400 := by
          have := colNull_le ci (ys.take k)
          rw [List.length_take] at this
          omega
        obtain ⟨hu0, hu1⟩ := hu4
        have HI := Lib.hid (And.intro hu (And.intro hm (And.intro hN (And.intro hr (And.intro hb hb2)))))
        have m0 : wr.cell? ⟨w2.heap.size, 0, none⟩ = some (.map (some mb)) := hm.cell 0
        have m1 : wr.cell? ⟨w2.heap.size, 1, none⟩ = some (.int .i64 u) := hm.cell 1
        have m2 : wr.cell? ⟨w2.heap.size, 2, none⟩ = some (.int .i64 ca) := hm.cell 2
        have mf := hm.frozen 1
        have ml := hm.lt
        by_cases hlt : k < ys.length
        · obtain ⟨b3, off3, A3, C3, hA3, hB3, c3, hc3, hm3, s3⟩ := (HH.out _ hb).at_ hlt
          have hy := Lib.hid (List.getElem?_eq_getElem hlt)
          generalize ys[k] = x at *
          subst hA3
          have hxo := (tabRowOk_ HT.out.1 x (List.mem_of_getElem? hy.out))
          have hcx : ci < x.length := by have := hxo.2; have := HT.out.2.2; omega
          have hx6 := (rowValid_len hxo.1).2
          obtain ⟨b4, off4, rfl, hB4, c4, c5⟩ := Val.at_ s3 hcx
          have hv := hxo.vals _ (List.getElem_mem hcx)
          have hxc := Lib.hid (List.getElem?_eq_getElem hcx)
          generalize x[ci] = v at *
          obtain ⟨nl, n⟩ := v
          have hwf := wf_val hv
          have htk := take_snoc_ hy.out
          have h1 := colN_snoc ci (ys.take k) x
          have h2 := colNull_snoc ci (ys.take k) x
          rw [hxc.out, ← htk] at h1 h2
          cases nl
          · obtain ⟨cnt, hcnt⟩ : ∃ m, (colN ci (ys.take k)).count n = m := ⟨_, rfl⟩
            have hcl : (colN ci (ys.take k)).length ≤ 400 := by
              have := colN_length ci (ys.take k)
              rw [List.length_take] at this
              omega
            have hc4 : cnt ≤ 400 := by rw [← hcnt]; exact Nat.le_trans List.count_le_length hcl
            have hlk : (Instr.lookup 85 (.map (some mb)) (.int .i64 n) false).run Try.prog wr.drew = .ok (.int .i64 (cnt : Nat)) wr.drew := by
              rw [← hcnt]
              exact (hN.kept (w' := wr.drew) rfl).look hwf
            obtain ⟨w6, hup, hN6, hg6⟩ := (hN.kept (w' := wr.drew) rfl).add (by unfold maxLen; omega) hwf (by omega)
            rw [hcnt] at hup
            have hwr : IntKind.i64.wrap ((cnt : Int) + 1) = (cnt : Int) + 1 := IntWalk.i64_in _ (by omega)
            have HF := Lib.hid (And.intro h1 (And.intro h2 (And.intro hN6 hg6)))
            clear hu hm hN hr hb hb2 hxo hv h1 h2 hN6 hg6 hcnt htk s3 hc3 hm3
            go_wp2
            go_region
            all_goals
              go_wp2
              go_roundg (ys.length - (k + 1))
              case measure => omega
              case rel =>
                obtain ⟨h1, h2, hN6, hg6⟩ := HF.out
                obtain ⟨hu, hm, hN, hr, hb, hb2⟩ := HI.out
                have hz2 := HL.out
                have e : wr.drew.heap = wr.heap := rfl
                refine ⟨k + 1, u, by omega, rfl, by go_num, by rw [h2, hu]; rfl, hm.keep (hg6.block _ hm.lt (by simp; omega)), by rw [h1]; exact hN6, hr.keep (hg6.block _ hr.lt (by simp; omega)), ?_, ?_⟩
                · exact ((hb.drew).grown hg6 hb.size fun q hq => by cases hq; omega)
                · exact ((hb2.drew).grown hg6 hb2.size fun q hq => by cases hq; omega)
          · have hwr : IntKind.i64.wrap (u + 1) = u + 1 := IntWalk.i64_in _ (by omega)
            have HF := Lib.hid (And.intro h1 h2)
            clear hu hm hN hr hb hb2 hxo hv h1 h2 htk s3 hc3 hm3
            go_wp2
            go_roundg (ys.length - (k + 1))
            case measure => omega
            case rel =>
              obtain ⟨h1, h2⟩ := HF.out
              obtain ⟨hu, hm, hN, hr, hb, hb2⟩ := HI.out
              have hz2 := HL.out
              refine ⟨k + 1, u + 1, by omega, rfl, by go_num, by rw [h2, hu]; simp, (hm.set 1 _).of rfl, by rw [h1, List.append_nil]; exact (hN.kept (Below.heap_setCell _ _ _ _ (by simp; omega))).mono_ (by omega), hr.far (p := ⟨w2.heap.size, 1, none⟩) (by simp; omega) _, hb.setCell (p := ⟨w2.heap.size, 1, none⟩) (by simp; omega) _, hb2.setCell (p := ⟨w2.heap.size, 1, none⟩) (by simp) _⟩
        · have hke : k = ys.length := by omega
          have e0 : wr.cell? ⟨w.heap.size + 2, 0, none⟩ = some (.map none) := hr.cell 0
          have e1 : wr.cell? ⟨w.heap.size + 2, 1, none⟩ = some (.int .i64 0) := hr.cell 1
          have e2 : wr.cell? ⟨w.heap.size + 2, 2, none⟩ = some (.int .i64 0) := hr.cell 2
          have f0 := hr.frozen 0
          have f1 := hr.frozen 1
          have f2 := hr.frozen 2
          have l2 := hr.lt
          have HK := Lib.hid hke
          clear hu hm hN hr hb hb2 hke
          go_wp2
          refine bodyPost_ret (resMatcher (b := w.heap.size + 2) (r := true) _ rfl rfl _ (v0 := .map (some mb)) (v1 := .int .i64 u) (v2 := .int .i64 ca) (by simp [go_sem, e0, e1, e2, l2]) (by simp [go_sem, e0, e1, e2, l2]) (by simp [go_sem, e0, e1, e2, l2])) rfl ?_
          obtain ⟨hu, hm, hN, hr, hb, hb2⟩ := HI.out
          rw [HK.out, List.take_length] at hu hN
          have hz2 := HL.out
          subst hu
          exact ⟨.inr ⟨rfl, mb, _, rfl, ((hN.kept (Below.heap_setCell _ _ _ _ (by simp; omega))).kept (Below.heap_setCell _ _ _ _ (by simp; omega))).kept (Below.heap_setCell _ _ _ _ (by simp; omega))⟩, ((hb.setCell (p := ⟨w.heap.size + 2, 0, none⟩) (by simp) _).setCell (p := ⟨w.heap.size + 2, 1, none⟩) (by simp) _).setCell (p := ⟨w.heap.size + 2, 2, none⟩) (by simp) _⟩
end Go.Proofs.Ytldndapcbgaliaa
