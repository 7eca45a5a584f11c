/-
  Several texts in one (Bag SmjS MjS MjI MjM).
-/
import Derived.Test.YtlhonhacehgooaaGreatProg
import Derived.Test.YtlhonhacehgooaaGreatZjTbg
import Derived.Test.YtlhonhacehgooaaGreatZjPln
import Derived.Test.YtlhonhacehgooaaGreatZjRwt
import Derived.Deep.RegionHeld3
import Derived.Deep.DeepCutAuto
import Derived.Test.YtlhonhacehgooaaGreatZjUng
import Derived.BigQuiet
import Derived.Test.YtlhonhacehgooaaGreatZjIdxS
import Derived.Sort.QuietIn
/-
  Contracts of bagRows, ExceptAll, IntersectAll: the reference's.
-/
namespace Go.Proofs.YtlhonhacehgooaaGreat
open Go.RowKit Go.Qo
set_option linter.unusedVariables false
set_option linter.unusedSimpArgs false

theorem mem_drop_of {α : Type} {l : List α} {n : Nat} {x : α} (h : x ∈ l.drop n) : ∃ j, n ≤ j ∧ l[j]? = some x := by
  obtain ⟨i, hi, rfl⟩ := List.getElem_of_mem h
  rw [List.length_drop] at hi
  exact ⟨n + i, by omega, by rw [List.getElem_drop, List.getElem?_eq_getElem (by omega)]⟩
/-- What is built of valid rows is sorted. -/
theorem Built.srt {W : Int} {rs out : List Row1} (h : Built rs out) (hr : ∀ r ∈ rs, RowOk W r) : out.Pairwise (fun a b => rCmp a b ≤ 0) := by
  induction h with
  | nil => exact List.Pairwise.nil
  | @snoc rs out r low hb hi ih =>
    have hro : RowOk W r := hr r (by simp)
    have ih := ih fun x hx => hr x (by simp [hx])
    have hout : ∀ x ∈ out, RowOk W x := fun x hx => hr x (by simp [hb.perm.mem_iff.1 hx])
    obtain ⟨hl, h1, h2⟩ := hi
    have hpw := List.pairwise_iff_getElem.1 ih
    have ha : ∀ x ∈ out.take low, rCmp x r ≤ 0 := fun x hx => by
      obtain ⟨j, hj, rfl⟩ := List.getElem_of_mem hx
      rw [List.length_take] at hj
      rw [List.getElem_take]
      have hl1 : low - 1 < out.length := by omega
      have h3 := h1 out[low - 1] (by omega) (List.getElem?_eq_getElem hl1)
      rcases Nat.lt_or_ge j (low - 1) with h4 | h4
      · exact (hout _ (List.getElem_mem _)).trans (hout _ (List.getElem_mem hl1)) hro (hpw j (low - 1) (by omega) hl1 h4) h3
      · have : j = low - 1 := by omega
        subst this; exact h3
    have hd : ∀ x ∈ out.drop low, rCmp r x ≤ 0 := fun x hx => by
      obtain ⟨j, hj, hxj⟩ := mem_drop_of hx
      have hjl := (List.getElem?_eq_some_iff.1 hxj).1
      have hjx := (List.getElem?_eq_some_iff.1 hxj).2
      have hl1 : low < out.length := by omega
      have h3 := h2 out[low] (List.getElem?_eq_getElem hl1)
      have h5 := (hout _ (List.getElem_mem hl1)).anti hro
      rcases Nat.lt_or_ge low j with h4 | h4
      · have h6 := hpw low j hl1 hjl h4
        rw [hjx] at h6
        exact hro.trans (hout _ (List.getElem_mem hl1)) (hout x (List.mem_of_mem_drop hx)) (by omega) h6
      · have : j = low := by omega
        subst this; rw [← hjx]; omega
    rw [List.append_assoc, List.pairwise_append]
    refine ⟨ih.sublist (List.take_sublist _ _), ?_, fun x hx y hy => ?_⟩
    · rw [List.singleton_append, List.pairwise_cons]
      exact ⟨hd, ih.sublist (List.drop_sublist _ _)⟩
    · have hxo := hout x (List.mem_of_mem_take hx)
      rcases List.mem_append.1 hy with h4 | h4
      · simp only [List.mem_singleton] at h4; subst h4; exact ha x hx
      · exact hxo.trans hro (hout y (List.mem_of_mem_drop h4)) (ha x hx) (hd y h4)

/-- What a table of the reference's is: the zero table, or that of some rows. -/
def TabD (q : Bool) (W : Int) (rows : List Row1) (W1 : Int) (out : List Row1) : Prop :=
  (q = false ∧ W1 = 0 ∧ out = []) ∨ (q = true ∧ W1 = W ∧ (if rows.length ≤ 400 then Built rows out else out = []))
/-- A table of the call's own, and whether it is one. -/
def SpecTab (q : Bool) (W : Int) (rows : List Row1) (w : World) (e : Ending) (w' : World) : Prop :=
  ∃ (W1 : Int) (v : Value) (svs : List SV) (out : List Row1), e = .returned (.tuple #[.agg #[.int .i64 W1, v], .bool q]) ∧ TabD q W rows W1 out ∧ Ow w.heap.size 104 1 svC w' v svs ∧ RowsT 55 2 valC 0 w' svs out ∧ Below w.heap.size w w'
theorem SpecTab.no {W : Int} {rows : List Row1} {w w' : World} (hb : Below w.heap.size w w') : SpecTab false W rows w (.returned (.tuple #[.agg #[.int .i64 0, .slice none 0 0], .bool false])) w' :=
  ⟨0, _, [], [], rfl, .inl ⟨rfl, rfl, rfl⟩, Ow.nil, RowsT.nil, hb⟩

end Go.Proofs.YtlhonhacehgooaaGreat

/-
  Contracts of the reference's validJoin, matches, keepRows, hasNull.
-/
namespace Go.Proofs.YtlhonhacehgooaaGreat
open Go.RowKit Go.Qo
set_option linter.unusedVariables false
set_option linter.unusedSimpArgs false

set_option maxRecDepth 20000 in
set_option maxHeartbeats 2000000 in
theorem specValidJoin_ok (W W' : Int) (A A' : Option Addr) (c c' : Nat) (xs ys : List Row1) (ca cb : Int) (w : World) (hn : xs.length ≤ 1048576) (hn' : ys.length ≤ 1048576) (h : Rws w w.heap.size A xs) (h' : Rws w w.heap.size A' ys) (q : Bool) (hq : q = true ↔ ((TabOk W xs ∧ 0 ≤ ca ∧ ca < W) ∧ (TabOk W' ys ∧ 0 ≤ cb ∧ cb < W'))) :
    Calls Tryz.prog 64 #[.agg #[.int .i64 W, .slice A xs.length c], .agg #[.int .i64 W', .slice A' ys.length c'], .int .i64 ca, .int .i64 cb] w fun e w' => e = .returned (.bool q) ∧ Below w.heap.size w w' := by
  have Hq := Lib.hid hq
  obtain ⟨t1, ht1⟩ : ∃ q : Bool, q = true ↔ TabOk W xs := ⟨_, @decide_eq_true_iff _ (Classical.propDecidable _)⟩
  obtain ⟨t2, ht2⟩ : ∃ q : Bool, q = true ↔ TabOk W' ys := ⟨_, @decide_eq_true_iff _ (Classical.propDecidable _)⟩
  obtain ⟨W0, hW0⟩ : ∃ z, (w.alloc (.cells #[.int .i64 W, .slice A xs.length c] 32)).alloc (.cells #[.int .i64 W', .slice A' ys.length c'] 32) = z := ⟨_, rfl⟩
  have B0 : Below w.heap.size w W0 := by rw [← hW0]; exact balloc (balloc (Below.refl _ _) _) _
  have r0 : Row W0 w.heap.size 32 [.int .i64 W, .slice A xs.length c] := by rw [← hW0]; exact Row.first _ _ _ _
  have r1 : Row W0 (w.heap.size + 1) 32 [.int .i64 W', .slice A' ys.length c'] := by rw [← hW0]; exact Row.second _ _ _ _
  have H1 := Lib.hid (specValidTable_ok W A c xs W0 (by unfold maxLen; omega) (h.on B0) t1 ht1)
  have H2 := Lib.hid (fun (z : World) (hz : Below W0.heap.size W0 z) => specValidTable_ok W' A' c' ys z (by unfold maxLen; omega) (h'.on (bch B0 hz)) t2 ht2)
  have BX := Lib.hid (fun (z : World) (hz : Below W0.heap.size W0 z) => show (z.cell? ⟨w.heap.size, 0, none⟩ = some (.int .i64 W) ∧ z.cell? ⟨w.heap.size, 1, none⟩ = some (.slice A xs.length c) ∧ z.cell? ⟨w.heap.size + 1, 0, none⟩ = some (.int .i64 W') ∧ z.cell? ⟨w.heap.size + 1, 1, none⟩ = some (.slice A' ys.length c'))
    from ⟨(r0.on hz).cell 0, (r0.on hz).cell 1, (r1.on hz).cell 0, (r1.on hz).cell 1⟩)
  have HQ1 := Lib.hid ht1
  have HQ2 := Lib.hid ht2
  have HW := Lib.hid hW0
  have HB0 := Lib.hid B0
  have z0 := BX.out _ (Below.refl _ _)
  clear hq ht1 ht2 h h' B0 r0 r1 hW0
  cases t1
  · have hf : q = false := bfalse Hq.out fun ht => by have := HQ1.out.2 ht.1.1; cases this
    subst hf
    go_enter Tryz.func64, Tryz.ntmps64
    go_upto_region 1 with fail
    rw [HW.out]
    go_wp2_with fail
    refine H1.out.mono ?_
    rintro e w1 ⟨rfl, hb1⟩
    have H1' := Lib.hid (bch HB0.out hb1)
    clear hb1 z0
    go_wp2
    go_ret
    exact ⟨rfl, H1'.out⟩
  · cases t2
    · have hf : q = false := bfalse Hq.out fun ht => by have := HQ2.out.2 ht.2.1; cases this
      subst hf
      go_enter Tryz.func64, Tryz.ntmps64
      go_upto_region 1 with fail
      rw [HW.out]
      go_wp2_with fail
      refine H1.out.mono ?_
      rintro e w1 ⟨rfl, hb1⟩
      have HB1 := Lib.hid hb1
      have z1 := BX.out _ hb1
      clear hb1 z0
      go_wp2_with fail
      refine (H2.out _ HB1.out).mono ?_
      rintro e w2 ⟨rfl, hb2⟩
      have H1' := Lib.hid (bch HB0.out (bch HB1.out hb2))
      clear hb2 z1
      go_wp2
      go_ret
      exact ⟨rfl, H1'.out⟩
    · have hT1 := HQ1.out.1 rfl
      have hT2 := HQ2.out.1 rfl
      have hw1 : 1 ≤ W ∧ W ≤ 6 := ⟨hT1.1, hT1.2.1⟩
      have hw2 : 1 ≤ W' ∧ W' ≤ 6 := ⟨hT2.1, hT2.2.1⟩
      have hwa : IntKind.i64.wrap (W - 1) = W - 1 := IntWalk.i64_in _ (by omega)
      have hwb : IntKind.i64.wrap (W' - 1) = W' - 1 := IntWalk.i64_in _ (by omega)
      obtain ⟨q1, hq1⟩ : ∃ q, (decide (0 ≤ ca) && decide (ca ≤ W - 1)) = q := ⟨_, rfl⟩
      obtain ⟨q2, hq2⟩ : ∃ q, (decide (0 ≤ cb) && decide (cb ≤ W' - 1)) = q := ⟨_, rfl⟩
      have HI1 := Lib.hid (fun z => inRange_ok ca 0 (W - 1) z q1 hq1)
      have HI2 := Lib.hid (fun z => inRange_ok cb 0 (W' - 1) z q2 hq2)
      have hqq : q = (q1 && q2) := by
        rw [Bool.eq_iff_iff, Hq.out, ← hq1, ← hq2]
        simp only [Bool.and_eq_true, decide_eq_true_eq]
        constructor
        · rintro ⟨⟨_, a, b⟩, ⟨_, c, d⟩⟩
          exact ⟨⟨a, by omega⟩, ⟨c, by omega⟩⟩
        · rintro ⟨⟨a, b⟩, ⟨c, d⟩⟩
          exact ⟨⟨hT1, a, by omega⟩, ⟨hT2, c, by omega⟩⟩
      have HQQ := Lib.hid hqq
      clear hqq hq1 hq2 hT1 hT2 hw1 hw2
      cases q1
      all_goals
        go_enter Tryz.func64, Tryz.ntmps64
        go_upto_region 1 with fail
        rw [HW.out]
        go_wp2_with fail
        refine H1.out.mono ?_
        rintro e w1 ⟨rfl, hb1⟩
        have HB1 := Lib.hid hb1
        have z1 := BX.out _ hb1
        clear hb1 z0
        go_wp2_with fail
        refine (H2.out _ HB1.out).mono ?_
        rintro e w2 ⟨rfl, hb2⟩
        have HB2 := Lib.hid (bch HB1.out hb2)
        have z2 := BX.out _ HB2.out
        clear hb2 z1
        go_wp2_with fail
        refine (HI1.out _).mono ?_
        rintro e w3 ⟨rfl, rfl⟩
        go_wp2_with fail
        first
          | (go_ret
             exact ⟨ret_bool (by rw [HQQ.out]; simp), bch HB0.out HB2.out⟩)
          | (refine (HI2.out _).mono ?_
             rintro e w4 ⟨rfl, rfl⟩
             go_wp2
             go_ret
             exact ⟨ret_bool (by rw [HQQ.out]; simp), bch HB0.out HB2.out⟩)

end Go.Proofs.YtlhonhacehgooaaGreat

/-
  Contract of MergeJoin: the reference's; and of the reference's concat.
-/
namespace Go.Proofs.YtlhonhacehgooaaGreat
open Go.RowKit Go.Qo
set_option linter.unusedVariables false
set_option linter.unusedSimpArgs false

theorem cellAt {W : Int} {rows : List Row1} {A : Option Addr} {cn i : Nat} {z : World} (h : Rws z z.heap.size A rows) (hr : ∀ r ∈ rows, RowOk W r) (hc : (cn : Int) < W) (hi : i < rows.length) :
    ∃ b o b2 o2 C, A = some ⟨b, o, none⟩ ∧ b < z.heap.size ∧ z.cell? ⟨b, o + i, none⟩ = some (.slice (some ⟨b2, o2, none⟩) (rwAt rows (i : Int)).length C) ∧ b2 < z.heap.size ∧ z.cell? ⟨b2, o2 + cn * 2, none⟩ = some (.bool (nul rows cn i)) ∧
      z.cell? ⟨b2, o2 + cn * 2 + 1, none⟩ = some (.int .i64 (nAt rows cn (i : Int))) ∧ (cn : Int) < ((rwAt rows (i : Int)).length : Int) ∧ (rwAt rows (i : Int)).length ≤ 6 ∧ C ≤ maxLen ∧ Sl 2 valC z z.heap.size (some ⟨b2, o2, none⟩) (rwAt rows (i : Int)) := by
  have hx := List.getElem?_eq_getElem hi
  have hxo := hr _ (List.getElem_mem hi)
  obtain ⟨b, o, A3, C3, hA, hB, c3, _, hm, s3⟩ := h.at_ hi
  rw [rwAt_nat hi]
  have hx6 := (rowValid_len hxo.1).2
  have hcx : cn < rows[i].length := by have := hxo.2; omega
  obtain ⟨b4, o4, hA4, hB4, d0, d1⟩ := Val.at_ s3 hcx
  subst hA4
  rw [nul_eq hx (List.getElem?_eq_getElem hcx), nAt_eq hx (List.getElem?_eq_getElem hcx)]
  exact ⟨b, o, b4, o4, C3, hA, hB, c3, hB4, d0, d1, by omega, hx6, hm, s3⟩

set_option maxHeartbeats 1000000 in
theorem specConcat_ok (A A' : Option Addr) (c c' : Nat) (xs ys : List Val) (w : World) (hn : xs.length ≤ 1048576) (hn' : ys.length ≤ 1048576) (h : Sl 2 valC w w.heap.size A xs) (h' : Sl 2 valC w w.heap.size A' ys) :
    Calls Tryz.prog 66 #[.slice A xs.length c, .slice A' ys.length c'] w (OneRow (xs ++ ys) w) := by
  have HC := Lib.hid (copyRow_ok A c xs w hn h)
  have H' := Lib.hid h'
  clear h h'
  go_enter Tryz.func66, Tryz.ntmps66
  go_wp2_with fail
  refine HC.out.mono ?_
  rintro e w1 ⟨v1, rfl, how1, hb1⟩
  obtain ⟨A1, c1, rfl, _, _, _⟩ := how1.shape valC_length
  have HO := Lib.hid (And.intro how1 hb1)
  have S1 := Lib.hid (H'.out.on hb1)
  have hz := hb1.size
  clear how1 hb1
  go_wp2_with (at_builtin; refine wpList_app rfl (.tmp 6) (.tmp 7) 104 rfl w.heap.size 55 _ 2 16 valC Tryz.underlying104 zeroVal rfl (by decide) (by decide) valC_length valC_one _ xs rfl HO.out.1 A' ys.length c' ys rfl rfl S1.out (by omega) hz ?_; intro v2 w2 how2 hgr2)
  go_ret
  exact ⟨_, rfl, how2, HO.out.2.grown hgr2 hz fun b hb => (HO.out.1.ty b hb).1⟩

theorem resSpecMj {b : Nat} {v0 v1 : Value} {r : Bool} (tmps : Array Value) (hp : tmps.getD 8 undef = .pointer (some ⟨b, 0, none⟩)) (hr : tmps.getD 9 undef = .bool r) (w : World) (c0 : w.cell? ⟨b, 0, none⟩ = some v0) (c1 : w.cell? ⟨b, 1, none⟩ = some v1) :
    (results Tryz.f25 tmps).run Tryz.prog w = .ok (.tuple #[.agg #[v0, v1], .bool r]) w := by
  simp only [Array.getD_eq_getD_getElem?] at hp hr
  simp [results, Tryz.results25, go_sem, hp, hr, c0, c1]

set_option maxRecDepth 20000 in
set_option maxHeartbeats 8000000 in
theorem specMergeJoin_ok (W W' : Int) (A A' : Option Addr) (c c' : Nat) (xs ys : List Row1) (ca cb : Int) (w : World) (hn : xs.length ≤ 1048576) (hn' : ys.length ≤ 1048576) (h : Rws w w.heap.size A xs) (h' : Rws w w.heap.size A' ys)
    (q : Bool) (hq : q = true ↔ (((TabOk W xs ∧ 0 ≤ ca ∧ ca < W) ∧ (TabOk W' ys ∧ 0 ≤ cb ∧ cb < W')) ∧ W + W' ≤ 6)) :
    Calls Tryz.prog 25 #[.agg #[.int .i64 W, .slice A xs.length c], .agg #[.int .i64 W', .slice A' ys.length c'], .int .i64 ca, .int .i64 cb] w (SpecTab q (W + W') (mjAll xs ys ca.toNat cb.toNat) w) := by
  have Hq := Lib.hid hq
  obtain ⟨W0, hW0⟩ : ∃ z, ((w.alloc (.cells #[.int .i64 W, .slice A xs.length c] 32)).alloc (.cells #[.int .i64 W', .slice A' ys.length c'] 32)).alloc (.cells #[.int .i64 0, .slice none 0 0] 32) = z := ⟨_, rfl⟩
  have B0 : Below w.heap.size w W0 := by rw [← hW0]; exact balloc (balloc (balloc (Below.refl _ _) _) _) _
  have r0 : Row W0 w.heap.size 32 [.int .i64 W, .slice A xs.length c] := by rw [← hW0]; exact ((Row.new _ _ _).alloc _).alloc _
  have r1 : Row W0 (w.heap.size + 1) 32 [.int .i64 W', .slice A' ys.length c'] := by rw [← hW0]; exact (Row.second _ _ _ _).alloc _
  have r2 : Row W0 (w.heap.size + 2) 32 [.int .i64 0, .slice none 0 0] := by rw [← hW0]; exact Row.third _ _ _ _ _
  obtain ⟨t, ht⟩ : ∃ t : Bool, t = true ↔ ((TabOk W xs ∧ 0 ≤ ca ∧ ca < W) ∧ (TabOk W' ys ∧ 0 ≤ cb ∧ cb < W')) := ⟨_, @decide_eq_true_iff _ (Classical.propDecidable _)⟩
  have H1 := Lib.hid (specValidJoin_ok W W' A A' c c' xs ys ca cb W0 hn hn' (h.on B0) (h'.on B0) t ht)
  have Ht := Lib.hid ht
  have HH := Lib.hid (And.intro h h')
  have HW := Lib.hid hW0
  have HB0 := Lib.hid B0
  have HR0 := Lib.hid (And.intro r0 (And.intro r1 r2))
  have a0 : W0.cell? ⟨w.heap.size, 0, none⟩ = some (.int .i64 W) := r0.cell 0
  have a1 : W0.cell? ⟨w.heap.size, 1, none⟩ = some (.slice A xs.length c) := r0.cell 1
  have b0 : W0.cell? ⟨w.heap.size + 1, 0, none⟩ = some (.int .i64 W') := r1.cell 0
  have b1 : W0.cell? ⟨w.heap.size + 1, 1, none⟩ = some (.slice A' ys.length c') := r1.cell 1
  have NO := Lib.hid (fun (w2 : World) (H2 : Below w.heap.size w w2) => show SpecTab false (W + W') (mjAll xs ys ca.toNat cb.toNat) w (.returned (.tuple #[.agg #[.int .i64 0, .slice none 0 0], .bool false])) ((w2.setCell ⟨w.heap.size + 2, 0, none⟩ (.int .i64 0)).setCell ⟨w.heap.size + 2, 1, none⟩ (.slice none 0 0)) from
    SpecTab.no ((H2.setCell (p := ⟨w.heap.size + 2, 0, none⟩) (by simp) _).setCell (p := ⟨w.heap.size + 2, 1, none⟩) (by simp) _))
  clear hq ht h h' B0 r0 r1 r2 hW0
  cases t
  · have hf : q = false := bfalse Hq.out fun ht => by have := Ht.out.2 ht.1; cases this
    subst hf
    go_enter Tryz.func25, Tryz.ntmps25
    go_upto_region 1 with fail
    rw [HW.out]
    go_wp2_with fail
    refine H1.out.mono ?_
    rintro e w1 ⟨rfl, hb1⟩
    have r2 := HR0.out.2.2.on hb1
    have e0 : w1.cell? ⟨w.heap.size + 2, 0, none⟩ = some (.int .i64 0) := r2.cell 0
    have e1 : w1.cell? ⟨w.heap.size + 2, 1, none⟩ = some (.slice none 0 0) := r2.cell 1
    have f0 := r2.frozen 0
    have f1 := r2.frozen 1
    have l2 := r2.lt
    have H1' := Lib.hid (bch HB0.out hb1)
    clear hb1 r2 a0 a1 b0 b1
    go_wp2
    refine bodyPost_ret (resSpecMj (b := w.heap.size + 2) (r := false) _ rfl rfl _ (v0 := .int .i64 0) (v1 := .slice none 0 0) (by simp [go_sem, e0, e1, l2]) (by simp [go_sem, e0, e1, l2])) rfl ?_
    exact NO.out _ H1'.out
  · obtain ⟨⟨hT1, hca0, hca1⟩, ⟨hT2, hcb0, hcb1⟩⟩ := Ht.out.1 rfl
    have hW1 := hT1.1
    have hW6 : W ≤ 6 := hT1.2.1
    have hW1' := hT2.1
    have hW6' : W' ≤ 6 := hT2.2.1
    by_cases h6 : W + W' ≤ 6
    · have hf : q = true := Hq.out.2 ⟨Ht.out.1 rfl, h6⟩
      subst hf
      obtain ⟨ci, rfl⟩ := Int.eq_ofNat_of_zero_le hca0
      obtain ⟨cj, rfl⟩ := Int.eq_ofNat_of_zero_le hcb0
      rw [Int.toNat_natCast, Int.toNat_natCast] at *
      have h6' : ¬ (6 < W + W') := by omega
      have hx4 : xs.length ≤ 400 := hT1.2.2.1
      have hy4 : ys.length ≤ 400 := hT2.2.2.1
      have HRx := Lib.hid (tabRows1 hT1)
      have HRy := Lib.hid (tabRows1 hT2)
      have K1 := Lib.hid (fun (z : World) (hz : Below w.heap.size w z) => specIndexOf_ok W ci A c xs z hn (HH.out.1.on hz) true (by simp only [true_iff]; exact ⟨hT1, hca0, hca1⟩))
      have K2 := Lib.hid (fun (z : World) (hz : Below w.heap.size w z) => specIndexOf_ok W' cj A' c' ys z hn' (HH.out.2.on hz) true (by simp only [true_iff]; exact ⟨hT2, hcb0, hcb1⟩))
      simp only [if_true, Int.toNat_natCast] at K1 K2
      obtain ⟨x, hx⟩ : ∃ x, idxOf xs ci = x := ⟨_, rfl⟩
      obtain ⟨y, hy⟩ : ∃ y, idxOf ys cj = y := ⟨_, rfl⟩
      have hxl : x.length ≤ 400 := by rw [← hx]; have := idxOf_len (rows := xs) (cn := ci); omega
      have hyl : y.length ≤ 400 := by rw [← hy]; have := idxOf_len (rows := ys) (cn := cj); omega
      have HXi := Lib.hid (show ∀ i ∈ x, InR xs.length i by rw [← hx]; exact idxOf_in)
      have HYi := Lib.hid (show ∀ i ∈ y, InR ys.length i by rw [← hy]; exact idxOf_in)
      obtain ⟨G, hG⟩ : ∃ G, mjAll xs ys ci cj = G := ⟨_, rfl⟩
      have HGl := Lib.hid (show G.length ≤ 160000 by rw [← hG]; exact mjAll_len hx4 hy4)
      have HGr := Lib.hid (show ∀ r ∈ G, RowOk (W + W') r by rw [← hG]; exact mjAll_ok HRx.out HRy.out h6)
      have HG := Lib.hid (show G = mjRows xs ys ci cj x y by rw [← hG, ← hx, ← hy]; rfl)
      rw [hG]
      rw [hx] at K1
      rw [hy] at K2
      clear hT1 hT2 hx hy hG
      go_enter Tryz.func25, Tryz.ntmps25
      go_upto_region 1 with fail
      rw [HW.out]
      go_wp2_with fail
      refine H1.out.mono ?_
      rintro e w2 ⟨rfl, hb2⟩
      have H2 := Lib.hid (bch HB0.out hb2)
      have R2 := Lib.hid (And.intro (HR0.out.1.on hb2) (And.intro (HR0.out.2.1.on hb2) (HR0.out.2.2.on hb2)))
      clear hb2 a0 a1 b0 b1
      have a0 : w2.cell? ⟨w.heap.size, 0, none⟩ = some (.int .i64 W) := R2.out.1.cell 0
      have a1 : w2.cell? ⟨w.heap.size, 1, none⟩ = some (.slice A xs.length c) := R2.out.1.cell 1
      have b0 : w2.cell? ⟨w.heap.size + 1, 0, none⟩ = some (.int .i64 W') := R2.out.2.1.cell 0
      go_wp2_with fail
      refine (K1.out _ H2.out).mono ?_
      rintro e w3 ⟨v3, rfl, how3, hb3⟩
      obtain ⟨AX, cx, rfl, _, _, _⟩ := how3.shape intC_length
      have H3 := Lib.hid (bch H2.out hb3)
      have R3 := Lib.hid (And.intro (R2.out.1.on hb3) (And.intro (R2.out.2.1.on hb3) (R2.out.2.2.on hb3)))
      have SX3 := Lib.hid (owI_sl how3)
      clear hb3 how3 a0 a1 b0
      have b0 : w3.cell? ⟨w.heap.size + 1, 0, none⟩ = some (.int .i64 W') := R3.out.2.1.cell 0
      have b1 : w3.cell? ⟨w.heap.size + 1, 1, none⟩ = some (.slice A' ys.length c') := R3.out.2.1.cell 1
      go_wp2_with fail
      refine (K2.out _ H3.out).mono ?_
      rintro e wb ⟨v4, rfl, how4, hb4⟩
      obtain ⟨AY, cy, rfl, _, _, _⟩ := how4.shape intC_length
      have HB := Lib.hid (bch H3.out hb4)
      have RB := Lib.hid (And.intro (R3.out.1.on hb4) (And.intro (R3.out.2.1.on hb4) (R3.out.2.2.on hb4)))
      have SX := Lib.hid (SX3.out.on hb4)
      have SY := Lib.hid (owI_sl how4)
      have hwb : w.heap.size + 2 < wb.heap.size := RB.out.2.2.lt
      clear hb4 how4 b0 b1 SX3 R3 R2 H2 H3 K1 K2 H1 HR0
      go_wp2
      go_loopg [12, 13, 14] x.length (fun g v12 v13 v14 wr => ∃ (n f : Nat) (dn : List Row1) (svs : List SV), n ≤ x.length ∧ f ≤ y.length ∧ g = x.length - n ∧ v13 = .int .i64 f ∧ v14 = .int .i64 n ∧ Below wb.heap.size wb wr ∧ Ow wb.heap.size 104 1 svC wr v12 svs ∧ RowsT 55 2 valC 0 wr svs dn ∧ G = dn ++ mjRows xs ys ci cj (x.drop n) (y.drop f))
      case atStart => exact ⟨0, 0, [], [], by omega, by omega, by omega, rfl, rfl, balloc (Below.refl _ _) _, Ow.lit (xs := ([] : List SV)) rfl rfl (Nat.le_refl _) (by decide), RowsT.nil, HG.out⟩
      case round =>
        obtain ⟨n, f, dn, svs, hnx, hfy, rfl, rfl, rfl, hb, how, hrt, hg⟩ := hrel
        have HQ := Lib.hid (And.intro hb (And.intro how (And.intro hrt hg)))
        have hsz := hb.size
        obtain ⟨A5, c5, rfl, _, _, _⟩ := how.shape svC_length
        have a1 : wr.cell? ⟨w.heap.size, 1, none⟩ = some (.slice A xs.length c) := (RB.out.1.on hb).cell 1
        clear how hrt hg
        by_cases hlt : n < x.length
        · have hxe := Lib.hid (List.getElem?_eq_getElem hlt)
          have hxi := HXi.out _ (List.getElem_mem hlt)
          obtain ⟨gx, ox, hAX, hBx, hcx⟩ := SX.out.at_ hlt
          have e1b : wb.cell? ⟨gx, ox + n, none⟩ = some (.int .i64 x[n]) := by have := hcx 0 _ rfl; simpa using this
          generalize x[n] = ii at *
          obtain ⟨i, rfl⟩ := Int.eq_ofNat_of_zero_le hxi.1
          have hi1 : i < xs.length := by have := hxi.2; omega
          obtain ⟨b3, o3, b4, o4, C4, hA, hB3, c3b, hB4, d0, d1b, hcl, hL6, hCm, s4⟩ := cellAt (HH.out.1.on HB.out) HRx.out hca1 hi1
          subst hAX
          subst hA
          obtain ⟨L, hL⟩ : ∃ L, (rwAt xs (i : Int)).length = L := ⟨_, rfl⟩
          obtain ⟨N, hN⟩ : ∃ N, nAt xs ci (i : Int) = N := ⟨_, rfl⟩
          rw [hL] at c3b hcl hL6
          rw [hN] at d1b
          have e1 := (hb.cell (p := ⟨gx, _, none⟩) hBx).trans e1b
          have c3 := (hb.cell (p := ⟨b3, _, none⟩) hB3).trans c3b
          have d1 := (hb.cell (p := ⟨b4, _, none⟩) hB4).trans d1b
          have HL := Lib.hid (And.intro hL hN)
          have hlt5 : (n : Int) < (x.length : Int) := by omega
          have hi5 : (i : Int) < (xs.length : Int) := by omega
          have hci6 : ci ≤ 6 := by omega
          have p1 := fun z : Aft wr.heap.size wr => z.cell (by omega) a1
          have p2 := fun z : Aft wr.heap.size wr => z.cell (by omega) e1
          have p3 := fun z : Aft wr.heap.size wr => z.cell (by omega) c3
          have p4 := fun z : Aft wr.heap.size wr => z.cell (by omega) d1
          have HEL := Lib.hid (And.intro e1b (And.intro c3b (And.intro s4 hCm)))
          have hi400 : i ≤ 400 := by omega
          clear hxi hcx hb e1 c3 d0 d1 s4 hL hN a1 e1b c3b d1b hCm
          go_wp2
          refine wp_region_aft wr.heap.size (by kernel_rfl) (by kernel_rfl) ?_
          repeat (go_big_quiet_step (fail))
          refine wpQuiet_nil ?_
          intro w1 hw'
          obtain ⟨⟨_, hb1⟩, rfl⟩ := hw'
          have HB1 := Lib.hid hb1
          clear p1 p2 p3 p4 hb1
          go_wp2
          obtain ⟨wo, hwo⟩ : ∃ wo : World, wo = w1 := ⟨_, rfl⟩
          subst hwo
          go_loopg [13] (y.length - f) (fun g v13 wq => ∃ f2 : Nat, f2 ≤ y.length ∧ g = y.length - f2 ∧ v13 = .int .i64 f2 ∧ Below wo.heap.size wo wq ∧ (y.drop f).dropWhile (ltB xs ys ci cj (i : Int)) = (y.drop f2).dropWhile (ltB xs ys ci cj (i : Int)))
          case atStart => exact ⟨f, hfy, rfl, rfl, Below.refl _ _, rfl⟩
          case round =>
            obtain ⟨f2, hf2, rfl, rfl, hb2, hd⟩ := hrel
            have HD := Lib.hid (And.intro hb2 hd)
            have hba := bch HB.out (bch (bch HQ.out.1 HB1.out) hb2)
            have b1 : wr.cell? ⟨w.heap.size + 1, 1, none⟩ = some (.slice A' ys.length c') := (RB.out.2.1.on (bch (bch HQ.out.1 HB1.out) hb2)).cell 1
            have hz2 : wb.heap.size ≤ wr.heap.size := (bch (bch HQ.out.1 HB1.out) hb2).size
            clear hd
            by_cases hlt2 : f2 < y.length
            · have hye := Lib.hid (List.getElem?_eq_getElem hlt2)
              have hyi := HYi.out _ (List.getElem_mem hlt2)
              obtain ⟨gy, oy, hAY, hBy, hcy⟩ := SY.out.at_ hlt2
              have e1b : wb.cell? ⟨gy, oy + f2, none⟩ = some (.int .i64 y[f2]) := by have := hcy 0 _ rfl; simpa using this
              generalize y[f2] = jj at *
              obtain ⟨j, rfl⟩ := Int.eq_ofNat_of_zero_le hyi.1
              have hj1 : j < ys.length := by have := hyi.2; omega
              obtain ⟨b6, o6, b7, o7, C7, hA', hB6, c6b, hB7, d70, d71b, hcl7, hL7, hCm7, s7⟩ := cellAt (HH.out.2.on HB.out) HRy.out hcb1 hj1
              subst hAY
              subst hA'
              obtain ⟨L7, hL7e⟩ : ∃ L, (rwAt ys (j : Int)).length = L := ⟨_, rfl⟩
              obtain ⟨M, hM⟩ : ∃ N, nAt ys cj (j : Int) = N := ⟨_, rfl⟩
              rw [hL7e] at c6b hcl7 hL7
              rw [hM] at d71b
              have hbb := bch (bch HQ.out.1 HB1.out) hb2
              have e1 := (hbb.cell (p := ⟨gy, _, none⟩) hBy).trans e1b
              have c6 := (hbb.cell (p := ⟨b6, _, none⟩) hB6).trans c6b
              have d71 := (hbb.cell (p := ⟨b7, _, none⟩) hB7).trans d71b
              have HM := Lib.hid hM
              have hf5 : (f2 : Int) < (y.length : Int) := by omega
              have hj5 : (j : Int) < (ys.length : Int) := by omega
              have hcj6 : cj ≤ 6 := by omega
              have hj400 : j ≤ 400 := by omega
              have p1 := fun z : Aft wr.heap.size wr => z.cell (by omega) b1
              have p2 := fun z : Aft wr.heap.size wr => z.cell (by omega) e1
              have p3 := fun z : Aft wr.heap.size wr => z.cell (by omega) c6
              have p4 := fun z : Aft wr.heap.size wr => z.cell (by omega) d71
              clear hyi hcy hb2 e1 c6 d70 d71 s7 hL7e hM b1 hba hbb e1b c6b d71b hCm7
              by_cases hlm : M < N
              · go_wp2
                refine wp_region_aft wr.heap.size (by kernel_rfl) (by kernel_rfl) ?_
                repeat (go_big_quiet_step (fail))
                refine wpQuiet_nil ?_
                intro w3 hw'
                obtain ⟨⟨_, hb3⟩, rfl⟩ := hw'
                have HB3 := Lib.hid hb3
                clear p1 p2 p3 p4 hb3
                go_wp2
                go_roundg (y.length - (f2 + 1))
                case measure => omega
                case rel => exact ⟨f2 + 1, by omega, rfl, by go_num, bch HD.out.1 HB3.out, HD.out.2.trans (dropW_step hye.out (by unfold ltB; rw [HM.out, HL.out.2]; exact decide_eq_true hlm))⟩
              · go_wp2
                refine wp_region_aft wr.heap.size (by kernel_rfl) (by kernel_rfl) ?_
                repeat (go_big_quiet_step (fail))
                refine wpQuiet_nil ?_
                intro w3 hw'
                obtain ⟨⟨_, hb3⟩, rfl⟩ := hw'
                have HB3 := Lib.hid (bch HD.out.1 hb3)
                have HE := Lib.hid (HD.out.2.trans (dropW_stop hye.out (by unfold ltB; rw [HM.out, HL.out.2]; exact decide_eq_false (by omega))))
                clear p1 p2 p3 p4 hb3
                go_wp2
                obtain ⟨wi, hwi⟩ : ∃ wi : World, wi = w3 := ⟨_, rfl⟩
                subst hwi
                have HWI := Lib.hid (show Below wo.heap.size wo wi from HB3.out)
                have HOI := Lib.hid (And.intro ((HQ.out.2.1.on HB1.out).on HWI.out) ((HQ.out.2.2.1.on HB1.out).on HWI.out))
                have hG2 : G = dn ++ (mjOne xs ys ci cj (i : Int) (y.drop f2) ++ mjRows xs ys ci cj (x.drop (n + 1)) (y.drop f2)) := by rw [HQ.out.2.2.2, mjRows_cons hxe.out HE.out]
                have HG2 := Lib.hid hG2
                have HBI := Lib.hid (show Below wb.heap.size wb wi from bch (bch HQ.out.1 HB1.out) HWI.out)
                clear hG2
                go_loopg [12, 16] (y.length - f2) (fun g v12 v16 wq => ∃ (k : Nat) (dk : List Row1) (svk : List SV), k ≤ y.length ∧ g = y.length - k ∧ v16 = .int .i64 k ∧ Below wb.heap.size wb wq ∧ Ow wb.heap.size 104 1 svC wq v12 svk ∧ RowsT 55 2 valC 0 wq svk dk ∧ G = dk ++ (mjOne xs ys ci cj (i : Int) (y.drop k) ++ mjRows xs ys ci cj (x.drop (n + 1)) (y.drop f2)))
                case atStart => exact ⟨f2, dn, svs, hf2, rfl, rfl, HBI.out, HOI.out.1, HOI.out.2, HG2.out⟩
                case round =>
                  obtain ⟨k, dk, svk, hky, rfl, rfl, hbk, howk, hrtk, hgk⟩ := hrel
                  have HK := Lib.hid (And.intro hbk (And.intro howk (And.intro hrtk hgk)))
                  have hba := bch HB.out hbk
                  have hz2 : wb.heap.size ≤ wr.heap.size := hbk.size
                  obtain ⟨AK, ck, rfl, _, _, _⟩ := howk.shape svC_length
                  have a1 : wr.cell? ⟨w.heap.size, 1, none⟩ = some (.slice (some ⟨b3, o3, none⟩) xs.length c) := (RB.out.1.on hbk).cell 1
                  have b1 : wr.cell? ⟨w.heap.size + 1, 1, none⟩ = some (.slice (some ⟨b6, o6, none⟩) ys.length c') := (RB.out.2.1.on hbk).cell 1
                  clear howk hrtk hgk
                  by_cases hlt3 : k < y.length
                  · have hyk := Lib.hid (List.getElem?_eq_getElem hlt3)
                    have hyi := HYi.out _ (List.getElem_mem hlt3)
                    obtain ⟨gz, oz, hAZ, hBz, hcz⟩ := SY.out.at_ hlt3
                    have e1b : wb.cell? ⟨gz, oz + k, none⟩ = some (.int .i64 y[k]) := by have := hcz 0 _ rfl; simpa using this
                    generalize y[k] = jj at *
                    obtain ⟨j3, rfl⟩ := Int.eq_ofNat_of_zero_le hyi.1
                    have hj1 : j3 < ys.length := by have := hyi.2; omega
                    obtain ⟨b8, o8, b9, o9, C9, hA8, hB8, c8b, hB9, d90, d91b, hcl9, hL9, hCm9, s9⟩ := cellAt (HH.out.2.on HB.out) HRy.out hcb1 hj1
                    cases hAZ
                    cases hA8
                    obtain ⟨L9, hL9e⟩ : ∃ L, (rwAt ys (j3 : Int)).length = L := ⟨_, rfl⟩
                    obtain ⟨M3, hM3⟩ : ∃ N, nAt ys cj (j3 : Int) = N := ⟨_, rfl⟩
                    rw [hL9e] at c8b hcl9 hL9
                    rw [hM3] at d91b
                    have e1 := (hbk.cell (p := ⟨gy, _, none⟩) hBz).trans e1b
                    have c8 := (hbk.cell (p := ⟨b6, _, none⟩) hB8).trans c8b
                    have d91 := (hbk.cell (p := ⟨b9, _, none⟩) hB9).trans d91b
                    have HM3 := Lib.hid hM3
                    have hk5 : (k : Int) < (y.length : Int) := by omega
                    have hj35 : (j3 : Int) < (ys.length : Int) := by omega
                    have hcj6 : cj ≤ 6 := by omega
                    have hj3400 : j3 ≤ 400 := by omega
                    have p1 := fun z : Aft wr.heap.size wr => z.cell (by omega) b1
                    have p2 := fun z : Aft wr.heap.size wr => z.cell (by omega) e1
                    have p3 := fun z : Aft wr.heap.size wr => z.cell (by omega) c8
                    have p4 := fun z : Aft wr.heap.size wr => z.cell (by omega) d91
                    have HZ := Lib.hid (And.intro e1b (And.intro c8b (And.intro s9 hL9e)))
                    clear hyi hcz e1 c8 d90 d91 s9 hL9e hM3 a1 b1 e1b c8b d91b hba hCm9
                    by_cases heq : M3 = N
                    · go_wp2
                      refine wp_region_aft wr.heap.size (by kernel_rfl) (by kernel_rfl) ?_
                      repeat (go_big_quiet_step (fail))
                      refine wpQuiet_nil ?_
                      intro w4 hw'
                      obtain ⟨⟨_, hb4⟩, rfl⟩ := hw'
                      have hxy : Below wb.heap.size wb w4 := bch hbk hb4
                      have HXY := Lib.hid hxy
                      have hz4 := hxy.size
                      have a1 : w4.cell? ⟨w.heap.size, 1, none⟩ = some (.slice (some ⟨b3, o3, none⟩) xs.length c) := (RB.out.1.on hxy).cell 1
                      have b1 : w4.cell? ⟨w.heap.size + 1, 1, none⟩ = some (.slice (some ⟨b6, o6, none⟩) ys.length c') := (RB.out.2.1.on hxy).cell 1
                      have e1 := (hxy.cell (p := ⟨gx, _, none⟩) hBx).trans HEL.out.1
                      have e2 := (hxy.cell (p := ⟨gy, _, none⟩) hBz).trans HZ.out.1
                      have c3 := (hxy.cell (p := ⟨b3, _, none⟩) hB3).trans HEL.out.2.1
                      have c8 := (hxy.cell (p := ⟨b6, _, none⟩) hB8).trans HZ.out.2.1
                      have g1 : gx < w4.heap.size := by omega
                      have g2 : gy < w4.heap.size := by omega
                      have g3 : b3 < w4.heap.size := by omega
                      have g4 : b6 < w4.heap.size := by omega
                      have HC := specConcat_ok (some ⟨b4, o4, none⟩) (some ⟨b9, o9, none⟩) C4 C9 (rwAt xs (i : Int)) (rwAt ys (j3 : Int)) w4.drew (by have := HL.out.1; omega) (by have := HZ.out.2.2.2; omega) (HEL.out.2.2.1.on hxy.drew) (HZ.out.2.2.1.on hxy.drew)
                      rw [HL.out.1, HZ.out.2.2.2] at HC
                      obtain ⟨R, hR⟩ : ∃ R, rwAt xs (i : Int) ++ rwAt ys (j3 : Int) = R := ⟨_, rfl⟩
                      rw [hR] at HC
                      have HC := Lib.hid HC
                      have HR := Lib.hid hR
                      have HO4 := Lib.hid (And.intro (HK.out.2.1.on hb4) (HK.out.2.2.1.on hb4))
                      have hsv9 : svk.length ≤ 160000 := by
                        have h1 := HK.out.2.2.1.1
                        have h2 := congrArg List.length HK.out.2.2.2
                        rw [List.length_append] at h2
                        have := HGl.out
                        omega
                      clear p1 p2 p3 p4 hb4 hxy hR
                      have KF := Lib.hid (fun (z : World) (hz : Below wb.heap.size wb z) => show (z.cell? ⟨w.heap.size, 1, none⟩ = some (.slice (some ⟨b3, o3, none⟩) xs.length c) ∧ z.cell? ⟨gx, ox + n, none⟩ = some (.int .i64 (i : Int)) ∧ z.cell? ⟨b3, o3 + i, none⟩ = some (.slice (some ⟨b4, o4, none⟩) L C4) ∧ z.cell? ⟨w.heap.size + 1, 1, none⟩ = some (.slice (some ⟨b6, o6, none⟩) ys.length c') ∧ z.cell? ⟨gy, oy + k, none⟩ = some (.int .i64 (j3 : Int)) ∧ z.cell? ⟨b6, o6 + j3, none⟩ = some (.slice (some ⟨b9, o9, none⟩) L9 C9))
                        from ⟨(RB.out.1.on hz).cell 1, (hz.cell (p := ⟨gx, _, none⟩) hBx).trans HEL.out.1, (hz.cell (p := ⟨b3, _, none⟩) hB3).trans HEL.out.2.1, (RB.out.2.1.on hz).cell 1, (hz.cell (p := ⟨gy, _, none⟩) hBz).trans HZ.out.1, (hz.cell (p := ⟨b6, _, none⟩) hB8).trans HZ.out.2.1⟩)
                      clear a1 b1 e1 e2 c3 c8
                      have HW4d := Lib.hid (show Below wb.heap.size wb w4.drew from HXY.out.drew)
                      have y4 := KF.out _ HW4d.out
                      go_wp2
                      go_region_held3 (fun z => z.cell? ⟨w.heap.size, 1, none⟩ = some (.slice (some ⟨b3, o3, none⟩) xs.length c) ∧ z.cell? ⟨gx, ox + n, none⟩ = some (.int .i64 (i : Int)) ∧ z.cell? ⟨b3, o3 + i, none⟩ = some (.slice (some ⟨b4, o4, none⟩) L C4) ∧ z.cell? ⟨w.heap.size + 1, 1, none⟩ = some (.slice (some ⟨b6, o6, none⟩) ys.length c') ∧ z.cell? ⟨gy, oy + k, none⟩ = some (.int .i64 (j3 : Int)) ∧ z.cell? ⟨b6, o6 + j3, none⟩ = some (.slice (some ⟨b9, o9, none⟩) L9 C9))
                        (first | assumption | exact KF.out _ (bch HXY.out HB5.out) | exact KF.out _ (balloc (bch HXY.out HB5.out) _) | exact KF.out _ HW6.out)
                        (first
                          | (go_at_call 66; refine HC.out.mono ?_; rintro e w5 ⟨v5, rfl, how5, hb5'⟩; have hb5 : Below w4.heap.size w4 w5 := (Below.refl _ w4).drew.trans hb5'; obtain ⟨A5', c5', rfl, hc51, hc52, hs5⟩ := how5.shape valC_length; have HB5 := Lib.hid hb5; have HO5 := Lib.hid ((HO4.out.1.on hb5).on (balloc (Below.refl _ _) (.cells #[.slice A5' R.length c5'] 104))); have HS5 := Lib.hid (Row.sl' (w := w5.alloc (.cells #[.slice A5' R.length c5'] 104)) (t := 104) (xs := [(⟨A5', R.length, c5'⟩ : SV)]) svC_length ((Row.new w5 _ _).of rfl)); have hz5 : w4.heap.size ≤ w5.heap.size := hb5.size; have hsz5 : wb.heap.size ≤ (w5.alloc (.cells #[.slice A5' R.length c5'] 104)).heap.size := (by simp; omega); have HX5 := Lib.hid (And.intro hs5 (And.intro hc51 hc52)); have y5 := KF.out _ (bch HXY.out HB5.out); clear hb5 hb5' how5 hs5 hc51 hc52)
                          | (refine step_app rfl (.tmp 102) (.tmp 120) 30 rfl wb.heap.size 104 _ 1 24 svC Tryz.underlying30 zeroRow rfl (by decide) (by decide) svC_length svC_one _ svk rfl HO5.out (some ⟨w5.heap.size, 0, none⟩) 1 1 [(⟨A5', R.length, c5'⟩ : SV)] rfl rfl HS5.out (by simp <;> omega) hsz5 ?_; intro v6 w6 how6 hgr6; have HW6 := Lib.hid (show Below wb.heap.size wb w6 from (balloc (bch HXY.out HB5.out) _).grown hgr6 hsz5 fun q hq => (HO5.out.ty q hq).1); have Hw6 := Lib.hid (And.intro how6 hgr6); have y6 := KF.out _ HW6.out; clear how6 hgr6))
                      all_goals (
                        go_wp2
                        go_roundg (y.length - (k + 1))
                        case measure => omega
                        case rel =>
                          obtain ⟨how6, hgr6⟩ := Hw6.out
                          have hS2 := balloc (Below.refl _ w5) (.cells #[.slice A5' R.length c5'] 104)
                          have hrow : ∀ q, Value.ownBlock _ = some q → wb.heap.size ≤ q ∧ TyAt _ q 104 := fun q hq => ⟨(HO5.out.ty q hq).1, (HO5.out.ty q hq).2.2⟩
                          have hT6 := ((HO4.out.2.on HB5.out).on hS2).grown hgr6 fun q hq => .inr ⟨_, by decide, (hrow q hq).2⟩
                          have hs6 := ((HX5.out.1.on hS2).grown hgr6 fun q hq => .inr ⟨_, by decide, (hrow q hq).2⟩).low (Nat.zero_le _)
                          refine ⟨k + 1, dk ++ [R], svk ++ [⟨A5', R.length, c5'⟩], by omega, rfl, by go_num, ?_, how6, hT6.snoc rfl HX5.out.2.1 HX5.out.2.2 hs6, ?_⟩
                          · exact (bch (bch HXY.out HB5.out) hS2).grown hgr6 hsz5 fun q hq => (hrow q hq).1
                          · rw [HK.out.2.2.2, mjOne_step hyk.out (by unfold eqB; rw [HM3.out, HL.out.2]; exact decide_eq_true (by omega))]
                            have e : catAt xs ys (i : Int) (j3 : Int) = R := HR.out
                            rw [e]
                            simp only [List.append_assoc, List.cons_append, List.nil_append])
                    · go_wp2
                      refine wp_region_aft wr.heap.size (by kernel_rfl) (by kernel_rfl) ?_
                      repeat (go_big_quiet_step (fail))
                      refine wpQuiet_nil ?_
                      intro w4 hw'
                      obtain ⟨⟨_, hb4⟩, rfl⟩ := hw'
                      have HB4 := Lib.hid (bch hbk hb4)
                      have HO4 := Lib.hid (And.intro (HK.out.2.1.on hb4) (HK.out.2.2.1.on hb4))
                      clear p1 p2 p3 p4 hb4
                      go_wp2
                      go_roundg (x.length - (n + 1))
                      case measure => omega
                      case rel => exact ⟨n + 1, f2, dk, svk, by omega, hf2, rfl, rfl, by go_num, HB4.out, HO4.out.1, HO4.out.2, by rw [HK.out.2.2.2, mjOne_stop hyk.out (by unfold eqB; rw [HM3.out, HL.out.2]; exact decide_eq_false (by omega)), List.nil_append]⟩
                  · have hk5 : ¬ ((k : Int) < (y.length : Int)) := by omega
                    go_wp2
                    refine wp_region_aft wr.heap.size (by kernel_rfl) (by kernel_rfl) ?_
                    repeat (go_big_quiet_step (fail))
                    refine wpQuiet_nil ?_
                    intro w4 hw'
                    obtain ⟨⟨_, hb4⟩, rfl⟩ := hw'
                    have HB4 := Lib.hid (bch hbk hb4)
                    have HO4 := Lib.hid (And.intro (HK.out.2.1.on hb4) (HK.out.2.2.1.on hb4))
                    clear hb4
                    go_wp2
                    go_roundg (x.length - (n + 1))
                    case measure => omega
                    case rel => exact ⟨n + 1, f2, dk, svk, by omega, hf2, rfl, rfl, by go_num, HB4.out, HO4.out.1, HO4.out.2, by rw [HK.out.2.2.2, mjOne_end (by omega), List.nil_append]⟩
            · have hf5 : ¬ ((f2 : Int) < (y.length : Int)) := by omega
              have HE := Lib.hid (HD.out.2.trans (dropW_end (by omega)))
              go_wp2
              refine wp_region_aft wr.heap.size (by kernel_rfl) (by kernel_rfl) ?_
              repeat (go_big_quiet_step (fail))
              refine wpQuiet_nil ?_
              intro w3 hw'
              obtain ⟨⟨_, hb3⟩, rfl⟩ := hw'
              have HB3 := Lib.hid (bch HD.out.1 hb3)
              clear hb3
              go_wp2
              obtain ⟨wi, hwi⟩ : ∃ wi : World, wi = w3 := ⟨_, rfl⟩
              subst hwi
              have HWI := Lib.hid (show Below wo.heap.size wo wi from HB3.out)
              have HOI := Lib.hid (And.intro ((HQ.out.2.1.on HB1.out).on HWI.out) ((HQ.out.2.2.1.on HB1.out).on HWI.out))
              have hG2 : G = dn ++ (mjOne xs ys ci cj (i : Int) (y.drop f2) ++ mjRows xs ys ci cj (x.drop (n + 1)) (y.drop f2)) := by rw [HQ.out.2.2.2, mjRows_cons hxe.out HE.out]
              have HG2 := Lib.hid hG2
              have HBI := Lib.hid (show Below wb.heap.size wb wi from bch (bch HQ.out.1 HB1.out) HWI.out)
              clear hG2
              go_loopg [12, 16] (y.length - f2) (fun g v12 v16 wq => ∃ (k : Nat) (dk : List Row1) (svk : List SV), k ≤ y.length ∧ g = y.length - k ∧ v16 = .int .i64 k ∧ Below wb.heap.size wb wq ∧ Ow wb.heap.size 104 1 svC wq v12 svk ∧ RowsT 55 2 valC 0 wq svk dk ∧ G = dk ++ (mjOne xs ys ci cj (i : Int) (y.drop k) ++ mjRows xs ys ci cj (x.drop (n + 1)) (y.drop f2)))
              case atStart => exact ⟨f2, dn, svs, hf2, rfl, rfl, HBI.out, HOI.out.1, HOI.out.2, HG2.out⟩
              case round =>
                obtain ⟨k, dk, svk, hky, rfl, rfl, hbk, howk, hrtk, hgk⟩ := hrel
                have HK := Lib.hid (And.intro hbk (And.intro howk (And.intro hrtk hgk)))
                have hba := bch HB.out hbk
                have hz2 : wb.heap.size ≤ wr.heap.size := hbk.size
                obtain ⟨AK, ck, rfl, _, _, _⟩ := howk.shape svC_length
                have a1 : wr.cell? ⟨w.heap.size, 1, none⟩ = some (.slice (some ⟨b3, o3, none⟩) xs.length c) := (RB.out.1.on hbk).cell 1
                have b1 : wr.cell? ⟨w.heap.size + 1, 1, none⟩ = some (.slice A' ys.length c') := (RB.out.2.1.on hbk).cell 1
                clear howk hrtk hgk
                by_cases hlt3 : k < y.length
                · have hyk := Lib.hid (List.getElem?_eq_getElem hlt3)
                  have hyi := HYi.out _ (List.getElem_mem hlt3)
                  obtain ⟨gz, oz, hAZ, hBz, hcz⟩ := SY.out.at_ hlt3
                  have e1b : wb.cell? ⟨gz, oz + k, none⟩ = some (.int .i64 y[k]) := by have := hcz 0 _ rfl; simpa using this
                  generalize y[k] = jj at *
                  obtain ⟨j3, rfl⟩ := Int.eq_ofNat_of_zero_le hyi.1
                  have hj1 : j3 < ys.length := by have := hyi.2; omega
                  obtain ⟨b8, o8, b9, o9, C9, hA8, hB8, c8b, hB9, d90, d91b, hcl9, hL9, hCm9, s9⟩ := cellAt (HH.out.2.on HB.out) HRy.out hcb1 hj1
                  cases hAZ
                  cases hA8
                  obtain ⟨L9, hL9e⟩ : ∃ L, (rwAt ys (j3 : Int)).length = L := ⟨_, rfl⟩
                  obtain ⟨M3, hM3⟩ : ∃ N, nAt ys cj (j3 : Int) = N := ⟨_, rfl⟩
                  rw [hL9e] at c8b hcl9 hL9
                  rw [hM3] at d91b
                  have e1 := (hbk.cell (p := ⟨gz, _, none⟩) hBz).trans e1b
                  have c8 := (hbk.cell (p := ⟨b8, _, none⟩) hB8).trans c8b
                  have d91 := (hbk.cell (p := ⟨b9, _, none⟩) hB9).trans d91b
                  have HM3 := Lib.hid hM3
                  have hk5 : (k : Int) < (y.length : Int) := by omega
                  have hj35 : (j3 : Int) < (ys.length : Int) := by omega
                  have hcj6 : cj ≤ 6 := by omega
                  have hj3400 : j3 ≤ 400 := by omega
                  have p1 := fun z : Aft wr.heap.size wr => z.cell (by omega) b1
                  have p2 := fun z : Aft wr.heap.size wr => z.cell (by omega) e1
                  have p3 := fun z : Aft wr.heap.size wr => z.cell (by omega) c8
                  have p4 := fun z : Aft wr.heap.size wr => z.cell (by omega) d91
                  have HZ := Lib.hid (And.intro e1b (And.intro c8b (And.intro s9 hL9e)))
                  clear hyi hcz e1 c8 d90 d91 s9 hL9e hM3 a1 b1 e1b c8b d91b hba hCm9
                  by_cases heq : M3 = N
                  · go_wp2
                    refine wp_region_aft wr.heap.size (by kernel_rfl) (by kernel_rfl) ?_
                    repeat (go_big_quiet_step (fail))
                    refine wpQuiet_nil ?_
                    intro w4 hw'
                    obtain ⟨⟨_, hb4⟩, rfl⟩ := hw'
                    have hxy : Below wb.heap.size wb w4 := bch hbk hb4
                    have HXY := Lib.hid hxy
                    have hz4 := hxy.size
                    have a1 : w4.cell? ⟨w.heap.size, 1, none⟩ = some (.slice (some ⟨b3, o3, none⟩) xs.length c) := (RB.out.1.on hxy).cell 1
                    have b1 : w4.cell? ⟨w.heap.size + 1, 1, none⟩ = some (.slice (some ⟨b8, o8, none⟩) ys.length c') := (RB.out.2.1.on hxy).cell 1
                    have e1 := (hxy.cell (p := ⟨gx, _, none⟩) hBx).trans HEL.out.1
                    have e2 := (hxy.cell (p := ⟨gz, _, none⟩) hBz).trans HZ.out.1
                    have c3 := (hxy.cell (p := ⟨b3, _, none⟩) hB3).trans HEL.out.2.1
                    have c8 := (hxy.cell (p := ⟨b8, _, none⟩) hB8).trans HZ.out.2.1
                    have g1 : gx < w4.heap.size := by omega
                    have g2 : gz < w4.heap.size := by omega
                    have g3 : b3 < w4.heap.size := by omega
                    have g4 : b8 < w4.heap.size := by omega
                    have HC := specConcat_ok (some ⟨b4, o4, none⟩) (some ⟨b9, o9, none⟩) C4 C9 (rwAt xs (i : Int)) (rwAt ys (j3 : Int)) w4.drew (by have := HL.out.1; omega) (by have := HZ.out.2.2.2; omega) (HEL.out.2.2.1.on hxy.drew) (HZ.out.2.2.1.on hxy.drew)
                    rw [HL.out.1, HZ.out.2.2.2] at HC
                    obtain ⟨R, hR⟩ : ∃ R, rwAt xs (i : Int) ++ rwAt ys (j3 : Int) = R := ⟨_, rfl⟩
                    rw [hR] at HC
                    have HC := Lib.hid HC
                    have HR := Lib.hid hR
                    have HO4 := Lib.hid (And.intro (HK.out.2.1.on hb4) (HK.out.2.2.1.on hb4))
                    have hsv9 : svk.length ≤ 160000 := by
                      have h1 := HK.out.2.2.1.1
                      have h2 := congrArg List.length HK.out.2.2.2
                      rw [List.length_append] at h2
                      have := HGl.out
                      omega
                    clear p1 p2 p3 p4 hb4 hxy hR
                    have KF := Lib.hid (fun (z : World) (hz : Below wb.heap.size wb z) => show (z.cell? ⟨w.heap.size, 1, none⟩ = some (.slice (some ⟨b3, o3, none⟩) xs.length c) ∧ z.cell? ⟨gx, ox + n, none⟩ = some (.int .i64 (i : Int)) ∧ z.cell? ⟨b3, o3 + i, none⟩ = some (.slice (some ⟨b4, o4, none⟩) L C4) ∧ z.cell? ⟨w.heap.size + 1, 1, none⟩ = some (.slice (some ⟨b8, o8, none⟩) ys.length c') ∧ z.cell? ⟨gz, oz + k, none⟩ = some (.int .i64 (j3 : Int)) ∧ z.cell? ⟨b8, o8 + j3, none⟩ = some (.slice (some ⟨b9, o9, none⟩) L9 C9))
                      from ⟨(RB.out.1.on hz).cell 1, (hz.cell (p := ⟨gx, _, none⟩) hBx).trans HEL.out.1, (hz.cell (p := ⟨b3, _, none⟩) hB3).trans HEL.out.2.1, (RB.out.2.1.on hz).cell 1, (hz.cell (p := ⟨gz, _, none⟩) hBz).trans HZ.out.1, (hz.cell (p := ⟨b8, _, none⟩) hB8).trans HZ.out.2.1⟩)
                    clear a1 b1 e1 e2 c3 c8
                    have HW4d := Lib.hid (show Below wb.heap.size wb w4.drew from HXY.out.drew)
                    have y4 := KF.out _ HW4d.out
                    go_wp2
                    go_region_held3 (fun z => z.cell? ⟨w.heap.size, 1, none⟩ = some (.slice (some ⟨b3, o3, none⟩) xs.length c) ∧ z.cell? ⟨gx, ox + n, none⟩ = some (.int .i64 (i : Int)) ∧ z.cell? ⟨b3, o3 + i, none⟩ = some (.slice (some ⟨b4, o4, none⟩) L C4) ∧ z.cell? ⟨w.heap.size + 1, 1, none⟩ = some (.slice (some ⟨b8, o8, none⟩) ys.length c') ∧ z.cell? ⟨gz, oz + k, none⟩ = some (.int .i64 (j3 : Int)) ∧ z.cell? ⟨b8, o8 + j3, none⟩ = some (.slice (some ⟨b9, o9, none⟩) L9 C9))
                      (first | assumption | exact KF.out _ (bch HXY.out HB5.out) | exact KF.out _ (balloc (bch HXY.out HB5.out) _) | exact KF.out _ HW6.out)
                      (first
                        | (go_at_call 66; refine HC.out.mono ?_; rintro e w5 ⟨v5, rfl, how5, hb5'⟩; have hb5 : Below w4.heap.size w4 w5 := (Below.refl _ w4).drew.trans hb5'; obtain ⟨A5', c5', rfl, hc51, hc52, hs5⟩ := how5.shape valC_length; have HB5 := Lib.hid hb5; have HO5 := Lib.hid ((HO4.out.1.on hb5).on (balloc (Below.refl _ _) (.cells #[.slice A5' R.length c5'] 104))); have HS5 := Lib.hid (Row.sl' (w := w5.alloc (.cells #[.slice A5' R.length c5'] 104)) (t := 104) (xs := [(⟨A5', R.length, c5'⟩ : SV)]) svC_length ((Row.new w5 _ _).of rfl)); have hz5 : w4.heap.size ≤ w5.heap.size := hb5.size; have hsz5 : wb.heap.size ≤ (w5.alloc (.cells #[.slice A5' R.length c5'] 104)).heap.size := (by simp; omega); have HX5 := Lib.hid (And.intro hs5 (And.intro hc51 hc52)); have y5 := KF.out _ (bch HXY.out HB5.out); clear hb5 hb5' how5 hs5 hc51 hc52)
                        | (refine step_app rfl (.tmp 102) (.tmp 120) 30 rfl wb.heap.size 104 _ 1 24 svC Tryz.underlying30 zeroRow rfl (by decide) (by decide) svC_length svC_one _ svk rfl HO5.out (some ⟨w5.heap.size, 0, none⟩) 1 1 [(⟨A5', R.length, c5'⟩ : SV)] rfl rfl HS5.out (by simp <;> omega) hsz5 ?_; intro v6 w6 how6 hgr6; have HW6 := Lib.hid (show Below wb.heap.size wb w6 from (balloc (bch HXY.out HB5.out) _).grown hgr6 hsz5 fun q hq => (HO5.out.ty q hq).1); have Hw6 := Lib.hid (And.intro how6 hgr6); have y6 := KF.out _ HW6.out; clear how6 hgr6))
                    all_goals (
                      go_wp2
                      go_roundg (y.length - (k + 1))
                      case measure => omega
                      case rel =>
                        obtain ⟨how6, hgr6⟩ := Hw6.out
                        have hS2 := balloc (Below.refl _ w5) (.cells #[.slice A5' R.length c5'] 104)
                        have hrow : ∀ q, Value.ownBlock _ = some q → wb.heap.size ≤ q ∧ TyAt _ q 104 := fun q hq => ⟨(HO5.out.ty q hq).1, (HO5.out.ty q hq).2.2⟩
                        have hT6 := ((HO4.out.2.on HB5.out).on hS2).grown hgr6 fun q hq => .inr ⟨_, by decide, (hrow q hq).2⟩
                        have hs6 := ((HX5.out.1.on hS2).grown hgr6 fun q hq => .inr ⟨_, by decide, (hrow q hq).2⟩).low (Nat.zero_le _)
                        refine ⟨k + 1, dk ++ [R], svk ++ [⟨A5', R.length, c5'⟩], by omega, rfl, by go_num, ?_, how6, hT6.snoc rfl HX5.out.2.1 HX5.out.2.2 hs6, ?_⟩
                        · exact (bch (bch HXY.out HB5.out) hS2).grown hgr6 hsz5 fun q hq => (hrow q hq).1
                        · rw [HK.out.2.2.2, mjOne_step hyk.out (by unfold eqB; rw [HM3.out, HL.out.2]; exact decide_eq_true (by omega))]
                          have e : catAt xs ys (i : Int) (j3 : Int) = R := HR.out
                          rw [e]
                          simp only [List.append_assoc, List.cons_append, List.nil_append])
                  · go_wp2
                    refine wp_region_aft wr.heap.size (by kernel_rfl) (by kernel_rfl) ?_
                    repeat (go_big_quiet_step (fail))
                    refine wpQuiet_nil ?_
                    intro w4 hw'
                    obtain ⟨⟨_, hb4⟩, rfl⟩ := hw'
                    have HB4 := Lib.hid (bch hbk hb4)
                    have HO4 := Lib.hid (And.intro (HK.out.2.1.on hb4) (HK.out.2.2.1.on hb4))
                    clear p1 p2 p3 p4 hb4
                    go_wp2
                    go_roundg (x.length - (n + 1))
                    case measure => omega
                    case rel => exact ⟨n + 1, f2, dk, svk, by omega, hf2, rfl, rfl, by go_num, HB4.out, HO4.out.1, HO4.out.2, by rw [HK.out.2.2.2, mjOne_stop hyk.out (by unfold eqB; rw [HM3.out, HL.out.2]; exact decide_eq_false (by omega)), List.nil_append]⟩
                · have hk5 : ¬ ((k : Int) < (y.length : Int)) := by omega
                  go_wp2
                  refine wp_region_aft wr.heap.size (by kernel_rfl) (by kernel_rfl) ?_
                  repeat (go_big_quiet_step (fail))
                  refine wpQuiet_nil ?_
                  intro w4 hw'
                  obtain ⟨⟨_, hb4⟩, rfl⟩ := hw'
                  have HB4 := Lib.hid (bch hbk hb4)
                  have HO4 := Lib.hid (And.intro (HK.out.2.1.on hb4) (HK.out.2.2.1.on hb4))
                  clear hb4
                  go_wp2
                  go_roundg (x.length - (n + 1))
                  case measure => omega
                  case rel => exact ⟨n + 1, f2, dk, svk, by omega, hf2, rfl, rfl, by go_num, HB4.out, HO4.out.1, HO4.out.2, by rw [HK.out.2.2.2, mjOne_end (by omega), List.nil_append]⟩
        · obtain rfl : n = x.length := by omega
          have hge : ¬ ((x.length : Int) < (x.length : Int)) := by omega
          have hdn : G = dn := by rw [HQ.out.2.2.2, mjRows_end (Nat.le_refl _), List.append_nil]
          subst hdn
          have hsl : svs.length = G.length := HQ.out.2.2.1.1
          have HT := Lib.hid (tableOf_ok 0 (W + W') A5 c5 svs G wr (Nat.zero_le _) (by have := HGl.out; omega) (fun r hr => by have := (rowValid_len (HGr.out r hr).1).2; omega) (by obtain ⟨A9, c9, e9, _, _, h9⟩ := HQ.out.2.1.shape svC_length; injection e9 with e1 e2 e3; subst e1; exact h9.sl) HQ.out.2.2.1)
          have a0 : wr.cell? ⟨w.heap.size, 0, none⟩ = some (.int .i64 W) := (RB.out.1.on hb).cell 0
          have b0 : wr.cell? ⟨w.heap.size + 1, 0, none⟩ = some (.int .i64 W') := (RB.out.2.1.on hb).cell 0
          rw [hsl]
          clear hb hsl
          go_wp2_with fail
          refine HT.out.mono ?_
          rintro e w5 ⟨v5, sv5, out, rfl, hout, how5, hrt5, hb5⟩
          obtain ⟨A6, c6, rfl, _, _, _⟩ := how5.shape svC_length
          have r2 := (RB.out.2.2.on HQ.out.1).on hb5
          have e0 : w5.cell? ⟨w.heap.size + 2, 0, none⟩ = some (.int .i64 0) := r2.cell 0
          have e1 : w5.cell? ⟨w.heap.size + 2, 1, none⟩ = some (.slice none 0 0) := r2.cell 1
          have f0 := r2.frozen 0
          have f1 := r2.frozen 1
          have l2 := r2.lt
          generalize sv5.length = nn at *
          have HF := Lib.hid (And.intro hout (And.intro how5 (And.intro hrt5 (And.intro hb5 r2))))
          clear hout how5 hrt5 hb5 r2 a0 b0
          go_wp2
          refine bodyPost_ret (resSpecMj (b := w.heap.size + 2) (r := true) _ rfl rfl _ (v0 := .int .i64 (W + W')) (v1 := .slice A6 nn c6) (by simp [go_sem, e0, e1, l2]) (by simp [go_sem, e0, e1, l2])) rfl ?_
          obtain ⟨hout, how1, hrt1, hb1, r2⟩ := HF.out
          have hS0 := (Only.set (S := fun i => i = w.heap.size + 2) (p := ⟨w.heap.size + 2, 0, none⟩) (Only.refl w5) (.inl rfl) (.int .i64 (W + W'))).set (p := ⟨w.heap.size + 2, 1, none⟩) (.inl rfl) (.slice A6 nn c6)
          have hbw := bch HB.out HQ.out.1
          exact ⟨W + W', _, sv5, out, rfl, .inr ⟨rfl, rfl, hout⟩, (how1.only hS0 fun q hq => .inr ⟨32, by decide, by subst hq; exact r2.ty⟩).low hbw.size, hrt1.only hS0 fun q hq => .inr ⟨32, by decide, by subst hq; exact r2.ty⟩, ((bch hbw hb1).setCell (p := ⟨w.heap.size + 2, 0, none⟩) (by simp) _).setCell (p := ⟨w.heap.size + 2, 1, none⟩) (by simp) _⟩
    · have hf : q = false := bfalse Hq.out fun ht => h6 ht.2
      subst hf
      have h6' : 6 < W + W' := by omega
      go_enter Tryz.func25, Tryz.ntmps25
      go_upto_region 1 with fail
      rw [HW.out]
      go_wp2_with fail
      refine H1.out.mono ?_
      rintro e w1 ⟨rfl, hb1⟩
      have r2 := HR0.out.2.2.on hb1
      have e0 : w1.cell? ⟨w.heap.size + 2, 0, none⟩ = some (.int .i64 0) := r2.cell 0
      have e1 : w1.cell? ⟨w.heap.size + 2, 1, none⟩ = some (.slice none 0 0) := r2.cell 1
      have f0 := r2.frozen 0
      have f1 := r2.frozen 1
      have l2 := r2.lt
      have a0 : w1.cell? ⟨w.heap.size, 0, none⟩ = some (.int .i64 W) := (HR0.out.1.on hb1).cell 0
      have b0 : w1.cell? ⟨w.heap.size + 1, 0, none⟩ = some (.int .i64 W') := (HR0.out.2.1.on hb1).cell 0
      have H1' := Lib.hid (bch HB0.out hb1)
      clear hb1 r2 a1 b1
      go_wp2
      refine bodyPost_ret (resSpecMj (b := w.heap.size + 2) (r := false) _ rfl rfl _ (v0 := .int .i64 0) (v1 := .slice none 0 0) (by simp [go_sem, e0, e1, l2]) (by simp [go_sem, e0, e1, l2])) rfl ?_
      exact NO.out _ H1'.out
end Go.Proofs.YtlhonhacehgooaaGreat

/-
  Contract of mergedRows as a source of rows: the program's.
-/
namespace Go.Proofs.YtlhonhacehgooaaGreat
open Go.RowKit Go.Qo
set_option linter.unusedVariables false
set_option linter.unusedSimpArgs false
attribute [local go_sem] Oper.semAt_some

theorem entersMerged1 : EntersF 117 := enters_of Tryz.func117 (by kernel_rfl) rfl
set_option maxHeartbeats 1000000 in
theorem mergedRows_ok (W W' ca cb : Int) (v v' : Value) (w : World) :
    Calls Tryz.prog 63 #[.agg #[.int .i64 W, v], .agg #[.int .i64 W', v'], .int .i64 ca, .int .i64 cb] w fun e w' => e = .returned (.func (.func 117) #[] #[.pointer (some ⟨w.heap.size + 1, 0, none⟩), .pointer (some ⟨w.heap.size + 3, 0, none⟩), .pointer (some ⟨w.heap.size, 0, none⟩), .pointer (some ⟨w.heap.size + 2, 0, none⟩)]) ∧ Below w.heap.size w w' ∧
      Row w' w.heap.size 32 [.int .i64 W, v] ∧ Row w' (w.heap.size + 1) 32 [.int .i64 W', v'] ∧ Row w' (w.heap.size + 2) 3 [.int .i64 ca] ∧ Row w' (w.heap.size + 3) 3 [.int .i64 cb] := by
  go_enter Tryz.func63, Tryz.ntmps63
  go_wp2
  go_ret
  refine ⟨rfl, balloc (balloc (balloc (balloc (Below.refl _ _) _) _) _) _, (((Row.new w _ _).alloc _).alloc _).alloc _, ((Row.second w _ _ _).alloc _).alloc _, (Row.third w _ _ _ _).alloc _, ?_⟩
  have h := Row.new (((w.alloc (.cells #[.int .i64 W, v] 32)).alloc (.cells #[.int .i64 W', v'] 32)).alloc (.cells #[.int .i64 ca] 3)) 3 #[.int .i64 cb]
  have e : (((w.alloc (.cells #[.int .i64 W, v] 32)).alloc (.cells #[.int .i64 W', v'] 32)).alloc (.cells #[.int .i64 ca] 3)).heap.size = w.heap.size + 3 := by simp
  rw [e] at h
  exact h.of rfl

theorem keepBelow {w z wr : World} {E : Nat → Prop} (h : Below w.heap.size w z) (k : KeepE w.heap.size E z wr) : Below w.heap.size w wr := Only.from_ h rfl k fun _ hi => hi.1
theorem keepCell {n₀ : Nat} {E : Nat → Prop} {X Y : World} (k : KeepE n₀ E X Y) {b o : Nat} (hb : b < X.heap.size) (hE : E b) : Y.cell? ⟨b, o, none⟩ = X.cell? ⟨b, o, none⟩ := by
  have h := k.block b hb fun h => h.2 hE
  simp only [World.cell?, h]
theorem enterE (z z2 : World) : Fresh (fun _ => False) (fun i => z.heap.size ≤ i ∧ i < z2.heap.size) z z2 := fun i hi => ⟨.inr hi.1, hi.2⟩
theorem stayE {E : Nat → Prop} {X Y : World} (h : ∀ i, E i → i < Y.heap.size) : Fresh E E X Y := fun i hi => ⟨.inl hi, h i hi⟩
/-- A list of numbers in the blocks of E. -/
theorem idxIn {lo hi : Nat} {z : World} {A : Option Addr} {xs : List Int} (h : SlT 3 1 intC lo z A xs) (hz : z.heap.size ≤ hi) {n : Nat} (hn : n < xs.length) : ∃ b o, A = some ⟨b, o, none⟩ ∧ (lo ≤ b ∧ b < hi) ∧ b < z.heap.size ∧ z.cell? ⟨b, o + n, none⟩ = some (.int .i64 xs[n]) := by
  obtain ⟨b, o, hA, h1, h2, _, hc⟩ := h (Nat.lt_of_le_of_lt (Nat.zero_le _) hn)
  have := hc n _ (List.getElem?_eq_getElem hn) 0 _ rfl
  exact ⟨b, o, hA, ⟨h1, by omega⟩, h2, by simpa using this⟩

set_option maxRecDepth 100000 in
set_option maxHeartbeats 8000000 in
theorem mergedIt_ok (W W' : Int) (A A' : Option Addr) (c c' : Nat) (xs ys : List Row1) (ca cb pb pbc pa pac : Nat) (w : World) (hT1 : TabOk W xs) (hT2 : TabOk W' ys) (hca : (ca : Int) < W) (hcb : (cb : Int) < W') (h6 : W + W' ≤ 6)
    (h : Rws w w.heap.size A xs) (h' : Rws w w.heap.size A' ys) (ra : Row w pa 32 [.int .i64 W, .slice A xs.length c]) (rb : Row w pb 32 [.int .i64 W', .slice A' ys.length c']) (rac : Row w pac 3 [.int .i64 ca]) (rbc : Row w pbc 3 [.int .i64 cb]) :
    SeqR Fence.wide 5 Tryz.prog 117 #[.pointer (some ⟨pb, 0, none⟩), .pointer (some ⟨pbc, 0, none⟩), .pointer (some ⟨pa, 0, none⟩), .pointer (some ⟨pac, 0, none⟩)] (fun x : Rw (W + W') => encSR x.1) (fun x z => SRs (W + W') z x.1) w.heap.size
      (fun ys' => ys'.map (·.1.2) = mjAll xs ys ca cb) (fun pre => pre.map (·.1.2) <+: mjAll xs ys ca cb) (mjAll xs ys ca cb).length w := by
  intro l J Jx z hz hJ hJx hY h0
  have hx4 : xs.length ≤ 400 := hT1.2.2.1
  have hy4 : ys.length ≤ 400 := hT2.2.2.1
  have HRx := Lib.hid (tabRows1 hT1)
  have HRy := Lib.hid (tabRows1 hT2)
  have hW6 : W ≤ 6 := hT1.2.1
  have hW6' : W' ≤ 6 := hT2.2.1
  have hW1' := hT2.1
  have hW1 := hT1.1
  have I2 := Lib.hid (fun (z : World) (hz : Below w.heap.size w z) => implIndexOf_ok W' cb A' c' ys z (by omega) (h'.on hz) true (iff_of_true rfl ⟨hT2, Int.natCast_nonneg _, hcb⟩))
  have I1 := Lib.hid (fun (z : World) (hz : Below w.heap.size w z) => implIndexOf_ok W ca A c xs z (by omega) (h.on hz) true (iff_of_true rfl ⟨hT1, Int.natCast_nonneg _, hca⟩))
  simp only [if_true, Int.toNat_natCast] at I1 I2
  obtain ⟨x, hx⟩ : ∃ x, idxOf xs ca = x := ⟨_, rfl⟩
  obtain ⟨y, hy⟩ : ∃ y, idxOf ys cb = y := ⟨_, rfl⟩
  have hxl : x.length ≤ 400 := by rw [← hx]; have := idxOf_len (rows := xs) (cn := ca); omega
  have hyl : y.length ≤ 400 := by rw [← hy]; have := idxOf_len (rows := ys) (cn := cb); omega
  have HXi := Lib.hid (show ∀ i ∈ x, InR xs.length i ∧ nul xs ca i.toNat = false by rw [← hx]; exact fun i hi => ⟨idxOf_in i hi, idxOf_nul i hi⟩)
  have HYi := Lib.hid (show ∀ i ∈ y, InR ys.length i ∧ nul ys cb i.toNat = false by rw [← hy]; exact fun i hi => ⟨idxOf_in i hi, idxOf_nul i hi⟩)
  obtain ⟨G, hG⟩ : ∃ G, mjAll xs ys ca cb = G := ⟨_, rfl⟩
  have HGr := Lib.hid (show ∀ r ∈ G, RowOk (W + W') r by rw [← hG]; exact mjAll_ok HRx.out HRy.out h6)
  have HG := Lib.hid (show G = mjRows xs ys ca cb x y by rw [← hG, ← hx, ← hy]; rfl)
  rw [hG] at hY ⊢
  rw [hx] at I1
  rw [hy] at I2
  have HH := Lib.hid (And.intro h h')
  have HR := Lib.hid (And.intro ra (And.intro rb (And.intro rac rbc)))
  have HZ := Lib.hid hz
  have HJ := Lib.hid hJ
  have HJx := Lib.hid hJx
  have HY := Lib.hid hY
  have H0 := Lib.hid h0
  have b0 : z.cell? ⟨pb, 0, none⟩ = some (.int .i64 W') := (rb.on hz).cell 0
  have b1 : z.cell? ⟨pb, 1, none⟩ = some (.slice A' ys.length c') := (rb.on hz).cell 1
  have b2 : z.cell? ⟨pbc, 0, none⟩ = some (.int .i64 cb) := (rbc.on hz).cell 0
  clear hT1 hT2 hx hy hG h h' ra rb rac rbc hz hJ hJx hY h0
  show CallsIn _ _ _ _ #[.func (.yield l) #[] #[], .pointer (some ⟨pb, 0, none⟩), .pointer (some ⟨pbc, 0, none⟩), .pointer (some ⟨pa, 0, none⟩), .pointer (some ⟨pac, 0, none⟩)] _ _
  refine callsIn_of_wp Tryz.func117 rfl trivial ?_ rfl
  simp only [Tryz.ntmps117, List.size_toArray, List.length_cons, List.length_nil, Nat.reduceAdd, Nat.reduceSub, Array.replicate_succ, Array.replicate_zero, List.push_toArray, List.append_toArray, List.nil_append, List.cons_append]
  gi_wp2_with (refine ⟨trivial, ?_⟩; gi_at_call 118; refine (callsIn_wide.2 (I2.out _ HZ.out)).mono ?_; clear I2; rintro e z1 ⟨v1, rfl, how1, hb1⟩; obtain ⟨AY, cy, rfl, hcy1, hcy2, hsy⟩ := how1.shape intC_length; have HAY := Lib.hid (show AY = none → y = [] ∧ cy = 0 from fun h => by subst h; obtain ⟨q1, _, q2⟩ := Ow.nil_of how1; exact ⟨q1, q2⟩); have HB1 := Lib.hid hb1; have SY1 := Lib.hid hsy; have HZ1 := Lib.hid (bch HZ.out hb1); have a0 : z1.cell? ⟨pa, 0, none⟩ = some (.int .i64 W) := ((HR.out.1.on HZ.out).on hb1).cell 0; have a1 : z1.cell? ⟨pa, 1, none⟩ = some (.slice A xs.length c) := ((HR.out.1.on HZ.out).on hb1).cell 1; have a2 : z1.cell? ⟨pac, 0, none⟩ = some (.int .i64 ca) := ((HR.out.2.2.1.on HZ.out).on hb1).cell 0; clear hb1 how1 hsy b0 b1 b2)
  gi_wp2_with (refine ⟨trivial, ?_⟩; gi_at_call 118; refine (callsIn_wide.2 (I1.out _ HZ1.out)).mono ?_; clear I1; rintro e z2 ⟨v2, rfl, how2, hb2⟩; obtain ⟨AX, cx, rfl, _, hcx2, hsx⟩ := how2.shape intC_length; have HB2 := Lib.hid hb2; have SX2 := Lib.hid hsx; clear hb2 how2 hsx a0 a1 a2)
  obtain ⟨E, hE⟩ : ∃ E : Nat → Prop, (fun i => z.heap.size ≤ i ∧ i < z2.heap.size) = E := ⟨_, rfl⟩
  have hEi : ∀ i, E i ↔ z.heap.size ≤ i ∧ i < z2.heap.size := fun i => by rw [← hE]
  have J2 : J E [] z2 := HJ.out _ E [] z z2 H0.out (only_below (bch HB1.out HB2.out)) (hE ▸ enterE z z2)
  have BZ2 := Lib.hid (show Below w.heap.size w z2 from bch HZ1.out HB2.out)
  have SX := Lib.hid (fun (n : Nat) (hn : n < x.length) => idxIn SX2.out (Nat.le_refl _) hn)
  have SY := Lib.hid (fun (n : Nat) (hn : n < y.length) => idxIn (SY1.out.on HB2.out) (Nat.le_refl _) hn)
  have HE := Lib.hid hEi
  have hz12 : z.heap.size ≤ z1.heap.size := HB1.out.size
  -- J stands where new memory alone is made
  have JB := Lib.hid (fun (pre : List (Rw (W + W'))) (X Y : World) (hj : J E pre X) (hxy : Below X.heap.size X Y) (h2 : z2.heap.size ≤ Y.heap.size) => HJ.out E E pre X Y hj (only_below hxy) (stayE fun i hi => by have := ((HE.out i).1 hi).2; omega))
  clear hE hEi
  have HJ2 := Lib.hid J2
  clear J2
  gi_wp2
  gi_loopw [7, 21] (fun s iv wr => ∃ (n f : Nat) (pre : List (Rw (W + W'))), n ≤ x.length ∧ f ≤ y.length ∧ s = .int .i64 f ∧ iv = .int .i64 n ∧ J E pre wr ∧ KeepE w.heap.size E z2 wr ∧ G = pre.map (·.1.2) ++ mjRows xs ys ca cb (x.drop n) (y.drop f))
    (fun _ iv _ => x.length - (intOf iv).toNat)
  case atStart => exact ⟨0, 0, [], Nat.zero_le _, Nat.zero_le _, rfl, rfl, HJ2.out, Only.refl _, HG.out⟩
  case round =>
    obtain ⟨n, f, pre, hnx, hfy, rfl, rfl, hj, hk, hg⟩ := hrel
    have HQ := Lib.hid (And.intro hj (And.intro hk hg))
    have hbw := keepBelow BZ2.out hk
    have hsz := hk.size
    clear hj hg
    by_cases hlt : n < x.length
    · obtain ⟨gx, ox, hAX, hEx, hgx, ex⟩ := SX.out n hlt
      have hxe := Lib.hid (List.getElem?_eq_getElem hlt)
      have hxi := HXi.out _ (List.getElem_mem hlt)
      generalize x[n] = ii at *
      obtain ⟨i, rfl⟩ := Int.eq_ofNat_of_zero_le hxi.1.1
      have hi1 : i < xs.length := by have := hxi.1.2; omega
      have hin : nul xs ca i = false := by simpa using hxi.2
      obtain ⟨b3, o3, b4, o4, C4, hA, hB3, c3w, hB4, d0w, d1w, hcl, hL6, hCm, s4⟩ := cellAt HH.out.1 HRx.out hca hi1
      rw [hin] at d0w
      subst hAX
      subst hA
      obtain ⟨L, hL⟩ : ∃ L, (rwAt xs (i : Int)).length = L := ⟨_, rfl⟩
      obtain ⟨N, hN⟩ : ∃ N, nAt xs ca (i : Int) = N := ⟨_, rfl⟩
      rw [hL] at c3w hcl hL6
      rw [hN] at d1w
      have HL := Lib.hid (And.intro hL (And.intro hN (And.intro s4 hCm)))
      have e1 : wr.cell? ⟨gx, ox + n, none⟩ = some (.int .i64 (i : Int)) := (keepCell hk hgx ((HE.out _).2 ⟨by omega, by omega⟩)).trans ex
      have a1 : wr.cell? ⟨pa, 1, none⟩ = some (.slice (some ⟨b3, o3, none⟩) xs.length c) := (HR.out.1.on hbw).cell 1
      have c3 := (hbw.cell (p := ⟨b3, _, none⟩) hB3).trans c3w
      have hlt5 : (n : Int) < (x.length : Int) := by omega
      have hi5 : (i : Int) < (xs.length : Int) := by omega
      have hca6 : ca ≤ 6 := by omega
      have hi400 : i ≤ 400 := by omega
      have HC4 := Lib.hid (And.intro d0w d1w)
      clear hxi hin ex c3w d0w d1w s4 hL hN hbw
      gi_wp2
      gi_loopw [7] (fun s wq => ∃ f2 : Nat, f2 ≤ y.length ∧ s = .int .i64 f2 ∧ J E pre wq ∧ KeepE w.heap.size E z2 wq ∧ (y.drop f).dropWhile (ltB xs ys ca cb (i : Int)) = (y.drop f2).dropWhile (ltB xs ys ca cb (i : Int))) (fun s _ => y.length - (intOf s).toNat)
      case atStart => exact ⟨f, hfy, rfl, HQ.out.1, HQ.out.2.1, rfl⟩
      case round =>
        obtain ⟨f2, hf2, rfl, hj2, hk2, hd⟩ := hrel
        have HD := Lib.hid (And.intro hj2 (And.intro hk2 hd))
        have hbw := keepBelow BZ2.out hk2
        have hsz2 := hk2.size
        clear hj2 hd a1 c3 e1
        have d0 := (hbw.cell (p := ⟨b4, _, none⟩) hB4).trans HC4.out.1
        have d1 := (hbw.cell (p := ⟨b4, _, none⟩) hB4).trans HC4.out.2
        have b1 : wr.cell? ⟨pb, 1, none⟩ = some (.slice A' ys.length c') := (HR.out.2.1.on hbw).cell 1
        have b2 : wr.cell? ⟨pbc, 0, none⟩ = some (.int .i64 cb) := (HR.out.2.2.2.on hbw).cell 0
        have a2 : wr.cell? ⟨pac, 0, none⟩ = some (.int .i64 ca) := (HR.out.2.2.1.on hbw).cell 0
        have hcb6 : cb ≤ 6 := by omega
        by_cases hlt2 : f2 < y.length
        · obtain ⟨gy, oy, hAY, hEy, hgy, ey⟩ := SY.out f2 hlt2
          have hye := Lib.hid (List.getElem?_eq_getElem hlt2)
          have hyi := HYi.out _ (List.getElem_mem hlt2)
          generalize y[f2] = jj at *
          obtain ⟨j, rfl⟩ := Int.eq_ofNat_of_zero_le hyi.1.1
          have hj1 : j < ys.length := by have := hyi.1.2; omega
          obtain ⟨b6, o6, b7, o7, C7, hA', hB6, c6w, hB7, d70, d71w, hcl7, hL7, hCm7, s7⟩ := cellAt HH.out.2 HRy.out hcb hj1
          subst hAY
          subst hA'
          obtain ⟨L7, hL7e⟩ : ∃ L, (rwAt ys (j : Int)).length = L := ⟨_, rfl⟩
          obtain ⟨M, hM⟩ : ∃ N, nAt ys cb (j : Int) = N := ⟨_, rfl⟩
          rw [hL7e] at c6w hcl7 hL7
          rw [hM] at d71w
          have HM := Lib.hid hM
          have e2 : wr.cell? ⟨gy, oy + f2, none⟩ = some (.int .i64 (j : Int)) := (keepCell hk2 hgy ((HE.out _).2 ⟨by omega, by omega⟩)).trans ey
          have c6 := (hbw.cell (p := ⟨b6, _, none⟩) hB6).trans c6w
          have d71 := (hbw.cell (p := ⟨b7, _, none⟩) hB7).trans d71w
          have hf5 : (f2 : Int) < (y.length : Int) := by omega
          have hj5 : (j : Int) < (ys.length : Int) := by omega
          have hj400 : j ≤ 400 := by omega
          clear hyi ey c6w d70 d71w s7 hL7e hM hCm7
          by_cases hlm : M < N
          · gi_wp2
            gi_quiet (fail)
            gi_wp2
            go_roundw
            case rel => exact ⟨f2 + 1, by omega, by simp, JB.out _ _ _ HD.out.1 (bdrewN (Below.refl _ _) _) (by simpa using hsz2), HD.out.2.1.below (bdrewN (Below.refl _ _) _), HD.out.2.2.trans (dropW_step hye.out (by unfold ltB; rw [HM.out, HL.out.2.1]; exact decide_eq_true (by omega)))⟩
            case measure => simp [intOf]; omega
          · have HEQ := Lib.hid (HD.out.2.2.trans (dropW_stop hye.out (by unfold ltB; rw [HM.out, HL.out.2.1]; exact decide_eq_false (by omega))))
            gi_wp2
            gi_quiet (fail)
            gi_wp2
            gi_loopw [60] (fun iv wq => ∃ (k : Nat) (pk : List (Rw (W + W'))), k ≤ y.length - f2 ∧ iv = .int .i64 k ∧ J E pk wq ∧ KeepE w.heap.size E z2 wq ∧ G = pk.map (·.1.2) ++ (mjOne xs ys ca cb (i : Int) (y.drop (f2 + k)) ++ mjRows xs ys ca cb (x.drop (n + 1)) (y.drop f2)))
              (fun iv _ => y.length - (intOf iv).toNat)
            case atStart => exact ⟨0, pre, Nat.zero_le _, rfl, JB.out _ _ _ HD.out.1 (bdrewN (Below.refl _ _) _) (by simpa using hsz2), HD.out.2.1.below (bdrewN (Below.refl _ _) _), by rw [Nat.add_zero, HQ.out.2.2, mjRows_cons hxe.out HEQ.out]⟩
            case round =>
              obtain ⟨k, pk, hkl, rfl, hj3, hk3, hg3⟩ := hrel
              have HK := Lib.hid (And.intro hj3 (And.intro hk3 hg3))
              have hbw := keepBelow BZ2.out hk3
              have HBW := Lib.hid hbw
              have hsz3 := hk3.size
              clear hj3 hg3 d0 d1 b1 b2 a2
              by_cases hlt3 : k < y.length - f2
              · have hfk : f2 + k < y.length := by omega
                obtain ⟨gz, oz, hAZ, hEz, hgz, ez⟩ := SY.out (f2 + k) hfk
                cases hAZ
                have hyk := Lib.hid (List.getElem?_eq_getElem hfk)
                have hyi := HYi.out _ (List.getElem_mem hfk)
                generalize y[f2 + k] = jj3 at *
                obtain ⟨j3, rfl⟩ := Int.eq_ofNat_of_zero_le hyi.1.1
                have hj31 : j3 < ys.length := by have := hyi.1.2; omega
                have hjn : nul ys cb j3 = false := by simpa using hyi.2
                obtain ⟨b8, o8, b9, o9, C9, hA8, hB8, c8w, hB9, d90w, d91w, hcl9, hL9, hCm9, s9⟩ := cellAt HH.out.2 HRy.out hcb hj31
                rw [hjn] at d90w
                cases hA8
                obtain ⟨L9, hL9e⟩ : ∃ L, (rwAt ys (j3 : Int)).length = L := ⟨_, rfl⟩
                obtain ⟨M3, hM3⟩ : ∃ N, nAt ys cb (j3 : Int) = N := ⟨_, rfl⟩
                rw [hL9e] at c8w hcl9 hL9
                rw [hM3] at d91w
                have HM3 := Lib.hid hM3
                have e3 : wr.cell? ⟨gy, oy + f2 + k, none⟩ = some (.int .i64 (j3 : Int)) := by rw [Nat.add_assoc]; exact (keepCell hk3 hgz ((HE.out _).2 ⟨by omega, by omega⟩)).trans ez
                have c8 := (hbw.cell (p := ⟨b6, _, none⟩) hB8).trans c8w
                have d90 := (hbw.cell (p := ⟨b9, _, none⟩) hB9).trans d90w
                have d91 := (hbw.cell (p := ⟨b9, _, none⟩) hB9).trans d91w
                have d0 := (hbw.cell (p := ⟨b4, _, none⟩) hB4).trans HC4.out.1
                have d1 := (hbw.cell (p := ⟨b4, _, none⟩) hB4).trans HC4.out.2
                have b1 : wr.cell? ⟨pb, 1, none⟩ = some (.slice (some ⟨b6, o6, none⟩) ys.length c') := (HR.out.2.1.on hbw).cell 1
                have b2 : wr.cell? ⟨pbc, 0, none⟩ = some (.int .i64 cb) := (HR.out.2.2.2.on hbw).cell 0
                have a2 : wr.cell? ⟨pac, 0, none⟩ = some (.int .i64 ca) := (HR.out.2.2.1.on hbw).cell 0
                have hk5 : (k : Int) < ((y.length - f2 : Nat) : Int) := by omega
                have hk6 : (k : Int) < (y.length : Int) - (f2 : Int) := by omega
                have hj35 : (j3 : Int) < (ys.length : Int) := by omega
                have hj3400 : j3 ≤ 400 := by omega
                have hk400 : k ≤ 400 := by omega
                have HS9 := Lib.hid (And.intro s9 (And.intro hL9e hCm9))
                have hgv := eqgVal
                clear hyi hjn ez c8w d90w d91w s9 hL9e hM3 hbw hCm9
                by_cases heq : M3 = N
                · have hne := fun z => neqVal (x := (false, M3)) (y := (false, N)) false (by simp [heq]) z
                  dsimp only at hne
                  obtain ⟨R, hR0⟩ : ∃ R, rwAt xs (i : Int) ++ rwAt ys (j3 : Int) = R := ⟨_, rfl⟩
                  have hRl : R.length = L + L9 := by rw [← hR0, List.length_append, HL.out.1, HS9.out.2.1]
                  have hst : mjOne xs ys ca cb (i : Int) (y.drop (f2 + k)) = R :: mjOne xs ys ca cb (i : Int) (y.drop (f2 + k + 1)) := by
                    rw [mjOne_step hyk.out (by unfold eqB; rw [HM3.out, HL.out.2.1]; exact decide_eq_true heq)]
                    show (rwAt xs (i : Int) ++ rwAt ys (j3 : Int)) :: _ = _
                    rw [hR0]
                  have hGR : G = pk.map (·.1.2) ++ R :: (mjOne xs ys ca cb (i : Int) (y.drop (f2 + k + 1)) ++ mjRows xs ys ca cb (x.drop (n + 1)) (y.drop f2)) := by rw [HK.out.2.2, hst]; rfl
                  have hRok : RowOk (W + W') R := HGr.out R (by rw [hGR]; simp)
                  have hpl : pk.length < G.length := by
                    have := congrArg List.length hGR
                    rw [List.length_append, List.length_map, List.length_cons] at this
                    omega
                  have HRR := Lib.hid (And.intro hRl (And.intro hGR (And.intro hRok hpl)))
                  have HCC := Lib.hid (fun (wd : World) (hd : Below w.heap.size w wd) => show Calls Tryz.prog 119 #[.slice (some ⟨wd.heap.size, 0, none⟩) 2 2] (wd.alloc (.cells #[.slice (some ⟨b4, o4, none⟩) L C4, .slice (some ⟨b9, o9, none⟩) L9 C9] 104))
                      (fun e w' => ∃ A c, e = .returned (.slice A (L + L9) c) ∧ Ow (wd.alloc (.cells #[.slice (some ⟨b4, o4, none⟩) L C4, .slice (some ⟨b9, o9, none⟩) L9 C9] 104)).heap.size 55 2 valC w' (.slice A (L + L9) c) R ∧ Below (wd.alloc (.cells #[.slice (some ⟨b4, o4, none⟩) L C4, .slice (some ⟨b9, o9, none⟩) L9 C9] 104)).heap.size (wd.alloc (.cells #[.slice (some ⟨b4, o4, none⟩) L C4, .slice (some ⟨b9, o9, none⟩) L9 C9] 104)) w') from by
                    rw [← hR0]
                    exact concatV_ok wd.heap.size 0 2 (some ⟨b4, o4, none⟩) (some ⟨b9, o9, none⟩) L L9 C4 C9 (rwAt xs (i : Int)) (rwAt ys (j3 : Int)) _ HL.out.1.symm HS9.out.2.1.symm (by omega) (by omega) (by simp) ((Row.new wd _ _).cell 0) ((Row.new wd _ _).cell 1) (HL.out.2.2.1.on (balloc hd _)) (HS9.out.1.on (balloc hd _)))
                  clear hRl hst hGR hRok hpl hR0
                  gi_wp2
                  gi_quiet (fail)
                  gi_wp2_with (refine ⟨trivial, ?_⟩; gi_at_call 119; refine (callsIn_wide.2 (HCC.out _ (bdrewN HBW.out _))).mono ?_; rintro e w5 ⟨A5, c5, rfl, how5, hb5⟩; have hb35 := Lib.hid (bch (balloc (bdrewN (Below.refl wr.heap.size wr) _) _) hb5); have hsr : SRs (W + W') w5 (⟨A5, L + L9, c5⟩, R) := (by obtain ⟨A6, c6', e6, h61, h62, h63⟩ := how5.shape valC_length; injection e6 with e7 e8 e9; subst e7; subst e9; exact ⟨HRR.out.2.2.1, HRR.out.1.symm, h61, h62, h63.sl⟩); have hyl := HY.out E pk ⟨(⟨A5, L + L9, c5⟩, R), HRR.out.2.2.1⟩ w5 (JB.out _ _ _ HK.out.1 hb35.out (Nat.le_trans hsz3 hb35.out.size)) hsr HRR.out.2.2.2; change YieldAt _ _ _ l #[.slice A5 (L + L9) c5] w5 _ at hyl; obtain ⟨fn, tmps, assign, body, hy, hRy⟩ := hyl; clear how5 hb5 hsr)
                  refine hRy.mono ?_
                  rintro e w6 (⟨rfl, hJ6, hk6'⟩ | ⟨rfl, hJx6⟩)
                  · have H6 := Lib.hid (And.intro hJ6 hk6')
                    clear hJ6 hk6' d0 d1 d90 d91 b1 b2 a2 c8 e3
                    gi_wp2
                    go_roundw
                    case rel => exact ⟨k + 1, _, by omega, by simp, H6.out.1, (HK.out.2.1.below hb35.out).trans H6.out.2, HRR.out.2.1.trans (by rw [List.map_append, ← Nat.add_assoc]; simp)⟩
                    case measure => simp [intOf]; omega
                  · have H6 := Lib.hid hJx6
                    clear hJx6
                    gi_wp2
                    refine bodyPost_ret (results_none rfl _ _ _) rfl ⟨⟨_, rfl⟩, .inr ⟨_, E, ?_, H6.out⟩⟩
                    refine ⟨mjOne xs ys ca cb (i : Int) (y.drop (f2 + k + 1)) ++ mjRows xs ys ca cb (x.drop (n + 1)) (y.drop f2), ?_⟩
                    rw [List.map_append]
                    exact Eq.trans (by simp) HRR.out.2.1.symm
                · have hne := fun z => neqVal (x := (false, M3)) (y := (false, N)) true (by simp [heq]) z
                  dsimp only at hne
                  have HST := Lib.hid (show G = pk.map (·.1.2) ++ mjRows xs ys ca cb (x.drop (n + 1)) (y.drop f2) by rw [HK.out.2.2, mjOne_stop hyk.out (by unfold eqB; rw [HM3.out, HL.out.2.1]; exact decide_eq_false heq), List.nil_append])
                  gi_wp2
                  gi_quiet (fail)
                  gi_wp2
                  go_roundw
                  case rel => exact ⟨n + 1, f2, pk, by omega, hf2, rfl, by simp, JB.out _ _ _ HK.out.1 (bdrewN (Below.refl _ _) _) (by simpa using hsz3), HK.out.2.1.below (bdrewN (Below.refl _ _) _), HST.out⟩
                  case measure => simp [intOf]; omega
              · have hk5 : ¬ ((k : Int) < ((y.length - f2 : Nat) : Int)) := by omega
                have hk6 : ¬ ((k : Int) < (y.length : Int) - (f2 : Int)) := by omega
                have HST := Lib.hid (show G = pk.map (·.1.2) ++ mjRows xs ys ca cb (x.drop (n + 1)) (y.drop f2) by rw [HK.out.2.2, mjOne_end (by omega), List.nil_append])
                gi_wp2
                go_roundw
                case rel => exact ⟨n + 1, f2, pk, by omega, hf2, rfl, by simp, HK.out.1, HK.out.2.1, HST.out⟩
                case measure => simp [intOf]; omega
        · have hf5 : ¬ ((f2 : Int) < (y.length : Int)) := by omega
          have hd5 : decide ((f2 : Int) < (y.length : Int)) = false := decide_eq_false hf5
          have HEQ := Lib.hid (HD.out.2.2.trans (dropW_end (by omega)))
          have HST := Lib.hid (show G = pre.map (·.1.2) ++ mjRows xs ys ca cb (x.drop (n + 1)) (y.drop f2) by rw [HQ.out.2.2, mjRows_cons hxe.out HEQ.out, mjOne_end (by omega), List.nil_append])
          obtain rfl : f2 = y.length := by omega
          by_cases hcy : cy = y.length
          · subst hcy
            gi_wp2
            gi_quiet (fail)
            gi_wp2
            gi_loopw [60] (fun iv wq => iv = .int .i64 0 ∧ J E pre wq ∧ KeepE w.heap.size E z2 wq) (fun iv _ => 0)
            case atStart => exact ⟨rfl, JB.out _ _ _ HD.out.1 (bdrewN (Below.refl _ _) _) (by simpa using hsz2), HD.out.2.1.below (bdrewN (Below.refl _ _) _)⟩
            case round =>
              obtain ⟨rfl, hj3, hk3⟩ := hrel
              have HK := Lib.hid (And.intro hj3 hk3)
              clear hj3 hk3
              gi_wp2
              go_roundw
              case rel => exact ⟨n + 1, y.length, pre, by omega, Nat.le_refl _, rfl, by simp, HK.out.1, HK.out.2, HST.out⟩
              case measure => simp [intOf]; omega
          · gi_wp2
            gi_quiet (fail)
            gi_wp2
            gi_loopw [60] (fun iv wq => iv = .int .i64 0 ∧ J E pre wq ∧ KeepE w.heap.size E z2 wq) (fun iv _ => 0)
            case atStart => exact ⟨rfl, JB.out _ _ _ HD.out.1 (bdrewN (Below.refl _ _) _) (by simpa using hsz2), HD.out.2.1.below (bdrewN (Below.refl _ _) _)⟩
            case round =>
              obtain ⟨rfl, hj3, hk3⟩ := hrel
              have HK := Lib.hid (And.intro hj3 hk3)
              clear hj3 hk3
              gi_wp2
              go_roundw
              case rel => exact ⟨n + 1, y.length, pre, by omega, Nat.le_refl _, rfl, by simp, HK.out.1, HK.out.2, HST.out⟩
              case measure => simp [intOf]; omega
    · obtain rfl : n = x.length := by omega
      gi_wp2
      go_end0
      refine ⟨⟨_, rfl⟩, .inl ⟨pre, E, ?_, HQ.out.1⟩⟩
      have := HQ.out.2.2
      rw [mjRows_end (Nat.le_refl _), List.append_nil] at this
      exact this.symm
end Go.Proofs.YtlhonhacehgooaaGreat

/-
  Contract of MergeJoin: the program's.
-/
namespace Go.Proofs.YtlhonhacehgooaaGreat
open Go.RowKit Go.Qo
set_option linter.unusedVariables false
set_option linter.unusedSimpArgs false

set_option maxHeartbeats 2000000 in
theorem canJoin_ok (W W' : Int) (A A' : Option Addr) (c c' : Nat) (xs ys : List Row1) (ca cb : Int) (w : World) (hn : xs.length ≤ 1048576) (hn' : ys.length ≤ 1048576) (h : Rws w w.heap.size A xs) (h' : Rws w w.heap.size A' ys)
    (q : Bool) (hq : q = true ↔ (((TabOk W xs ∧ 0 ≤ ca ∧ ca < W) ∧ (TabOk W' ys ∧ 0 ≤ cb ∧ cb < W')) ∧ W + W' ≤ 6)) :
    Calls Tryz.prog 61 #[.agg #[.int .i64 W, .slice A xs.length c], .agg #[.int .i64 W', .slice A' ys.length c'], .int .i64 ca, .int .i64 cb] w fun e w' => e = .returned (.bool q) ∧ Below w.heap.size w w' := by
  have Hq := Lib.hid hq
  obtain ⟨W0, hW0⟩ : ∃ z, (w.alloc (.cells #[.int .i64 W, .slice A xs.length c] 32)).alloc (.cells #[.int .i64 W', .slice A' ys.length c'] 32) = z := ⟨_, rfl⟩
  have B0 : Below w.heap.size w W0 := by rw [← hW0]; exact balloc (balloc (Below.refl _ _) _) _
  have r0 : Row W0 w.heap.size 32 [.int .i64 W, .slice A xs.length c] := by rw [← hW0]; exact Row.first _ _ _ _
  have r1 : Row W0 (w.heap.size + 1) 32 [.int .i64 W', .slice A' ys.length c'] := by rw [← hW0]; exact Row.second _ _ _ _
  obtain ⟨t1, ht1⟩ : ∃ t : Bool, t = true ↔ (TabOk W xs ∧ 0 ≤ ca ∧ ca < W) := ⟨_, @decide_eq_true_iff _ (Classical.propDecidable _)⟩
  obtain ⟨t2, ht2⟩ : ∃ t : Bool, t = true ↔ (TabOk W' ys ∧ 0 ≤ cb ∧ cb < W') := ⟨_, @decide_eq_true_iff _ (Classical.propDecidable _)⟩
  have H1 := Lib.hid (hasColumn_ok W ca A c xs W0 hn (h.on B0) t1 ht1)
  have H2 := Lib.hid (fun (z : World) (hz : Below w.heap.size w z) => hasColumn_ok W' cb A' c' ys z hn' (h'.on hz) t2 ht2)
  have Ht := Lib.hid (And.intro ht1 ht2)
  have HW := Lib.hid hW0
  have HB := Lib.hid (And.intro B0 (And.intro r0 r1))
  have a0 : W0.cell? ⟨w.heap.size, 0, none⟩ = some (.int .i64 W) := r0.cell 0
  have a1 : W0.cell? ⟨w.heap.size, 1, none⟩ = some (.slice A xs.length c) := r0.cell 1
  clear hq ht1 ht2 h h' B0 r0 r1 hW0
  cases t1
  · have hf : q = false := bfalse Hq.out fun ht => by have := Ht.out.1.2 ht.1.1; cases this
    subst hf
    go_enter Tryz.func61, Tryz.ntmps61
    go_upto_region 1 with fail
    rw [HW.out]
    go_wp2_with fail
    refine H1.out.mono ?_
    rintro e w1 ⟨rfl, hb1⟩
    have H1' := Lib.hid (bch HB.out.1 hb1)
    clear hb1 a0 a1
    go_wp2
    go_ret
    exact ⟨rfl, H1'.out⟩
  · cases t2
    · have hf : q = false := bfalse Hq.out fun ht => by have := Ht.out.2.2 ht.1.2; cases this
      subst hf
      go_enter Tryz.func61, Tryz.ntmps61
      go_upto_region 1 with fail
      rw [HW.out]
      go_wp2_with fail
      refine H1.out.mono ?_
      rintro e w1 ⟨rfl, hb1⟩
      have H1' := Lib.hid (bch HB.out.1 hb1)
      have b0 : w1.cell? ⟨w.heap.size + 1, 0, none⟩ = some (.int .i64 W') := (HB.out.2.2.on hb1).cell 0
      have b1 : w1.cell? ⟨w.heap.size + 1, 1, none⟩ = some (.slice A' ys.length c') := (HB.out.2.2.on hb1).cell 1
      clear hb1 a0 a1
      go_wp2_with fail
      refine (H2.out _ H1'.out).mono ?_
      rintro e w2 ⟨rfl, hb2⟩
      have H2' := Lib.hid (bch H1'.out hb2)
      clear hb2 b0 b1
      go_wp2
      go_ret
      exact ⟨rfl, H2'.out⟩
    · have hT1 := (Ht.out.1.1 rfl).1
      have hT2 := (Ht.out.2.1 rfl).1
      have hW1 := hT1.1
      have hW6 : W ≤ 6 := hT1.2.1
      have hW1' := hT2.1
      have hW6' : W' ≤ 6 := hT2.2.1
      have hwr : IntKind.i64.wrap (W + W') = W + W' := IntWalk.i64_in _ (by omega)
      have hqd : decide (W + W' ≤ 6) = q := by
        cases q
        · exact decide_eq_false fun h => by have := Hq.out.2 ⟨⟨Ht.out.1.1 rfl, Ht.out.2.1 rfl⟩, h⟩; cases this
        · exact decide_eq_true (Hq.out.1 rfl).2
      have HD := Lib.hid hqd
      clear hT1 hT2 hqd
      go_enter Tryz.func61, Tryz.ntmps61
      go_upto_region 1 with fail
      rw [HW.out]
      go_wp2_with fail
      refine H1.out.mono ?_
      rintro e w1 ⟨rfl, hb1⟩
      have H1' := Lib.hid (bch HB.out.1 hb1)
      have R1 := Lib.hid (And.intro (HB.out.2.1.on hb1) (HB.out.2.2.on hb1))
      have b0 : w1.cell? ⟨w.heap.size + 1, 0, none⟩ = some (.int .i64 W') := R1.out.2.cell 0
      have b1 : w1.cell? ⟨w.heap.size + 1, 1, none⟩ = some (.slice A' ys.length c') := R1.out.2.cell 1
      clear hb1 a0 a1
      go_wp2_with fail
      refine (H2.out _ H1'.out).mono ?_
      rintro e w2 ⟨rfl, hb2⟩
      have H2' := Lib.hid (bch H1'.out hb2)
      have a0 : w2.cell? ⟨w.heap.size, 0, none⟩ = some (.int .i64 W) := (R1.out.1.on hb2).cell 0
      have b0 : w2.cell? ⟨w.heap.size + 1, 0, none⟩ = some (.int .i64 W') := (R1.out.2.on hb2).cell 0
      clear hb2
      go_wp2
      go_ret
      exact ⟨congrArg (fun b => Ending.returned (Value.bool b)) HD.out, H2'.out⟩

theorem resMergeJoin {b : Nat} {v0 v1 : Value} {r : Bool} (tmps : Array Value) (hp : tmps.getD 8 undef = .pointer (some ⟨b, 0, none⟩)) (hr : tmps.getD 9 undef = .bool r) (w : World) (c0 : w.cell? ⟨b, 0, none⟩ = some v0) (c1 : w.cell? ⟨b, 1, none⟩ = some v1) :
    (results Tryz.f24 tmps).run Tryz.prog w = .ok (.tuple #[.agg #[v0, v1], .bool r]) w := by
  simp only [Array.getD_eq_getD_getElem?] at hp hr
  simp [results, Tryz.results24, go_sem, hp, hr, c0, c1]

set_option maxRecDepth 20000 in
set_option maxHeartbeats 4000000 in
theorem implMergeJoin_ok (W W' : Int) (A A' : Option Addr) (c c' : Nat) (xs ys : List Row1) (ca cb : Int) (w : World) (hn : xs.length ≤ 1048576) (hn' : ys.length ≤ 1048576) (h : Rws w w.heap.size A xs) (h' : Rws w w.heap.size A' ys)
    (q : Bool) (hq : q = true ↔ (((TabOk W xs ∧ 0 ≤ ca ∧ ca < W) ∧ (TabOk W' ys ∧ 0 ≤ cb ∧ cb < W')) ∧ W + W' ≤ 6)) :
    Calls Tryz.prog 24 #[.agg #[.int .i64 W, .slice A xs.length c], .agg #[.int .i64 W', .slice A' ys.length c'], .int .i64 ca, .int .i64 cb] w (TabRes q (W + W') (mjAll xs ys ca.toNat cb.toNat) w) := by
  have Hq := Lib.hid hq
  obtain ⟨W0, hW0⟩ : ∃ z, ((w.alloc (.cells #[.int .i64 W, .slice A xs.length c] 32)).alloc (.cells #[.int .i64 W', .slice A' ys.length c'] 32)).alloc (.cells #[.int .i64 0, .slice none 0 0] 32) = z := ⟨_, rfl⟩
  have B0 : Below w.heap.size w W0 := by rw [← hW0]; exact balloc (balloc (balloc (Below.refl _ _) _) _) _
  have r0 : Row W0 w.heap.size 32 [.int .i64 W, .slice A xs.length c] := by rw [← hW0]; exact ((Row.new _ _ _).alloc _).alloc _
  have r1 : Row W0 (w.heap.size + 1) 32 [.int .i64 W', .slice A' ys.length c'] := by rw [← hW0]; exact (Row.second _ _ _ _).alloc _
  have r2 : Row W0 (w.heap.size + 2) 32 [.int .i64 0, .slice none 0 0] := by rw [← hW0]; exact Row.third _ _ _ _ _
  have H1 := Lib.hid (canJoin_ok W W' A A' c c' xs ys ca cb W0 hn hn' (h.on B0) (h'.on B0) q hq)
  have HH := Lib.hid (And.intro h h')
  have HW := Lib.hid hW0
  have HB0 := Lib.hid B0
  have HR0 := Lib.hid (And.intro r0 (And.intro r1 r2))
  have a0 : W0.cell? ⟨w.heap.size, 0, none⟩ = some (.int .i64 W) := r0.cell 0
  have a1 : W0.cell? ⟨w.heap.size, 1, none⟩ = some (.slice A xs.length c) := r0.cell 1
  have b0 : W0.cell? ⟨w.heap.size + 1, 0, none⟩ = some (.int .i64 W') := r1.cell 0
  have b1 : W0.cell? ⟨w.heap.size + 1, 1, none⟩ = some (.slice A' ys.length c') := r1.cell 1
  clear hq h h' B0 r0 r1 r2 hW0
  cases q
  · go_enter Tryz.func24, Tryz.ntmps24
    go_upto_region 1 with fail
    rw [HW.out]
    go_wp2_with fail
    refine H1.out.mono ?_
    rintro e w1 ⟨rfl, hb1⟩
    have r2 := HR0.out.2.2.on hb1
    have e0 : w1.cell? ⟨w.heap.size + 2, 0, none⟩ = some (.int .i64 0) := r2.cell 0
    have e1 : w1.cell? ⟨w.heap.size + 2, 1, none⟩ = some (.slice none 0 0) := r2.cell 1
    have f0 := r2.frozen 0
    have f1 := r2.frozen 1
    have l2 := r2.lt
    have H1' := Lib.hid (bch HB0.out hb1)
    clear hb1 r2 a0 a1 b0 b1
    go_wp2
    refine bodyPost_ret (resMergeJoin (b := w.heap.size + 2) (r := false) _ rfl rfl _ (v0 := .int .i64 0) (v1 := .slice none 0 0) (by simp [go_sem, e0, e1, l2]) (by simp [go_sem, e0, e1, l2])) rfl ?_
    exact TabRes.no ((H1'.out.setCell (p := ⟨w.heap.size + 2, 0, none⟩) (by simp) _).setCell (p := ⟨w.heap.size + 2, 1, none⟩) (by simp) _)
  · obtain ⟨⟨⟨hT1, hca0, hca1⟩, ⟨hT2, hcb0, hcb1⟩⟩, h6⟩ := Hq.out.1 rfl
    have HT := Lib.hid (And.intro hT1 (And.intro hT2 (And.intro hca1 (And.intro hcb1 h6))))
    have hW1 := hT1.1
    have hW6 : W ≤ 6 := hT1.2.1
    have hW1' := hT2.1
    have hW6' : W' ≤ 6 := hT2.2.1
    obtain ⟨ci, rfl⟩ := Int.eq_ofNat_of_zero_le hca0
    obtain ⟨cj, rfl⟩ := Int.eq_ofNat_of_zero_le hcb0
    rw [Int.toNat_natCast, Int.toNat_natCast] at *
    have hwr : IntKind.i64.wrap (W + W') = W + W' := IntWalk.i64_in _ (by omega)
    clear hT1 hT2 hca0 hca1 hcb0 hcb1 h6
    go_enter Tryz.func24, Tryz.ntmps24
    go_upto_region 1 with fail
    rw [HW.out]
    go_wp2_with fail
    refine H1.out.mono ?_
    rintro e w2 ⟨rfl, hb2⟩
    have H2' := Lib.hid (bch HB0.out hb2)
    have R2 := Lib.hid (And.intro (HR0.out.1.on hb2) (And.intro (HR0.out.2.1.on hb2) (HR0.out.2.2.on hb2)))
    have KC := Lib.hid (fun (z : World) (hz : Below w2.heap.size w2 z) => show ((z.cell? ⟨w.heap.size, 0, none⟩ = some (.int .i64 W) ∧ z.cell? ⟨w.heap.size, 1, none⟩ = some (.slice A xs.length c)) ∧ (z.cell? ⟨w.heap.size + 1, 0, none⟩ = some (.int .i64 W') ∧ z.cell? ⟨w.heap.size + 1, 1, none⟩ = some (.slice A' ys.length c'))) from
      ⟨⟨(R2.out.1.on hz).cell 0, (R2.out.1.on hz).cell 1⟩, ⟨(R2.out.2.1.on hz).cell 0, (R2.out.2.1.on hz).cell 1⟩⟩)
    have KS := Lib.hid (fun (z : World) (hz : Below w2.heap.size w2 z) (u u' : Value) => show ((((z.setCell ⟨w.heap.size + 2, 0, none⟩ u).setCell ⟨w.heap.size + 2, 1, none⟩ u').cell? ⟨w.heap.size, 0, none⟩ = some (.int .i64 W) ∧ ((z.setCell ⟨w.heap.size + 2, 0, none⟩ u).setCell ⟨w.heap.size + 2, 1, none⟩ u').cell? ⟨w.heap.size, 1, none⟩ = some (.slice A xs.length c)) ∧ (((z.setCell ⟨w.heap.size + 2, 0, none⟩ u).setCell ⟨w.heap.size + 2, 1, none⟩ u').cell? ⟨w.heap.size + 1, 0, none⟩ = some (.int .i64 W') ∧ ((z.setCell ⟨w.heap.size + 2, 0, none⟩ u).setCell ⟨w.heap.size + 2, 1, none⟩ u').cell? ⟨w.heap.size + 1, 1, none⟩ = some (.slice A' ys.length c'))) from
      have k0 := (((R2.out.1.on hz).far (p := ⟨w.heap.size + 2, 0, none⟩) (by simp) u).far (p := ⟨w.heap.size + 2, 1, none⟩) (by simp) u')
      have k1 := (((R2.out.2.1.on hz).far (p := ⟨w.heap.size + 2, 0, none⟩) (by simp) u).far (p := ⟨w.heap.size + 2, 1, none⟩) (by simp) u')
      ⟨⟨k0.cell 0, k0.cell 1⟩, ⟨k1.cell 0, k1.cell 1⟩⟩)
    have D2 := Lib.hid (show Below w2.heap.size w2 w2.drew from (Below.refl _ _).drew)
    clear hb2 a0 a1 b0 b1
    have x2 := KC.out _ D2.out
    go_wp2_with fail
    go_region_held3 (fun z => ((z.cell? ⟨w.heap.size, 0, none⟩ = some (.int .i64 W) ∧ z.cell? ⟨w.heap.size, 1, none⟩ = some (.slice A xs.length c)) ∧ (z.cell? ⟨w.heap.size + 1, 0, none⟩ = some (.int .i64 W') ∧ z.cell? ⟨w.heap.size + 1, 1, none⟩ = some (.slice A' ys.length c'))))
      (first | assumption | exact KC.out _ H4.out | exact KC.out _ H5.out | exact KS.out _ H5.out _ _)
      (first
        | (go_at_call 62; refine (HCOL.out).mono ?_; rintro e w5 ⟨v5, cp, rfl, hcp, how5, hcc, hb5⟩; obtain ⟨A5, c5, rfl, _, _, _⟩ := how5.shape svC_length; generalize (cp.map (·.1)).length = nn at how5 ⊢; have H5 := Lib.hid (bch H4.out hb5); have x5 := KC.out _ H5.out; have r2 := R2.out.2.2.on H5.out; have e0 : w5.cell? ⟨w.heap.size + 2, 0, none⟩ = some (.int .i64 0) := r2.cell 0; have e1 : w5.cell? ⟨w.heap.size + 2, 1, none⟩ = some (.slice none 0 0) := r2.cell 1; have f0 := r2.frozen 0; have f1 := r2.frozen 1; have l2 := r2.lt; have F5 := Lib.hid (And.intro hcp (And.intro how5 (And.intro hcc (And.intro hb5 r2)))); clear hcp how5 hcc hb5 r2)
        | (go_at_call 63; refine (mergedRows_ok W W' ci cj _ _ _).mono ?_; rintro e w4 ⟨rfl, hb4, ra, rb, rac, rbc⟩; have H4 := Lib.hid (bch D2.out hb4); have x4 := KC.out _ H4.out; have HCOL := Lib.hid (collectR_ok (W + W') (mjAll xs ys ci cj).length 117 _ (mjAll xs ys ci cj) w4 entersMerged1 (mergedIt_ok W W' A A' c c' xs ys ci cj _ _ _ _ w4 HT.out.1 HT.out.2.1 HT.out.2.2.1 HT.out.2.2.2.1 HT.out.2.2.2.2 (HH.out.1.on (bch H2'.out H4.out)) (HH.out.2.on (bch H2'.out H4.out)) ra rb rac rbc)); clear hb4 ra rb rac rbc))
    all_goals
      go_wp2
      refine bodyPost_ret (resMergeJoin (b := w.heap.size + 2) (r := true) _ rfl rfl _ (v0 := .int .i64 (W + W')) (v1 := .slice A5 nn c5) (by simp [go_sem, e0, e1, l2]) (by simp [go_sem, e0, e1, l2])) rfl ?_
      obtain ⟨hcp, how, hcc, hb5, r2⟩ := F5.out
      exact TabRes.yes hcp how hcc (bch H2'.out H4.out) hb5 r2 (by omega)
end Go.Proofs.YtlhonhacehgooaaGreat
