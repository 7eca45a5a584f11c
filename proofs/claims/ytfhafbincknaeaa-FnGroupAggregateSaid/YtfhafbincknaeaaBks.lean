/-
  Several texts in one (BkD BkS BkP BkR).
-/
import Derived.Test.YtfhafbincknaeaaPln
import Derived.Test.YtfhafbincknaeaaProg
import Derived.Test.YtfhafbincknaeaaInts
import Derived.Test.YtfhafbincknaeaaMarkT
import Derived.Test.YtfhafbincknaeaaRwt
import Derived.Test.YtfhafbincknaeaaOrdW
import Derived.Test.YtfhafbincknaeaaTbg
import Derived.Deep.AppendLies
/-
  The sizes of buckets, in plain Lean.
-/
namespace Go.Qo
set_option linter.unusedVariables false
set_option linter.unusedSimpArgs false

/-- A row's bucket. -/
def bIdx (col : Int) (nb : Nat) (r : Row1) : Option Nat := if (getV r col).1 then none else some (((getV r col).2 + 9999) % (nb : Int)).toNat
def bRows (col : Int) (nb : Nat) (rows : List Row1) (k : Nat) : List Row1 := rows.filter fun r => bIdx col nb r == some k
def bSizes (col : Int) (nb : Nat) (rows : List Row1) : List Int := (List.range nb).map fun (k : Nat) => ((bRows col nb rows k).length : Int)
theorem bSizes_length (col : Int) (nb : Nat) (rows : List Row1) : (bSizes col nb rows).length = nb := by simp [bSizes]
theorem bSizes_get {col : Int} {nb : Nat} {rows : List Row1} {k : Nat} (hk : k < nb) : (bSizes col nb rows)[k]? = some ((bRows col nb rows k).length : Int) := by
  simp [bSizes, List.getElem?_map, List.getElem?_range hk]
theorem bRows_snoc (col : Int) (nb : Nat) (rows : List Row1) (r : Row1) (k : Nat) : bRows col nb (rows ++ [r]) k = if bIdx col nb r = some k then bRows col nb rows k ++ [r] else bRows col nb rows k := by
  unfold bRows
  rw [List.filter_append]
  by_cases h : bIdx col nb r = some k
  · simp [h]
  · simp [h]
theorem bSizes_none {col : Int} {nb : Nat} {rows : List Row1} {r : Row1} (h : bIdx col nb r = none) : bSizes col nb (rows ++ [r]) = bSizes col nb rows := by
  unfold bSizes
  apply List.map_congr_left
  intro k _
  rw [bRows_snoc, if_neg (by rw [h]; simp)]
theorem bSizes_some {col : Int} {nb : Nat} {rows : List Row1} {r : Row1} {j : Nat} (h : bIdx col nb r = some j) (hj : j < nb) : bSizes col nb (rows ++ [r]) = (bSizes col nb rows).set j ((bRows col nb rows j).length + 1) := by
  apply List.ext_getElem?
  intro k
  by_cases hk : k < nb
  · rw [bSizes_get hk, bRows_snoc, h, List.getElem?_set]
    by_cases e : j = k
    · subst e
      simp [bSizes_length, hj]
    · rw [if_neg (by simpa using e), if_neg e, bSizes_get hk]
  · rw [List.getElem?_eq_none (by rw [bSizes_length]; omega), List.getElem?_eq_none (by rw [List.length_set, bSizes_length]; omega)]
theorem bIdx_lt {col : Int} {nb : Nat} {r : Row1} {j : Nat} (h : bIdx col nb r = some j) (hnb : 0 < nb) : j < nb := by
  unfold bIdx at h
  split at h
  · cases h
  · injection h with h
    have h1 := Int.emod_nonneg ((getV r col).2 + 9999) (show (nb : Int) ≠ 0 by omega)
    have h2 := Int.emod_lt_of_pos ((getV r col).2 + 9999) (show (0 : Int) < nb by omega)
    omega
theorem bSizes_zero (col : Int) (nb : Nat) : bSizes col nb [] = List.replicate nb 0 := by
  unfold bSizes bRows
  simp
  induction nb with
  | zero => rfl
  | succ n ih => rw [List.range_succ, List.map_append, ih, List.replicate_succ']; rfl
end Go.Qo

/-
  Contract of BucketSizes: the reference's.
-/
namespace Go.Proofs.Ytfhafbincknaeaa
open Go.RowKit Go.Qo
set_option linter.unusedVariables false
set_option linter.unusedSimpArgs false

theorem zeroInt : (Try.prog.info? 3).map (fun i => (i.zero, i.size, i.bytes)) = some (some (.int .i64 0), 1, 8) := by kernel_rfl
/-- A list of numbers, of the call's own. -/
def SomeInts (xs : List Int) (w : World) (e : Ending) (w' : World) : Prop := ∃ v, e = .returned v ∧ Ow w.heap.size 3 1 intC w' v xs ∧ Below w.heap.size w w'
def BkOk (W col nb : Int) (rows : List Row1) : Prop := TabOk W rows ∧ (0 ≤ col ∧ col < W) ∧ 1 ≤ nb ∧ nb ≤ 1000
theorem zeros_bk (col : Int) (m : Nat) : (madeCells #[.int .i64 0] m).toList = (bSizes col m []).flatMap intC := by
  have h := made_zeros [.int .i64 0] m
  simp only [List.length_cons, List.length_nil, Nat.zero_add, Nat.mul_one] at h
  rw [show (#[.int .i64 0] : Array Value) = [.int .i64 0].toArray from rfl, h, bSizes_zero]
  induction m with
  | zero => rfl
  | succ n ih => rw [zeros_succ, List.replicate_succ, List.flatMap_cons, ← ih (by simpa using made_zeros [.int .i64 0] n)]; rfl

end Go.Proofs.Ytfhafbincknaeaa

/-
  Contracts of hasColumn, validBuckets: the program's.
-/
namespace Go.Proofs.Ytfhafbincknaeaa
open Go.RowKit Go.Qo
set_option linter.unusedVariables false
set_option linter.unusedSimpArgs false

set_option maxHeartbeats 1000000 in
theorem hasColumn_ok (W col : Int) (A : Option Addr) (c : Nat) (rows : List Row1) (w : World) (hn : rows.length ≤ 1048576) (h : Rws w w.heap.size A rows) (r : Bool) (hr : r = true ↔ (TabOk W rows ∧ 0 ≤ col ∧ col < W)) :
    Calls Try.prog 24 #[.agg #[.int .i64 W, .slice A rows.length c], .int .i64 col] w fun e w' => e = .returned (.bool r) ∧ Below w.heap.size w w' := by
  have Hr := Lib.hid hr
  have B0 := Lib.hid (balloc (Below.refl w.heap.size w) (.cells #[.int .i64 W, .slice A rows.length c] 29))
  have R0 := Lib.hid ((Row.new w 29 #[.int .i64 W, .slice A rows.length c]))
  obtain ⟨t, ht⟩ : ∃ t : Bool, t = true ↔ TabOk W rows := ⟨_, @decide_eq_true_iff _ (Classical.propDecidable _)⟩
  have HT := Lib.hid (implValidTable_ok W A c rows _ (by unfold maxLen; omega) (h.on B0.out) t ht)
  have Ht := Lib.hid ht
  clear ht hr h
  cases t
  · have hf : r = false := bfalse Hr.out fun h => absurd (Ht.out.2 h.1) (by simp)
    subst hf
    go_enter Try.func24, Try.ntmps24
    go_wp2_with fail
    refine HT.out.mono ?_
    rintro e w1 ⟨rfl, hb1⟩
    go_wp2
    go_ret
    exact ⟨rfl, bch B0.out hb1⟩
  · have hto := Lib.hid (Ht.out.1 rfl)
    by_cases h1 : 0 ≤ col
    · obtain ⟨q, hq⟩ : ∃ q, decide (col < W) = q := ⟨_, rfl⟩
      have hrq : r = q := by
        cases q
        · exact bfalse Hr.out fun h => by have := of_decide_eq_false hq; exact this h.2.2
        · exact Hr.out.2 ⟨hto.out, h1, of_decide_eq_true hq⟩
      subst hrq
      go_enter Try.func24, Try.ntmps24
      go_wp2_with fail
      refine HT.out.mono ?_
      rintro e w1 ⟨rfl, hb1⟩
      have r1 := R0.out.on hb1
      have e0 : w1.cell? ⟨w.heap.size, 0, none⟩ = some (.int .i64 W) := r1.cell 0
      have H1 := Lib.hid hb1
      clear hb1 r1
      go_wp2
      go_ret
      exact ⟨rfl, bch B0.out H1.out⟩
    · have hf : r = false := bfalse Hr.out fun h => h1 h.2.1
      subst hf
      go_enter Try.func24, Try.ntmps24
      go_wp2_with fail
      refine HT.out.mono ?_
      rintro e w1 ⟨rfl, hb1⟩
      go_wp2
      go_ret
      exact ⟨rfl, bch B0.out hb1⟩
end Go.Proofs.Ytfhafbincknaeaa

/-
  Contract of bucketRows: the program's. Buckets of the call's own, in blocks of their own.
-/
namespace Go.Proofs.Ytfhafbincknaeaa
open Go.RowKit Go.Qo
set_option linter.unusedVariables false
set_option linter.unusedSimpArgs false

theorem zeroBk : (Try.prog.info? 27).map (fun i => (i.zero, i.size, i.bytes)) = some (some (.slice none 0 0), 1, 24) := by kernel_rfl
def svV (s : SV) : Value := .slice s.A s.n s.c
/-- Buckets: the slices vs, each of the call's own (or nil), no two in one block; the rows that they hold read in the first world w as bks. -/
structure Bks (w : World) (wr : World) (vs : List SV) (bks : List (List Row1)) : Prop where
  len : vs.length = bks.length
  own : ∀ (k : Nat) (s : SV) (b : List Row1), vs[k]? = some s → bks[k]? = some b → ∃ l : List SV, s.n = l.length ∧ Ow w.heap.size 42 1 svC wr (svV s) l ∧ l.length = b.length ∧ ∀ (i : Nat) (sv : SV) (r : Row1), l[i]? = some sv → b[i]? = some r → SVIs 2 valC w w.heap.size sv r
  apart : ∀ (j k : Nat) (s t : SV) (g : Nat), vs[j]? = some s → vs[k]? = some t → (svV s).ownBlock = some g → (svV t).ownBlock = some g → j = k

/-- A block that no bucket has may change. -/
theorem Bks.keep {w wr wr' : World} {vs : List SV} {bks : List (List Row1)} (h : Bks w wr vs bks) (hk : ∀ b, w.heap.size ≤ b → b < wr.heap.size → TyAt wr b 42 → wr'.heap[b]? = wr.heap[b]?) : Bks w wr' vs bks :=
  ⟨h.len, fun k s b h1 h2 => by obtain ⟨l, a, b', c, d⟩ := h.own k s b h1 h2; exact ⟨l, a, b'.keep hk, c, d⟩, h.apart⟩
theorem Bks.on {w wr wr' : World} {vs : List SV} {bks : List (List Row1)} (h : Bks w wr vs bks) (hb : Below wr.heap.size wr wr') : Bks w wr' vs bks := h.keep fun b _ hl _ => hb.block b hl
/-- One bucket grows by one row. -/
theorem Bks.put {w wr wr' : World} {vs : List SV} {bks : List (List Row1)} (h : Bks w wr vs bks) {j : Nat} {s : SV} {b : List Row1} {l : List SV} (hs : vs[j]? = some s) (hb : bks[j]? = some b) (hl : l.length = b.length) (hr : ∀ (i : Nat) (sv : SV) (r : Row1), l[i]? = some sv → b[i]? = some r → SVIs 2 valC w w.heap.size sv r)
    {g cap : Nat} {sv : SV} {r : Row1} (hsv : SVIs 2 valC w w.heap.size sv r) (hown : Ow w.heap.size 42 1 svC wr' (.slice (some ⟨g, 0, none⟩) (l ++ [sv]).length cap) (l ++ [sv])) (hg : wr.grownBy wr' (svV s).ownBlock) (hat : (svV s).ownBlock = some g ∨ g = wr.heap.size) :
    Bks w wr' (vs.set j ⟨some ⟨g, 0, none⟩, (l ++ [sv]).length, cap⟩) (bks.set j (b ++ [r])) := by
  have hblk : ∀ (k : Nat) (t : SV) (q : Nat), k ≠ j → vs[k]? = some t → (svV t).ownBlock = some q → q ≠ g ∧ wr'.heap[q]? = wr.heap[q]? := by
    intro k t q hkj ht hq
    have hkb : ∃ bk, bks[k]? = some bk := by
      have := (List.getElem?_eq_some_iff.1 ht).1
      exact ⟨_, List.getElem?_eq_getElem (by rw [← h.len]; exact this)⟩
    obtain ⟨bk, hbk⟩ := hkb
    obtain ⟨lk, _, how, _, _⟩ := h.own k t bk ht hbk
    have hlt := (how.ty q hq).2.1
    refine ⟨?_, hg.block q hlt fun e => ?_⟩
    · rintro rfl
      rcases hat with h1 | h1
      · exact hkj (h.apart k j t s q ht hs hq h1)
      · omega
    · exact hkj (h.apart k j t s q ht hs hq e.symm)
  refine ⟨by simp [h.len], fun k s' b' h1 h2 => ?_, fun j' k' s' t' q h1 h2 h3 h4 => ?_⟩
  · rw [List.getElem?_set] at h1 h2
    by_cases e : j = k
    · subst e
      rw [if_pos rfl] at h1 h2
      split at h1 <;> cases h1
      split at h2 <;> cases h2
      refine ⟨l ++ [sv], rfl, hown, by simp [hl], fun i sv' r' h3 h4 => ?_⟩
      rw [List.getElem?_append] at h3 h4
      rw [← hl] at h4
      split at h3
      · rename_i hi; rw [if_pos hi] at h4; exact hr i sv' r' h3 h4
      · rename_i hi
        rw [if_neg hi] at h4
        cases hj : i - l.length with
        | zero => rw [hj] at h3 h4; simp only [List.getElem?_cons_zero, Option.some.injEq] at h3 h4; subst h3; subst h4; exact hsv
        | succ m => rw [hj] at h3; simp at h3
    · rw [if_neg e] at h1 h2
      obtain ⟨lk, a1, a2, a3, a4⟩ := h.own k s' b' h1 h2
      refine ⟨lk, a1, ?_, a3, a4⟩
      refine ⟨a2.1, ?_⟩
      rcases a2.2 with h5 | ⟨g', cap', cur, hv, hg', hh, rest⟩
      · exact .inl h5
      · exact .inr ⟨g', cap', cur, hv, hg', (hblk k s' g' (fun e' => e e'.symm) h1 (by rw [hv]; rfl)).2.trans hh, rest⟩
  · rw [List.getElem?_set] at h1 h2
    by_cases e : j = j'
    · subst e
      by_cases e' : j = k'
      · exact e'
      · rw [if_neg e'] at h2
        rw [if_pos rfl] at h1
        split at h1 <;> cases h1
        cases h3
        exact absurd rfl (hblk k' t' g (fun x => e' x.symm) h2 h4).1
    · rw [if_neg e] at h1
      by_cases e' : j = k'
      · subst e'
        rw [if_pos rfl] at h2
        split at h2 <;> cases h2
        cases h4
        exact absurd rfl (hblk j' s' g (fun x => e x.symm) h1 h3).1
      · rw [if_neg e'] at h2
        exact h.apart j' k' s' t' q h1 h2 h3 h4
def bLists (col : Int) (nb : Nat) (rows : List Row1) : List (List Row1) := (List.range nb).map fun (k : Nat) => bRows col nb rows k
theorem bLists_length (col : Int) (nb : Nat) (rows : List Row1) : (bLists col nb rows).length = nb := by simp [bLists]
theorem bLists_get {col : Int} {nb : Nat} {rows : List Row1} {k : Nat} (hk : k < nb) : (bLists col nb rows)[k]? = some (bRows col nb rows k) := by
  simp [bLists, List.getElem?_map, List.getElem?_range hk]
theorem bLists_none {col : Int} {nb : Nat} {rows : List Row1} {r : Row1} (h : bIdx col nb r = none) : bLists col nb (rows ++ [r]) = bLists col nb rows := by
  unfold bLists
  apply List.map_congr_left
  intro k _
  rw [bRows_snoc, if_neg (by rw [h]; simp)]
theorem bLists_some {col : Int} {nb : Nat} {rows : List Row1} {r : Row1} {j : Nat} (h : bIdx col nb r = some j) (hj : j < nb) : bLists col nb (rows ++ [r]) = (bLists col nb rows).set j (bRows col nb rows j ++ [r]) := by
  apply List.ext_getElem?
  intro k
  by_cases hk : k < nb
  · rw [bLists_get hk, bRows_snoc, h, List.getElem?_set]
    by_cases e : j = k
    · subst e
      simp [bLists_length, hj]
    · rw [if_neg (by simpa using e), if_neg e, bLists_get hk]
  · rw [List.getElem?_eq_none (by rw [bLists_length]; omega), List.getElem?_eq_none (by rw [List.length_set, bLists_length]; omega)]
theorem bLists_nil (col : Int) (nb : Nat) : bLists col nb [] = List.replicate nb [] := by
  unfold bLists bRows
  simp
  induction nb with
  | zero => rfl
  | succ n ih => rw [List.range_succ, List.map_append, ih, List.replicate_succ']; rfl
theorem Bks.start (w wr : World) (m : Nat) : Bks w wr (List.replicate m ⟨none, 0, 0⟩) (List.replicate m []) := by
  refine ⟨by simp, fun k s b h1 h2 => ?_, fun j k s t g h1 h2 h3 h4 => ?_⟩
  · have e1 := List.eq_of_mem_replicate (List.mem_of_getElem? h1)
    have e2 := List.eq_of_mem_replicate (List.mem_of_getElem? h2)
    subst e1
    subst e2
    exact ⟨[], rfl, Ow.nil, rfl, fun i sv r h => by simp at h⟩
  · have e1 := List.eq_of_mem_replicate (List.mem_of_getElem? h1)
    subst e1
    cases h3
theorem zeros_sv (m : Nat) : (madeCells #[.slice none 0 0] m).toList = (List.replicate m (⟨none, 0, 0⟩ : SV)).flatMap svC := by
  have h := made_zeros [.slice none 0 0] m
  simp only [List.length_cons, List.length_nil, Nat.zero_add, Nat.mul_one] at h
  rw [show (#[.slice none 0 0] : Array Value) = [.slice none 0 0].toArray from rfl, h]
  clear h
  induction m with
  | zero => rfl
  | succ n ih => rw [zeros_succ, List.replicate_succ, List.flatMap_cons, ← ih]; rfl

def BkRes (col : Int) (m : Nat) (rows : List Row1) (w : World) (e : Ending) (w' : World) : Prop :=
  ∃ (ob : Nat) (vs : List SV), e = .returned (.slice (some ⟨ob, 0, none⟩) m m) ∧ w.heap.size ≤ ob ∧ vs.length = m ∧ Row w' ob 27 (vs.flatMap svC) ∧ Bks w w' vs (bLists col m rows) ∧ Below w.heap.size w w'

end Go.Proofs.Ytfhafbincknaeaa
