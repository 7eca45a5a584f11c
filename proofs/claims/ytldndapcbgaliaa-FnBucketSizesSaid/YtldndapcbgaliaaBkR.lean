/-
  Contract of bucketRows: the program's. Buckets of the call's own, in blocks of their own.
-/
import Derived.Test.YtldndapcbgaliaaProg
import Derived.Test.YtldndapcbgaliaaBkP
import Derived.Deep.AppendLies
namespace Go.Proofs.Ytldndapcbgaliaa
open Go.RowKit Go.Qo
set_option linter.unusedVariables false
set_option linter.unusedSimpArgs false

theorem zeroBk : (Try.prog.info? 23).map (fun i => (i.zero, i.size, i.bytes)) = some (some (.slice none 0 0), 1, 24) := by kernel_rfl
def svV (s : SV) : Value := .slice s.A s.n s.c
/-- Buckets: the slices vs, each of the call's own (or nil), no two in one block; the rows that they hold read in the first world w as bks. -/
structure Bks (w : World) (wr : World) (vs : List SV) (bks : List (List Row1)) : Prop where
  len : vs.length = bks.length
  own : ∀ (k : Nat) (s : SV) (b : List Row1), vs[k]? = some s → bks[k]? = some b → ∃ l : List SV, s.n = l.length ∧ Ow w.heap.size 41 1 svC wr (svV s) l ∧ l.length = b.length ∧ ∀ (i : Nat) (sv : SV) (r : Row1), l[i]? = some sv → b[i]? = some r → SVIs 2 valC w w.heap.size sv r
  apart : ∀ (j k : Nat) (s t : SV) (g : Nat), vs[j]? = some s → vs[k]? = some t → (svV s).ownBlock = some g → (svV t).ownBlock = some g → j = k

/-- A block that no bucket has may change. -/
theorem Bks.keep {w wr wr' : World} {vs : List SV} {bks : List (List Row1)} (h : Bks w wr vs bks) (hk : ∀ b, w.heap.size ≤ b → b < wr.heap.size → TyAt wr b 41 → wr'.heap[b]? = wr.heap[b]?) : Bks w wr' vs bks :=
  ⟨h.len, fun k s b h1 h2 => by obtain ⟨l, a, b', c, d⟩ := h.own k s b h1 h2; exact ⟨l, a, b'.keep hk, c, d⟩, h.apart⟩
theorem Bks.on {w wr wr' : World} {vs : List SV} {bks : List (List Row1)} (h : Bks w wr vs bks) (hb : Below wr.heap.size wr wr') : Bks w wr' vs bks := h.keep fun b _ hl _ => hb.block b hl
/-- One bucket grows by one row. -/
theorem Bks.put {w wr wr' : World} {vs : List SV} {bks : List (List Row1)} (h : Bks w wr vs bks) {j : Nat} {s : SV} {b : List Row1} {l : List SV} (hs : vs[j]? = some s) (hb : bks[j]? = some b) (hl : l.length = b.length) (hr : ∀ (i : Nat) (sv : SV) (r : Row1), l[i]? = some sv → b[i]? = some r → SVIs 2 valC w w.heap.size sv r)
    {g cap : Nat} {sv : SV} {r : Row1} (hsv : SVIs 2 valC w w.heap.size sv r) (hown : Ow w.heap.size 41 1 svC wr' (.slice (some ⟨g, 0, none⟩) (l ++ [sv]).length cap) (l ++ [sv])) (hg : wr.grownBy wr' (svV s).ownBlock) (hat : (svV s).ownBlock = some g ∨ g = wr.heap.size) :
    Bks w wr' (vs.set j ⟨some ⟨g, 0, none⟩, (l ++ [sv]).length, cap⟩) (bks.set j (b ++ [r])) := by
  have hblk : ∀ (k : Nat) (t : SV) (q : Nat), k ≠ j → vs[k]? = some t → (svV t).ownBlock = some q → q ≠ g ∧ wr'.heap[q]? = wr.heap[q]? := by
    intro k t q hkj ht hq
    have hkb : ∃ bk, bks[k]? = some bk := by
      have := (List.getElem?_eq_some_iff.1 ht).1
      exact ⟨_, List.getElem?_eq_getElem (by rw [← h.len]; exact this)⟩
    obtain ⟨bk, hbk⟩ := hkb
    obtain ⟨lk, _, how, _, _⟩ := h.own k t bk ht hbk
    have hlt := (how.ty q hq).2.1
    refine ⟨?_, hg.block q hlt fun e => ?_⟩
    · rintro rfl
      rcases hat with h1 | h1
      · exact hkj (h.apart k j t s q ht hs hq h1)
      · omega
    · exact hkj (h.apart k j t s q ht hs hq e.symm)
  refine ⟨by simp [h.len], fun k s' b' h1 h2 => ?_, fun j' k' s' t' q h1 h2 h3 h4 => ?_⟩
  · rw [List.getElem?_set] at h1 h2
    by_cases e : j = k
    · subst e
      rw [if_pos rfl] at h1 h2
      split at h1 <;> cases h1
      split at h2 <;> cases h2
      refine ⟨l ++ [sv], rfl, hown, by simp [hl], fun i sv' r' h3 h4 => ?_⟩
      rw [List.getElem?_append] at h3 h4
      rw [← hl] at h4
      split at h3
      · rename_i hi; rw [if_pos hi] at h4; exact hr i sv' r' h3 h4
      · rename_i hi
        rw [if_neg hi] at h4
        cases hj : i - l.length with
        | zero => rw [hj] at h3 h4; simp only [List.getElem?_cons_zero, Option.some.injEq] at h3 h4; subst h3; subst h4; exact hsv
        | succ m => rw [hj] at h3; simp at h3
    · rw [if_neg e] at h1 h2
      obtain ⟨lk, a1, a2, a3, a4⟩ := h.own k s' b' h1 h2
      refine ⟨lk, a1, ?_, a3, a4⟩
      refine ⟨a2.1, ?_⟩
      rcases a2.2 with h5 | ⟨g', cap', cur, hv, hg', hh, rest⟩
      · exact .inl h5
      · exact .inr ⟨g', cap', cur, hv, hg', (hblk k s' g' (fun e' => e e'.symm) h1 (by rw [hv]; rfl)).2.trans hh, rest⟩
  · rw [List.getElem?_set] at h1 h2
    by_cases e : j = j'
    · subst e
      by_cases e' : j = k'
      · exact e'
      · rw [if_neg e'] at h2
        rw [if_pos rfl] at h1
        split at h1 <;> cases h1
        cases h3
        exact absurd rfl (hblk k' t' g (fun x => e' x.symm) h2 h4).1
    · rw [if_neg e] at h1
      by_cases e' : j = k'
      · subst e'
        rw [if_pos rfl] at h2
        split at h2 <;> cases h2
        cases h4
        exact absurd rfl (hblk j' s' g (fun x => e x.symm) h1 h3).1
      · rw [if_neg e'] at h2
        exact h.apart j' k' s' t' q h1 h2 h3 h4
def bLists (col : Int) (nb : Nat) (rows : List Row1) : List (List Row1) := (List.range nb).map fun (k : Nat) => bRows col nb rows k
theorem bLists_length (col : Int) (nb : Nat) (rows : List Row1) : (bLists col nb rows).length = nb := by simp [bLists]
theorem bLists_get {col : Int} {nb : Nat} {rows : List Row1} {k : Nat} (hk : k < nb) : (bLists col nb rows)[k]? = some (bRows col nb rows k) := by
  simp [bLists, List.getElem?_map, List.getElem?_range hk]
theorem bLists_none {col : Int} {nb : Nat} {rows : List Row1} {r : Row1} (h : bIdx col nb r = none) : bLists col nb (rows ++ [r]) = bLists col nb rows := by
  unfold bLists
  apply List.map_congr_left
  intro k _
  rw [bRows_snoc, if_neg (by rw [h]; simp)]
theorem bLists_some {col : Int} {nb : Nat} {rows : List Row1} {r : Row1} {j : Nat} (h : bIdx col nb r = some j) (hj : j < nb) : bLists col nb (rows ++ [r]) = (bLists col nb rows).set j (bRows col nb rows j ++ [r]) := by
  apply List.ext_getElem?
  intro k
  by_cases hk : k < nb
  · rw [bLists_get hk, bRows_snoc, h, List.getElem?_set]
    by_cases e : j = k
    · subst e
      simp [bLists_length, hj]
    · rw [if_neg (by simpa using e), if_neg e, bLists_get hk]
  · rw [List.getElem?_eq_none (by rw [bLists_length]; omega), List.getElem?_eq_none (by rw [List.length_set, bLists_length]; omega)]
theorem bLists_nil (col : Int) (nb : Nat) : bLists col nb [] = List.replicate nb [] := by
  unfold bLists bRows
  simp
  induction nb with
  | zero => rfl
  | succ n ih => rw [List.range_succ, List.map_append, ih, List.replicate_succ']; rfl
theorem Bks.start (w wr : World) (m : Nat) : Bks w wr (List.replicate m ⟨none, 0, 0⟩) (List.replicate m []) := by
  refine ⟨by simp, fun k s b h1 h2 => ?_, fun j k s t g h1 h2 h3 h4 => ?_⟩
  · have e1 := List.eq_of_mem_replicate (List.mem_of_getElem? h1)
    have e2 := List.eq_of_mem_replicate (List.mem_of_getElem? h2)
    subst e1
    subst e2
    exact ⟨[], rfl, Ow.nil, rfl, fun i sv r h => by simp at h⟩
  · have e1 := List.eq_of_mem_replicate (List.mem_of_getElem? h1)
    subst e1
    cases h3
theorem zeros_sv (m : Nat) : (madeCells #[.slice none 0 0] m).toList = (List.replicate m (⟨none, 0, 0⟩ : SV)).flatMap svC := by
  have h := made_zeros [.slice none 0 0] m
  simp only [List.length_cons, List.length_nil, Nat.zero_add, Nat.mul_one] at h
  rw [show (#[.slice none 0 0] : Array Value) = [.slice none 0 0].toArray from rfl, h]
  clear h
  induction m with
  | zero => rfl
  | succ n ih => rw [zeros_succ, List.replicate_succ, List.flatMap_cons, ← ih]; rfl

def BkRes (col : Int) (m : Nat) (rows : List Row1) (w : World) (e : Ending) (w' : World) : Prop :=
  ∃ (ob : Nat) (vs : List SV), e = .returned (.slice (some ⟨ob, 0, none⟩) m m) ∧ w.heap.size ≤ ob ∧ vs.length = m ∧ Row w' ob 23 (vs.flatMap svC) ∧ Bks w w' vs (bLists col m rows) ∧ Below w.heap.size w w'

set_option maxRecDepth 20000 in
set_option maxHeartbeats 2000000 in
theorem bucketRows_ok (W : Int) (cl m : Nat) (A : Option Addr) (c : Nat) (rows : List Row1) (w : World) (hto : TabOk W rows) (hcl : (cl : Int) < W) (hm1 : 1 ≤ m) (hm2 : m ≤ 1000) (h : Rws w w.heap.size A rows) :
    Calls Try.prog 86 #[.agg #[.int .i64 W, .slice A rows.length c], .int .i64 cl, .int .i64 m] w (BkRes cl m rows w) := by
  have HH := Lib.hid h
  have Hto := Lib.hid hto
  have hr4 := hto.2.2.1
  have hmk := run_make_rowN (P := Try.prog) 105 23 _ _ _ Try.underlying105 zeroBk .i64 .i64 m (by omega) (by omega)
  clear h hto
  go_enter Try.func86, Try.ntmps86
  go_wp2
  go_loopg [17] rows.length (fun g iv wr => ∃ (i : Nat) (vs : List SV), i ≤ rows.length ∧ g = rows.length - i ∧ iv = .int .i64 i ∧ vs.length = m ∧ Below w.heap.size w wr ∧ Row wr (w.heap.size + 1) 23 (vs.flatMap svC) ∧ Bks w wr vs (bLists cl m (rows.take i)))
  case atStart => exact ⟨0, List.replicate m ⟨none, 0, 0⟩, by omega, by omega, rfl, by simp, balloc (balloc (Below.refl _ _) _) _, (Row.second _ _ _ _).of (zeros_sv m), by rw [List.take_zero, bLists_nil]; exact Bks.start _ _ _⟩
  case round =>
    obtain ⟨i, vs, hi, rfl, rfl, hvl, hb, hrow, hbk⟩ := hrel
    have hol := hrow.lt
    have HB := Lib.hid (And.intro hb (And.intro hrow (And.intro hbk hvl)))
    have hb8 := hb.size
    clear hb hrow hbk hvl
    by_cases hlt : i < rows.length
    · obtain ⟨b2, off2, A2, C2, hA2, hB2, c2, hc21, hm2', s2⟩ := (HH.out.on HB.out.1).at_ hlt
      have hx := Lib.hid (List.getElem?_eq_getElem hlt)
      have hxv := Hto.out.row (List.getElem?_eq_getElem hlt)
      have hsvis : ∃ svx : SV, svC svx = [.slice A2 rows[i].length C2] ∧ SVIs 2 valC w w.heap.size svx rows[i] := by
        obtain ⟨bq, offq, Aq, Cq, hAq, hBq, cq, hcq1, hmq, sq⟩ := HH.out.at_ hlt
        have hee := (HB.out.1.cell (p := ⟨bq, offq + i, none⟩) hBq).trans cq
        rw [hA2] at hAq
        cases hAq
        rw [c2] at hee
        cases hee
        exact ⟨⟨A2, _, C2⟩, rfl, rfl, hcq1, hmq, sq⟩
      have HSV := Lib.hid hsvis
      clear hsvis
      generalize rows[i] = x at *
      subst hA2
      have hcx : cl < x.length := by have := hxv.2; omega
      have hxl6 := (rowLen hxv.1).2
      obtain ⟨b3, off3, hA3, hB3, d1, d2⟩ := Val.at_ s2 hcx
      subst hA3
      have hgv : getV x cl = x[cl] := getV_eq hcx
      have hvv : vValid x[cl] = true := by
        have h1 := hxv.1
        simp only [rowValid, Bool.and_eq_true, List.all_eq_true] at h1
        exact h1.2 _ (List.getElem_mem hcx)
      have Hgv := Lib.hid hgv
      generalize x[cl] = v at *
      obtain ⟨v1, v2⟩ := v
      dsimp only at d1 d2
      have hvb : v1 = false → -9999 ≤ v2 ∧ v2 ≤ 9999 := fun e => by
        subst e
        simp only [vValid, Bool.and_eq_true, decide_eq_true_eq] at hvv
        simpa using hvv
      have Hvb := Lib.hid hvb
      have HX2 := Lib.hid (show rows.take (i + 1) = rows.take i ++ [x] by rw [List.take_add_one, hx.out]; rfl)
      clear s2 hgv hc21 hm2' hxv hvb hvv
      cases v1
      · have hv := Hvb.out rfl
        have hv0 : 0 ≤ v2 + 9999 := by omega
        have hm0 : ¬ ((m : Int) = 0) := by omega
        obtain ⟨j, hj⟩ : ∃ j : Nat, (v2 + 9999) % (m : Int) = j := Int.eq_ofNat_of_zero_le (Int.emod_nonneg _ hm0)
        have hjt : (v2 + 9999).tmod (m : Int) = j := by rw [Int.tmod_eq_emod_of_nonneg hv0, hj]
        have hjm : j < m := by have := Int.emod_lt_of_pos (v2 + 9999) (show (0 : Int) < m by omega); omega
        have hbi := Lib.hid (show bIdx cl m x = some j by unfold bIdx; rw [Hgv.out]; simp [hj])
        have hjv : j < vs.length := by rw [HB.out.2.2.2]; exact hjm
        have hvj := Lib.hid (List.getElem?_eq_getElem hjv)
        generalize vs[j] = sj at *
        obtain ⟨l, hl1, hl2, hl3, hl4⟩ := HB.out.2.2.1.own j sj _ hvj.out (bLists_get hjm)
        obtain ⟨As, ns, cs⟩ := sj
        dsimp only at hl1
        subst hl1
        have o1 : wr.cell? ⟨w.heap.size + 1, j, none⟩ = some (.slice As l.length cs) := by
          rw [HB.out.2.1.cell]
          have := flat_get 1 svC svC_length vs j _ 0 _ hvj.out rfl
          rwa [Nat.mul_one, Nat.add_zero] at this
        obtain ⟨⟨Aq, nq, cq⟩, he, hsv⟩ := HSV.out
        simp only [svC, List.cons.injEq, Value.slice.injEq, and_true] at he
        obtain ⟨rfl, rfl, rfl⟩ := he
        obtain ⟨i0, hi0, hz0, hs0, hby0⟩ := info_parts zeroRow
        have BZ := Lib.hid (balloc (balloc (Below.refl wr.heap.size wr) (.cells #[.bool false, .int .i64 v2] 40)) (.cells #[.slice (some ⟨b3, off3, none⟩) x.length cq] 41))
        have HZ := Lib.hid ((Row.new (wr.alloc (.cells #[.bool false, .int .i64 v2] 40)) 41 #[.slice (some ⟨b3, off3, none⟩) x.length cq]))
        have HNW := Lib.hid (fun (q : Nat) (u : Value) (hu : [Value.slice (some ⟨b3, off3, none⟩) x.length cq][q]? = some u) => show ((wr.alloc (.cells #[.bool false, .int .i64 v2] 40)).alloc (.cells #[.slice (some ⟨b3, off3, none⟩) x.length cq] 41)).cell? ((⟨wr.heap.size + 1, 0, none⟩ : Addr).add q) = some u from by
          rw [Addr.add_lit, Nat.zero_add]
          have := HZ.out.cell q
          simp only [World.size_alloc] at this
          exact this.trans hu)
        have HOZ := Lib.hid (hl2.on BZ.out)
        have HOB := Lib.hid (HB.out.2.1.on BZ.out)
        have HKB := Lib.hid (HB.out.2.2.1.on BZ.out)
        have HLL := Lib.hid (And.intro hl2 (And.intro hl3 (And.intro hl4 hsv)))
        have hll4 : l.length ≤ 400 := by
          rw [hl3]
          exact Nat.le_trans (List.length_filter_le _ _) (by rw [List.length_take]; omega)
        have hsz2 : w.heap.size ≤ ((wr.alloc (.cells #[.bool false, .int .i64 v2] 40)).alloc (.cells #[.slice (some ⟨b3, off3, none⟩) x.length cq] 41)).heap.size := by simp; omega
        clear hl2 hl3 hl4 hsv
        go_wp2_with (at_builtin; refine wpList_append_lies _ rfl (.tmp 38) (.tmp 40) 23 rfl w.heap.size 41 i0 (.slice none 0 0) 1 24 Try.underlying23 hi0 hz0 hs0 hby0 rfl (by decide) (.slice As l.length cs) l.length (l.flatMap svC) rfl HOZ.out ⟨wr.heap.size + 1, 0, none⟩ 1 1 [.slice (some ⟨b3, off3, none⟩) x.length cq] rfl rfl HNW.out (by intro u hu; simp at hu; subst hu; rfl) (by decide) (by unfold maxLen; omega) (by omega) hsz2 _ rfl ?_; intro g cap w4 hown hgr hat hlt4; have hrow4 := HOB.out.keep (hgr.block _ HOB.out.lt fun e => (TyAt.ne (HOZ.out.ty _ e.symm).2.2 HOB.out.ty (by decide)) rfl); have o4 : w4.cell? ⟨w.heap.size + 1, j, none⟩ = some (.slice As l.length cs) := (hrow4.cell j).trans ((HB.out.2.1.cell j).symm.trans o1); have f4 := hrow4.frozen j; have HR4 := Lib.hid hrow4; clear hrow4)
        go_roundg (rows.length - (i + 1))
        case measure => omega
        case rel =>
          have hle : (l ++ [(⟨some ⟨b3, off3, none⟩, x.length, cq⟩ : SV)]).length = l.length + 1 := by simp
          have hput := HKB.out.put hvj.out (bLists_get hjm) HLL.out.2.1 HLL.out.2.2.1 (g := g) (cap := cap) HLL.out.2.2.2 (by unfold Ow; rw [List.length_append, List.flatMap_append]; exact hown) hgr hat
          rw [hle] at hput
          refine ⟨i + 1, _, by omega, rfl, by go_num, by rw [List.length_set]; exact HB.out.2.2.2, ((bch HB.out.1 BZ.out).grown hgr hsz2 fun q hq => (HOZ.out.ty q hq).1).setCell (p := ⟨w.heap.size + 1, j, none⟩) (show w.heap.size ≤ w.heap.size + 1 by omega) _, (HR4.out.set j _).of (flat_setS vs j ⟨some ⟨g, 0, none⟩, l.length + 1, cap⟩ hjv), ?_⟩
          rw [HX2.out, bLists_some hbi.out hjm]
          exact hput.keep fun q _ _ hty => Below.heap_setCell _ _ _ _ (TyAt.ne hty HR4.out.ty (by decide))
      · have hbi := Lib.hid (show bIdx cl m x = none by unfold bIdx; rw [Hgv.out]; rfl)
        go_wp2
        go_roundg (rows.length - (i + 1))
        case measure => omega
        case rel =>
          refine ⟨i + 1, vs, by omega, rfl, by go_num, HB.out.2.2.2, HB.out.1.alloc (by have := HB.out.1.size; omega) _, HB.out.2.1.alloc _, ?_⟩
          rw [HX2.out, bLists_none hbi.out]
          exact HB.out.2.2.1.on (balloc (Below.refl _ _) _)
    · have hie : rows.take i = rows := List.take_of_length_le (by omega)
      have HIE := Lib.hid hie
      clear hie
      go_wp2
      go_ret
      refine ⟨_, vs, rfl, by omega, HB.out.2.2.2, HB.out.2.1, ?_, HB.out.1⟩
      have h1 := HB.out.2.2.1
      rwa [HIE.out] at h1
end Go.Proofs.Ytldndapcbgaliaa
