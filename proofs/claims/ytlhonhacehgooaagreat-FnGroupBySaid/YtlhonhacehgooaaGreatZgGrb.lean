/-
  Several texts in one (GrS GrI GrG).
-/
import Derived.Test.YtlhonhacehgooaaGreatProg
import Derived.Test.YtlhonhacehgooaaGreatZgGra
import Derived.Test.YtlhonhacehgooaaGreatZgCmpG
import Derived.Test.YtlhonhacehgooaaGreatZgStC
import Derived.Test.YtlhonhacehgooaaGreatZgStB
import Derived.Test.YtlhonhacehgooaaGreatZgBks
import Derived.Test.YtlhonhacehgooaaGreatZgCopy
import Derived.Test.YtlhonhacehgooaaGreatZgRgG
import Derived.Deep.CutBlock
import Derived.Deep.DeepCutAuto
import Derived.Test.YtlhonhacehgooaaGreatZgUng
import Derived.Test.YtlhonhacehgooaaGreatZgAgt
import Derived.Sort.QuietIn
import Derived.Deep.RegionHeld3
import Derived.Test.YtlhonhacehgooaaGreatZgMjg
import Derived.Test.YtlhonhacehgooaaGreatZgRwt
import Derived.Test.YtlhonhacehgooaaGreatZgHasC
import Derived.Test.YtlhonhacehgooaaGreatZgPls
/-
  Contract of groupsOf: the program's. (Printed by wip/grs.py.)
-/
namespace Go.Proofs.YtlhonhacehgooaaGreat
open Go.RowKit Go.Qo
set_option linter.unusedVariables false
set_option linter.unusedSimpArgs false

/-- Buckets: the slices vs, each of the call's own (or nil), no two in one block; the rows that they hold read in the first world w as bks. -/
structure Bks2 (lo : Nat) (w : World) (wr : World) (vs : List SV) (bks : List (List Row1)) : Prop where
  len : vs.length = bks.length
  own : ∀ (k : Nat) (s : SV) (b : List Row1), vs[k]? = some s → bks[k]? = some b → ∃ l : List SV, s.n = l.length ∧ Ow lo 104 1 svC wr (svV s) l ∧ l.length = b.length ∧ ∀ (i : Nat) (sv : SV) (r : Row1), l[i]? = some sv → b[i]? = some r → SVIs 2 valC w w.heap.size sv r
  apart : ∀ (j k : Nat) (s t : SV) (g : Nat), vs[j]? = some s → vs[k]? = some t → (svV s).ownBlock = some g → (svV t).ownBlock = some g → j = k

/-- A block that no bucket has may change. -/
theorem Bks2.keep {lo : Nat} {w wr wr' : World} {vs : List SV} {bks : List (List Row1)} (h : Bks2 lo w wr vs bks) (hk : ∀ b, lo ≤ b → b < wr.heap.size → TyAt wr b 104 → wr'.heap[b]? = wr.heap[b]?) : Bks2 lo w wr' vs bks :=
  ⟨h.len, fun k s b h1 h2 => by obtain ⟨l, a, b', c, d⟩ := h.own k s b h1 h2; exact ⟨l, a, b'.keep hk, c, d⟩, h.apart⟩
theorem Bks2.on {lo : Nat} {w wr wr' : World} {vs : List SV} {bks : List (List Row1)} (h : Bks2 lo w wr vs bks) (hb : Below wr.heap.size wr wr') : Bks2 lo w wr' vs bks := h.keep fun b _ hl _ => hb.block b hl
/-- One bucket grows by one row. -/
theorem Bks2.put {lo : Nat} {w wr wr' : World} {vs : List SV} {bks : List (List Row1)} (h : Bks2 lo w wr vs bks) {j : Nat} {s : SV} {b : List Row1} {l : List SV} (hs : vs[j]? = some s) (hb : bks[j]? = some b) (hl : l.length = b.length) (hr : ∀ (i : Nat) (sv : SV) (r : Row1), l[i]? = some sv → b[i]? = some r → SVIs 2 valC w w.heap.size sv r)
    {g cap : Nat} {sv : SV} {r : Row1} (hsv : SVIs 2 valC w w.heap.size sv r) (hown : Ow lo 104 1 svC wr' (.slice (some ⟨g, 0, none⟩) (l ++ [sv]).length cap) (l ++ [sv])) (hg : wr.grownBy wr' (svV s).ownBlock) (hat : (svV s).ownBlock = some g ∨ g = wr.heap.size) :
    Bks2 lo w wr' (vs.set j ⟨some ⟨g, 0, none⟩, (l ++ [sv]).length, cap⟩) (bks.set j (b ++ [r])) := by
  have hblk : ∀ (k : Nat) (t : SV) (q : Nat), k ≠ j → vs[k]? = some t → (svV t).ownBlock = some q → q ≠ g ∧ wr'.heap[q]? = wr.heap[q]? := by
    intro k t q hkj ht hq
    have hkb : ∃ bk, bks[k]? = some bk := by
      have := (List.getElem?_eq_some_iff.1 ht).1
      exact ⟨_, List.getElem?_eq_getElem (by rw [← h.len]; exact this)⟩
    obtain ⟨bk, hbk⟩ := hkb
    obtain ⟨lk, _, how, _, _⟩ := h.own k t bk ht hbk
    have hlt := (how.ty q hq).2.1
    refine ⟨?_, hg.block q hlt fun e => ?_⟩
    · rintro rfl
      rcases hat with h1 | h1
      · exact hkj (h.apart k j t s q ht hs hq h1)
      · omega
    · exact hkj (h.apart k j t s q ht hs hq e.symm)
  refine ⟨by simp [h.len], fun k s' b' h1 h2 => ?_, fun j' k' s' t' q h1 h2 h3 h4 => ?_⟩
  · rw [List.getElem?_set] at h1 h2
    by_cases e : j = k
    · subst e
      rw [if_pos rfl] at h1 h2
      split at h1 <;> cases h1
      split at h2 <;> cases h2
      refine ⟨l ++ [sv], rfl, hown, by simp [hl], fun i sv' r' h3 h4 => ?_⟩
      rw [List.getElem?_append] at h3 h4
      rw [← hl] at h4
      split at h3
      · rename_i hi; rw [if_pos hi] at h4; exact hr i sv' r' h3 h4
      · rename_i hi
        rw [if_neg hi] at h4
        cases hj : i - l.length with
        | zero => rw [hj] at h3 h4; simp only [List.getElem?_cons_zero, Option.some.injEq] at h3 h4; subst h3; subst h4; exact hsv
        | succ m => rw [hj] at h3; simp at h3
    · rw [if_neg e] at h1 h2
      obtain ⟨lk, a1, a2, a3, a4⟩ := h.own k s' b' h1 h2
      refine ⟨lk, a1, ?_, a3, a4⟩
      refine ⟨a2.1, ?_⟩
      rcases a2.2 with h5 | ⟨g', cap', cur, hv, hg', hh, rest⟩
      · exact .inl h5
      · exact .inr ⟨g', cap', cur, hv, hg', (hblk k s' g' (fun e' => e e'.symm) h1 (by rw [hv]; rfl)).2.trans hh, rest⟩
  · rw [List.getElem?_set] at h1 h2
    by_cases e : j = j'
    · subst e
      by_cases e' : j = k'
      · exact e'
      · rw [if_neg e'] at h2
        rw [if_pos rfl] at h1
        split at h1 <;> cases h1
        cases h3
        exact absurd rfl (hblk k' t' g (fun x => e' x.symm) h2 h4).1
    · rw [if_neg e] at h1
      by_cases e' : j = k'
      · subst e'
        rw [if_pos rfl] at h2
        split at h2 <;> cases h2
        cases h4
        exact absurd rfl (hblk j' s' g (fun x => e x.symm) h1 h3).1
      · rw [if_neg e'] at h2
        exact h.apart j' k' s' t' q h1 h2 h3 h4
theorem Bks2.snocNil {lo : Nat} {w wr : World} {vs : List SV} {bks : List (List Row1)} (h : Bks2 lo w wr vs bks) : Bks2 lo w wr (vs ++ [⟨none, 0, 0⟩]) (bks ++ [[]]) := by
  have hlen := h.len
  refine ⟨by simp [hlen], fun k s b h1 h2 => ?_, fun j k s t g h1 h2 h3 h4 => ?_⟩
  · rw [List.getElem?_append] at h1 h2
    rw [← hlen] at h2
    split at h1
    · rename_i hk; rw [if_pos hk] at h2; exact h.own k s b h1 h2
    · rename_i hk
      rw [if_neg hk] at h2
      cases hj : k - vs.length with
      | zero =>
        rw [hj] at h1 h2
        simp at h1 h2
        subst h1; subst h2
        exact ⟨[], rfl, Ow.nil, rfl, fun i sv r h => by simp at h⟩
      | succ m => rw [hj] at h1; simp at h1
  · have key : ∀ (q : Nat) (u : SV), (vs ++ [(⟨none, 0, 0⟩ : SV)])[q]? = some u → (svV u).ownBlock = some g → vs[q]? = some u := fun q u hq hu => by
      rw [List.getElem?_append] at hq
      split at hq
      · exact hq
      · cases hj : q - vs.length with
        | zero => rw [hj] at hq; simp at hq; subst hq; cases hu
        | succ m => rw [hj] at hq; simp at hq
    exact h.apart j k s t g (key j s h1 h3) (key k t h2 h4) h3 h4
/-- Groups of rows: slices of the call's own; their rows read in w5. -/
def GpRes (cols : List Int) (rows : List Row1) (w0 w : World) (e : Ending) (w' : World) : Prop :=
  ∃ (v : Value) (vs : List SV) (w5 : World), e = .returned v ∧ Below w.heap.size w w5 ∧ Below w5.heap.size w5 w' ∧ Ow w5.heap.size 30 1 svC w' v vs ∧ Bks2 w5.heap.size w0 w' vs (adjN cols (gSort (keyCmp cols) rows) rows.length)
theorem zeroBkG : (Tryz.prog.info? 30).map (fun i => (i.zero, i.size, i.bytes)) = some (some (.slice none 0 0), 1, 24) := by kernel_rfl
theorem zeroRowS : (Tryz.prog.info? 104).map (fun i => (i.zero, i.size, i.bytes)) = some (some (.slice none 0 0), 1, 24) := by kernel_rfl
def prCmp (cols : List Int) (p q : SR) : Int := keyCmp cols p.2 q.2
theorem gIns_pr {cols : List Int} (p : SR) : ∀ l : List SR, (gIns (prCmp cols) p l).map (·.2) = gIns (keyCmp cols) p.2 (l.map (·.2))
  | [] => rfl
  | q :: l => by
    have ih := gIns_pr (cols := cols) p l
    by_cases h : keyCmp cols p.2 q.2 < 0
    · have h' : prCmp cols p q < 0 := h
      simp only [gIns, List.map_cons, h, h', if_true]
    · have h' : ¬ prCmp cols p q < 0 := h
      simp only [gIns, List.map_cons, h, h', if_false, ih]
theorem gSort_pr {cols : List Int} (l : List SR) : (gSort (prCmp cols) l).map (·.2) = gSort (keyCmp cols) (l.map (·.2)) := by
  suffices H : ∀ (l out : List SR), (l.foldl (fun out x => gIns (prCmp cols) x out) out).map (·.2) = (l.map (·.2)).foldl (fun out x => gIns (keyCmp cols) x out) (out.map (·.2)) by simpa [gSort] using H l []
  intro l
  induction l with
  | nil => intro out; rfl
  | cons x l ih => intro out; rw [List.foldl_cons, ih, gIns_pr]; rfl
theorem keyS_of {W : Int} {cols : List Int} {r : Row1} (hr : RowOk W r) (hc : ∀ x ∈ cols, 0 ≤ x ∧ x < W) : KeyS cols r := fun x hx => by
  obtain ⟨q, hq, rfl⟩ := List.mem_map.1 hx
  have hq2 := hc q hq
  have hlt : q.toNat < r.length := by have := hr.2; omega
  unfold getV
  rw [List.getD_eq_getElem?_getD, List.getElem?_eq_getElem hlt]
  exact hr.vals _ (List.getElem_mem hlt)
theorem prCm {W : Int} {cols : List Int} (hc : ∀ x ∈ cols, 0 ≤ x ∧ x < W) {B : Nat} {w : World} : Cm (prCmp cols) (SRok W B w) := by
  have C := keyCm cols
  exact ⟨fun x y hx hy => C.anti x.2 y.2 (keyS_of hx.1 hc) (keyS_of hy.1 hc), fun x y z hx hy hz => C.trans x.2 y.2 z.2 (keyS_of hx.1 hc) (keyS_of hy.1 hc) (keyS_of hz.1 hc)⟩
theorem adjN_small (cols : List Int) (s : List Row1) : ∀ (n : Nat), ∀ b ∈ adjN cols s n, b.length ≤ min n s.length
  | 0, b, hb => by simp [adjN] at hb
  | n + 1, b, hb => by
    have ih := adjN_small cols s n
    unfold adjN at hb
    cases hx : s[n]? with
    | none =>
      rw [hx] at hb
      have := ih b hb
      omega
    | some r =>
      have hn := (List.getElem?_eq_some_iff.1 hx).1
      rw [hx] at hb
      dsimp only at hb
      have key : ∀ gs : List (List Row1), (∀ q ∈ gs, q.length ≤ min n s.length) → ∀ b ∈ gs.set (gs.length - 1) (gs.getD (gs.length - 1) [] ++ [r]), b.length ≤ min (n + 1) s.length := fun gs hg b hb => by
        rcases List.mem_or_eq_of_mem_set hb with h | h
        · have := hg b h; omega
        · rw [h, List.length_append, List.getD_eq_getElem?_getD]
          cases hq : gs[gs.length - 1]? with
          | none => simp; omega
          | some q => have := hg q (List.mem_of_getElem? hq); simp; omega
      split at hb
      · refine key _ (fun q hq => ?_) b hb
        rcases List.mem_append.1 hq with h | h
        · exact ih q h
        · simp at h; subst h; simp
      · exact key _ ih b hb
theorem callGrp : Callable 127 := callable_of Tryz.func127 (by kernel_rfl) (by kernel_rfl)

set_option maxRecDepth 20000 in
set_option maxHeartbeats 2000000 in
theorem grpCmp_ok (A' Aa Ab : Option Addr) (c' ca cb kb : Nat) (a b : Row1) (cols : List Int) (w : World) (ha : a.length ≤ 6) (hb : b.length ≤ 6) (hl : cols.length ≤ 6) (hca : ∀ x ∈ cols, 0 ≤ x ∧ x < a.length) (hcb : ∀ x ∈ cols, 0 ≤ x ∧ x < b.length)
    (hk : Row w kb 23 [.slice A' cols.length c']) (h1 : Sl 2 valC w w.heap.size Aa a) (h2 : Sl 2 valC w w.heap.size Ab b) (h' : Sl 1 intC w w.heap.size A' cols) :
    Calls Tryz.prog 127 #[.slice Aa a.length ca, .slice Ab b.length cb, .pointer (some ⟨kb, 0, none⟩)] w fun e w' => e = .returned (.int .i64 (keyCmp cols a b)) ∧ Below w.heap.size w w' := by
  have SK := Lib.hid (fun (z : World) (hz : Below w.heap.size w z) => show z.cell? ⟨kb, 0, none⟩ = some (.slice A' cols.length c') from (hk.on hz).cell 0)
  have HP1 := Lib.hid (fun (z : World) (hz : Below w.heap.size w z) => picked_ok Aa A' ca c' a cols z ha hl hca (h1.on hz) (h'.on hz))
  have HP2 := Lib.hid (fun (z : World) (hz : Below w.heap.size w z) => picked_ok Ab A' cb c' b cols z hb hl hcb (h2.on hz) (h'.on hz))
  have HPL := Lib.hid (And.intro (pickR_length cols a) (pickR_length cols b))
  have hl6 := hl
  clear hk h1 h2 h' hca hcb
  go_enter Tryz.func127, Tryz.ntmps127
  go_upto_region 1 with fail
  obtain ⟨u0, hu0⟩ : ∃ z, w.drew = z := ⟨_, rfl⟩
  have Bu0 := Lib.hid (show Below w.heap.size w u0 from hu0 ▸ (Below.refl _ _).drew)
  have Hu0 := Lib.hid hu0
  clear hu0
  refine wp_region_g 7 (fun z => z.cell? ⟨kb, 0, none⟩ = some (.slice A' cols.length c')) (by kernel_rfl) ?_ (fun hHeld => ?_)
  · exact SK.out _ (Below.refl _ _).drew
  rw [Hu0.out] at hHeld ⊢
  refine takeG (i := 0) (v := ?v1) rfl (by kernel_rfl) (by kernel_rfl) (by kernel_rfl) (by kernel_rfl) (fun _ _ _ h => h) (Or.inl ⟨by rfl, ?hy1⟩) (by assumption) ?_
  case hy1 => ((intro w' hSw; (try dsimp only at hSw); go_simp) <;> with_reducible rfl)
  try simp only [Act.put, List.setIfInBounds_toArray, List.set_cons_zero, List.set_cons_succ]
  refine takeG (i := 1) (v := ?v2) rfl (by kernel_rfl) (by kernel_rfl) (by kernel_rfl) (by kernel_rfl) (fun _ _ _ h => h) (Or.inl ⟨by rfl, ?hy2⟩) (by assumption) ?_
  case hy2 => ((intro w' hSw; (try dsimp only at hSw); go_simp) <;> with_reducible rfl)
  try simp only [Act.put, List.setIfInBounds_toArray, List.set_cons_zero, List.set_cons_succ]
  refine takeG (i := 3) (v := ?v3) rfl (by kernel_rfl) (by kernel_rfl) (by kernel_rfl) (by kernel_rfl) (fun _ _ _ h => h) (Or.inl ⟨by rfl, ?hy3⟩) (by assumption) ?_
  case hy3 => ((intro w' hSw; (try dsimp only at hSw); go_simp) <;> with_reducible rfl)
  try simp only [Act.put, List.setIfInBounds_toArray, List.set_cons_zero, List.set_cons_succ]
  refine takeG (i := 4) (v := ?v4) rfl (by kernel_rfl) (by kernel_rfl) (by kernel_rfl) (by kernel_rfl) (fun _ _ _ h => h) (Or.inl ⟨by rfl, ?hy4⟩) (by assumption) ?_
  case hy4 => ((intro w' hSw; (try dsimp only at hSw); go_simp) <;> with_reducible rfl)
  try simp only [Act.put, List.setIfInBounds_toArray, List.set_cons_zero, List.set_cons_succ]
  refine wpAnyG_ready (rs := [2]) (by kernel_rfl) (by simp) ?_
  refine readyG rfl (fun K hK => ?_) AllReadyG.nil
  go_simp
  go_at_call 77
  refine (HP1.out u0 Bu0.out).mono ?_
  rintro e x1 ⟨v1, rfl, how1, hb1⟩
  obtain ⟨A1, c1, rfl, _, _, hs1⟩ := how1.shape valC_length
  have Bx1 := Lib.hid (bch Bu0.out hb1)
  have HS1 := Lib.hid hs1
  rw [HPL.out.1]
  clear how1 hb1 hs1
  refine hK.out _ _ ?hS5 (fun hHeld => ?_)
  case hS5 => exact fun _ => SK.out _ Bx1.out
  replace hHeld := hHeld (by decide)
  clear hK K
  try simp only [Act.put, List.setIfInBounds_toArray, List.set_cons_zero, List.set_cons_succ]
  refine wpAnyG_ready (rs := [5]) (by kernel_rfl) (by simp) ?_
  refine readyG rfl (fun K hK => ?_) AllReadyG.nil
  go_simp
  go_at_call 77
  refine (HP2.out x1 Bx1.out).mono ?_
  rintro e x2 ⟨v2, rfl, how2, hb2⟩
  obtain ⟨A2, c2, rfl, _, _, hs2⟩ := how2.shape valC_length
  have Bx2 := Lib.hid (bch Bx1.out hb2)
  have HCR := Lib.hid (show Calls Tryz.prog 116 #[.slice A1 cols.length c1, .slice A2 cols.length c2] x2 _ from by
    have := implCompareRows_ok A1 A2 c1 c2 (pickR cols a) (pickR cols b) x2 (by rw [HPL.out.1]; unfold maxLen; omega) (by rw [HPL.out.2]; unfold maxLen; omega) (HS1.out.on hb2).sl hs2.sl
    rw [HPL.out.1, HPL.out.2] at this
    exact this)
  rw [HPL.out.2]
  clear how2 hb2 hs2
  refine hK.out _ _ ?hS6 (fun hHeld => ?_)
  case hS6 => exact fun _ => SK.out _ Bx2.out
  replace hHeld := hHeld (by decide)
  clear hK K
  try simp only [Act.put, List.setIfInBounds_toArray, List.set_cons_zero, List.set_cons_succ]
  refine wpAnyG_ready (rs := [6]) (by kernel_rfl) (by simp) ?_
  refine readyG rfl (fun K hK => ?_) AllReadyG.nil
  go_simp
  go_at_call 116
  refine HCR.out.mono ?_
  rintro e x3 ⟨rfl, hb3⟩
  have Bx3 := Lib.hid (bch Bx2.out hb3)
  clear hb3
  refine hK.out _ _ ?hS7 (fun hHeld => ?_)
  case hS7 => exact fun _ => SK.out _ Bx3.out
  replace hHeld := hHeld (by decide)
  clear hK K
  try simp only [Act.put, List.setIfInBounds_toArray, List.set_cons_zero, List.set_cons_succ]
  refine wpAnyG_ready (rs := [7]) (by kernel_rfl) (by simp) ?_
  refine readyG rfl (fun K hK => ?_) AllReadyG.nil
  go_simp
  refine hK.out _ _ ?hS8 (fun hHeld => ?_)
  case hS8 => exact fun h => absurd rfl h
  clear hK K
  try simp only [Act.put, List.setIfInBounds_toArray, List.set_cons_zero, List.set_cons_succ]
  refine wpAnyG_done (by kernel_rfl) ?_ _
  go_wp2
  go_ret
  exact ⟨rfl, Bx3.out⟩

set_option maxRecDepth 20000 in
set_option maxHeartbeats 8000000 in
theorem groupsOf_ok (W : Int) (A A' : Option Addr) (c c' : Nat) (rows : List Row1) (cols : List Int) (w0 w : World) (hw0 : Below w0.heap.size w0 w) (hT : TabOk W rows) (hl : cols.length < 6) (hc : ∀ x ∈ cols, 0 ≤ x ∧ x < W) (h : Rws w0 w0.heap.size A rows) (h' : Sl 1 intC w0 w0.heap.size A' cols) :
    Calls Tryz.prog 76 #[.agg #[.int .i64 W, .slice A rows.length c], .slice A' cols.length c'] w (GpRes cols rows w0 w) := by
  have hr4 := hT.2.2.1
  have hW6 := hT.2.1
  have HTR := Lib.hid (show ∀ r ∈ rows, RowOk W r from fun r hr => by
    obtain ⟨i, hi, rfl⟩ := List.getElem_of_mem hr
    exact hT.row (List.getElem?_eq_getElem hi))
  obtain ⟨kb, hkb⟩ : ∃ n, w.heap.size + 1 = n := ⟨_, rfl⟩
  obtain ⟨W1, hW1⟩ : ∃ z, w.alloc (.cells #[.int .i64 W, .slice A rows.length c] 32) = z := ⟨_, rfl⟩
  obtain ⟨W2, hW2⟩ : ∃ z, W1.alloc (.cells #[.slice A' cols.length c'] 23) = z := ⟨_, rfl⟩
  have b1 : Below w.heap.size w W1 := by rw [← hW1]; exact balloc (Below.refl _ _) _
  have b2 : Below W1.heap.size W1 W2 := by rw [← hW2]; exact balloc (Below.refl _ _) _
  have s1 : W1.heap.size = kb := by rw [← hW1]; simp; omega
  have r1 : Row W1 w.heap.size 32 [.int .i64 W, .slice A rows.length c] := by rw [← hW1]; exact Row.new _ _ _
  have r2 : Row W2 kb 23 [.slice A' cols.length c'] := by rw [← s1, ← hW2]; exact Row.new _ _ _
  have B2 := Lib.hid (bch b1 b2)
  have a1 : W2.cell? ⟨w.heap.size, 1, none⟩ = some (.slice A rows.length c) := (r1.on b2).cell 1
  have la := (r1.on b2).lt
  have R2 := Lib.hid r2
  have B20 := Lib.hid (bch hw0 B2.out)
  obtain ⟨svs, hsl, hsv, hin⟩ := h
  have HPR := Lib.hid (pairs_ok (A := none) hsl HTR.out hin)
  have hCR := copiedRows_ok A c svs W2 (by omega) (hsv.on B20.out)
  rw [hsl] at hCR
  have HCR := Lib.hid hCR
  have HSL := Lib.hid hsl
  have HIN := Lib.hid (fun (z : World) (hz : Below W2.heap.size W2 z) => h'.on (bch B20.out hz))
  have HC := Lib.hid hc
  have HW1 := Lib.hid hW1
  have HW2 := Lib.hid hW2
  clear hW1 hW2 b1 b2 s1 r1 r2 h' hc hsl hsv hin hCR hT hw0
  go_enter Tryz.func76, Tryz.ntmps76
  go_upto_region 1 with fail
  rw [HW1.out, HW2.out]
  go_wp2_with fail
  refine HCR.out.mono ?_
  rintro e w3 ⟨v7, rfl, how7, hb3⟩
  obtain ⟨A7, c7, rfl, hc71, hc72, _⟩ := how7.shape svC_length
  have HB3 := Lib.hid hb3
  have HO7 := Lib.hid how7
  have hsl4 : svs.length ≤ 400 := by rw [HSL.out]; exact hr4
  clear how7 hb3 hc71
  rcases Nat.eq_zero_or_pos rows.length with hz | hz
  · have hr0 : rows = [] := List.eq_nil_of_length_eq_zero hz
    have hk1 : svs.length = 0 := by rw [HSL.out]; exact hz
    have HSN := Lib.hid (fun z => sortStableNil_ok A7 c7 (.func (.func 127) #[] #[.pointer (some ⟨kb, 0, none⟩)]) z)
    have HR0 := Lib.hid hr0
    rw [hk1]
    clear hr0
    go_wp2_with fail
    refine (HSN.out _).mono ?_
    rintro e w5 ⟨rfl, rfl⟩
    go_wp2
    go_loopg [7, 20] 0 (fun g v7 iv wr => v7 = .slice none 0 0 ∧ iv = .int .i64 0 ∧ w3 = wr)
    case atStart => exact ⟨rfl, rfl, rfl⟩
    case round =>
      obtain ⟨rfl, rfl, rfl⟩ := hrel
      go_wp2
      go_ret
      exact ⟨_, [], w3, rfl, bch B2.out HB3.out, Below.refl _ _, Ow.nil, by rw [HR0.out]; exact ⟨rfl, fun k s b h => by simp at h, fun j k s t g h => by simp at h⟩⟩
  · obtain ⟨g, hA7, hnn, hg, hgl, _, _, _⟩ := HO7.out.head svC_length (by have := HSL.out; omega)
    subst hA7
    clear hnn
    have hps : (svs.zip rows).length = svs.length := by simp [HSL.out]
    have hz23 := HB3.out.size
    have hz02 := B20.out.size
    have hz03 : w0.heap.size ≤ w3.heap.size := by omega
    have hOL : OwL (svCell svOf) W2.heap.size g (svs.zip rows).length c7 w3 (svs.zip rows) := Ow.pairs HO7.out HSL.out rfl
    have hSR : ∀ p ∈ svs.zip rows, SRok W w0.heap.size w3 p := fun p hp => (HPR.out p hp).only (only_below (S := fun _ => False) (bch B20.out HB3.out)) (Nat.le_refl _) (fun _ h => h.elim)
    have HCMP := Lib.hid (fun (z : World) (hz : Only (fun i => i = g) w3 z) (x y : SR) (hx : SRok W w0.heap.size w3 x) (hy : SRok W w0.heap.size w3 y) => show Calls Tryz.prog 127 #[.slice x.1.A x.2.length x.1.c, .slice y.1.A y.2.length y.1.c, .pointer (some ⟨kb, 0, none⟩)] z (fun e w' => e = .returned (.int .i64 (prCmp cols x y)) ∧ Below z.heap.size z w') from by
      have hx' := hx.only hz hz03 (fun b hb => by have hb : b = g := hb; omega)
      have hy' := hy.only hz hz03 (fun b hb => by have hb : b = g := hb; omega)
      have hsz := hz.size
      have hbz : Below W2.heap.size W2 z := Only.from_ HB3.out rfl hz fun i hi => by have hi : i = g := hi; omega
      have hx6 := (rowValid_len hx.1.1).2
      have hy6 := (rowValid_len hy.1.1).2
      exact grpCmp_ok A' x.1.A y.1.A c' x.1.c y.1.c kb x.2 y.2 cols z hx6 hy6 (by omega) (fun q hq => by have := HC.out q hq; have := hx.1.2; omega) (fun q hq => by have := HC.out q hq; have := hy.1.2; omega) (R2.out.on hbz) (hx'.2.2.2.2.more (by omega)) (hy'.2.2.2.2.more (by omega)) (HIN.out z hbz))
    have hIC : IsCmpG (svCell svOf) (prCmp cols) (SRok W w0.heap.size w3) w3 (.slice (some ⟨g, 0, none⟩) svs.length c7) (.func (.func 127) #[] #[.pointer (some ⟨kb, 0, none⟩)]) := ⟨_, _, rfl, callGrp, fun z hz x y hx hy => by
      have hzg : Only (fun i => i = g) w3 z := hz.mono fun k _ hk => by cases hk; rfl
      have := HCMP.out z hzg x y hx hy
      unfold svCell svOf
      rw [hx.2.1, hy.2.1]
      exact this⟩
    have HSN := sortStableR_ok svOf (prCmp cols) (SRok W w0.heap.size w3) (prCm HC.out) W2.heap.size g (svs.zip rows).length c7 (svs.zip rows) _ w3 rfl (by rw [hps]; omega) hSR (by rw [hps]; exact hIC) hOL
    rw [hps] at HSN
    have HSN := Lib.hid HSN
    obtain ⟨qs, hqs⟩ : ∃ qs, gSort (prCmp cols) (svs.zip rows) = qs := ⟨_, rfl⟩
    have hqm : qs.map (·.2) = gSort (keyCmp cols) rows := by rw [← hqs, gSort_pr, zip_snd HSL.out]
    have hql : qs.length = svs.length := by rw [← hqs, gSort_length, hps]
    have hqp : ∀ p ∈ qs, SRok W w0.heap.size w3 p := fun p hp => hSR p ((gSort_perm (prCm HC.out) hSR).mem_iff.1 (by rw [hqs]; exact hp))
    rw [hqs] at HSN
    have hqp0 : ∀ p ∈ qs, SRok W w0.heap.size w0 p := fun p hp => HPR.out p ((gSort_perm (prCm HC.out) hSR).mem_iff.1 (by rw [hqs]; exact hp))
    have HQ := Lib.hid (And.intro hqm (And.intro hql (And.intro hqp hqp0)))
    obtain ⟨n, hn⟩ : ∃ n, svs.length = n := ⟨_, rfl⟩
    have HNN := Lib.hid (And.intro hn HSL.out)
    rw [hn] at HSN hsl4 ⊢
    clear hOL hSR hqs hqm hql hqp hqp0 hps hIC hn
    go_wp2_with fail
    refine HSN.out.mono ?_
    rintro e w5 ⟨rfl, hO5, hb5⟩
    have HO5 := Lib.hid hO5
    have HG5 := Lib.hid hb5
    have H25 := Lib.hid (show Below W2.heap.size W2 w5 from Only.from_ HB3.out rfl hb5 fun i hi => by have hi : i = g := hi; omega)
    have hg5 := hO5.lt
    have HQ5 := Lib.hid (fun (i : Nat) (hi : i < n) => show ∃ (s : SV) (r : Row1), w5.cell? ⟨g, i, none⟩ = some (.slice s.A r.length s.c) ∧ (gSort (keyCmp cols) rows)[i]? = some r ∧ SRok W w0.heap.size w3 (s, r) ∧ SVIs 2 valC w0 w0.heap.size s r from by
      have hiq : i < qs.length := by have h1 := HQ.out.2.1; have h2 := HNN.out.1; omega
      have hx := List.getElem?_eq_getElem hiq
      have hxS := HQ.out.2.2.1 _ (List.getElem_mem hiq)
      have hx5 := HQ.out.2.2.2 _ (List.getElem_mem hiq)
      refine ⟨qs[i].1, qs[i].2, ?_, by rw [← HQ.out.1, List.getElem?_map, hx]; rfl, hxS, hx5.2.1, hx5.2.2.1, hx5.2.2.2.1, hx5.2.2.2.2⟩
      have := HO5.out.at_ hx
      rw [this]
      unfold svCell svOf
      rw [hxS.2.1])
    have HADS := Lib.hid (show (∀ r ∈ gSort (keyCmp cols) rows, KeyS cols r) ∧ GOrd (keyCmp cols) (gSort (keyCmp cols) rows) ∧ (gSort (keyCmp cols) rows).length = rows.length from by
      have hk : ∀ r ∈ rows, KeyS cols r := fun r hr => keyS_of (HTR.out r hr) HC.out
      exact ⟨fun r hr => hk r ((gSort_perm (keyCm cols) hk).mem_iff.1 hr), gSort_ord (keyCm cols) hk, gSort_length rows⟩)
    have HADL := Lib.hid (fun (i : Nat) (hi : i ≤ rows.length) => show (adjN cols (gSort (keyCmp cols) rows) i).length ≤ i ∧ (0 < i → 0 < (adjN cols (gSort (keyCmp cols) rows) i).length) from by
      obtain ⟨h1, h2⟩ := adjN_spec HADS.out.1 HADS.out.2.1 i (by have := HADS.out.2.2; omega)
      rw [h1, List.length_map]
      refine ⟨?_, fun h0 => ?_⟩
      · have := keysOf_len cols ((gSort (keyCmp cols) rows).take i)
        rw [List.length_take] at this
        omega
      · obtain ⟨ks, hks⟩ := h2 h0
        rw [hks]; simp)
    have HLGO := Lib.hid (fun (i : Nat) => show ∀ b ∈ adjN cols (gSort (keyCmp cols) rows) i, b.length ≤ 400 from fun b hb => by
      have := adjN_small cols (gSort (keyCmp cols) rows) i b hb
      have := HADS.out.2.2
      omega)
    clear hO5 hb5
    go_wp2
    go_loopg [7, 20] n (fun g v7 iv wr => ∃ (i : Nat) (vs : List SV), i ≤ n ∧ g = n - i ∧ iv = .int .i64 i ∧ Ow w5.heap.size 30 1 svC wr v7 vs ∧ Bks2 w5.heap.size w0 wr vs (adjN cols (gSort (keyCmp cols) rows) i) ∧ Below w5.heap.size w5 wr)
    case atStart => exact ⟨0, [], by omega, by omega, rfl, Ow.nil, ⟨rfl, fun k s b h => by simp at h, fun j k s t g h => by simp at h⟩, Below.refl _ _⟩
    case round =>
      obtain ⟨i, vs, hi, rfl, rfl, how, hbk, hb⟩ := hrel
      have HR := Lib.hid (And.intro how (And.intro hbk hb))
      obtain ⟨A8, c8, rfl, hc81, hc82, _⟩ := how.shape svC_length
      have hszr : w5.heap.size ≤ wr.heap.size := hb.size
      have hvl : vs.length = (adjN cols (gSort (keyCmp cols) rows) i).length := hbk.len
      have HVL := Lib.hid hvl
      clear how hbk hb hc81 hvl
      by_cases hin : i < n
      · have hiI : (i : Int) < (n : Int) := by omega
        obtain ⟨rs, rr, hcx, hsx, hxS, hsv⟩ := HQ5.out i hin
        have HSV := Lib.hid hsv
        have hr6 := (rowValid_len hxS.1.1).2
        have c0 : wr.cell? ⟨g, i, none⟩ = some (.slice rs.A rr.length rs.c) := (HR.out.2.2.cell (p := ⟨g, i, none⟩) hg5).trans hcx
        have hgw : g < wr.heap.size := by omega
        have hro := Lib.hid (show RowOk W rr from hxS.1)
        have HAL := Lib.hid (HADL.out i (by have h1 := HNN.out.1; have h2 := HNN.out.2; omega))
        have HSX := Lib.hid hsx
        have hvl4 : vs.length ≤ 400 := by have h1 := HVL.out; have h2 := HAL.out.1; omega
        clear hcx hsx hxS hsv
        have HNEW := Lib.hid (show ∀ (X : World) (hX : Below w5.heap.size w5 X) (hO : Ow w5.heap.size 30 1 svC X (.slice A8 vs.length c8) vs) (hB : Bks2 w5.heap.size w0 X vs (adjN cols (gSort (keyCmp cols) rows) i)), True from fun _ _ _ _ => trivial)
        by_cases hi0 : i = 0
        · have hi0b : ((i : Int) == 0) = true := by simp [hi0]
          have HADJ := Lib.hid (show adjN cols (gSort (keyCmp cols) rows) (i + 1) = (adjN cols (gSort (keyCmp cols) rows) i ++ [[]]).set ((adjN cols (gSort (keyCmp cols) rows) i ++ [[]]).length - 1) ((adjN cols (gSort (keyCmp cols) rows) i ++ [[]]).getD ((adjN cols (gSort (keyCmp cols) rows) i ++ [[]]).length - 1) [] ++ [rr]) from by
            conv => lhs; unfold adjN
            rw [HSX.out]
            dsimp only
            rw [if_pos (.inl hi0)])
          obtain ⟨wz, hwz⟩ : ∃ z, z = wr := ⟨_, rfl⟩
          have HZR := Lib.hid (show Ow w5.heap.size 30 1 svC wr (.slice A8 vs.length c8) vs ∧ Bks2 w5.heap.size w0 wr vs (adjN cols (gSort (keyCmp cols) rows) i) ∧ Below w5.heap.size w5 wr from HR.out)
          clear hi0 hwz
          obtain ⟨P1, hP1⟩ : ∃ z, wr.alloc (.cells #[.slice none 0 0] 30) = z := ⟨_, rfl⟩
          have p1 : Below wr.heap.size wr P1 := by rw [← hP1]; exact balloc (Below.refl _ _) _
          have HGP := Lib.hid (HZR.out.1.on p1)
          have HBP := Lib.hid (HZR.out.2.1.on p1)
          have HXP := Lib.hid (bch HZR.out.2.2 p1)
          have HSP := Lib.hid (show Sl 1 svC P1 P1.heap.size (some ⟨wr.heap.size, 0, none⟩) [(⟨none, 0, 0⟩ : SV)] by rw [← hP1]; exact Row.sl' (t := 30) svC_length ((Row.new wr _ _).of rfl))
          have hloP : w5.heap.size ≤ P1.heap.size := HXP.out.size
          have HP1 := Lib.hid hP1
          clear hP1 p1
          go_upto_region 10 with (at_builtin; rw [HP1.out]; refine wpList_app2 rfl (.tmp 38) (.tmp 39) 114 rfl w5.heap.size 30 _ 1 24 svC Tryz.underlying114 zeroBkG rfl (by decide) (by decide) svC_length svC_one (.slice A8 vs.length c8) vs rfl HGP.out (some ⟨wr.heap.size, 0, none⟩) 1 1 [(⟨none, 0, 0⟩ : SV)] rfl rfl HSP.out (by simp only [List.length_singleton]; omega) hloP ?_; intro v1 w9 hown1 hgr1 hob1)
          have HBX := Lib.hid (show Bks2 w5.heap.size w0 w9 (vs ++ [⟨none, 0, 0⟩]) (adjN cols (gSort (keyCmp cols) rows) i ++ [[]]) from (HBP.out.keep fun b _ hl ht => hgr1.block b hl fun e => TyAt.ne ht (HGP.out.ty b e.symm).2.2 (by decide) rfl).snocNil)
          have HXX := Lib.hid (HXP.out.grown hgr1 hloP fun q hq => (HGP.out.ty q hq).1)
          obtain ⟨A9, c9, hv1, hc91, hc92, _⟩ := hown1.shape svC_length
          obtain ⟨nV, hnV⟩ : ∃ n, (vs ++ [(⟨none, 0, 0⟩ : SV)]).length = n := ⟨_, rfl⟩
          rw [hnV] at hv1
          subst hv1
          have HGX := Lib.hid hown1
          obtain ⟨j, hj0⟩ : ∃ j, vs.length = j := ⟨_, rfl⟩
          have hj : nV = j + 1 := by rw [← hnV, List.length_append, hj0]; rfl
          have hnV4 : j ≤ 400 := by omega
          have hwj : IntKind.i64.wrap ((nV : Int) - 1) = (j : Int) := by rw [show (nV : Int) - 1 = (j : Int) from by omega]; exact IntWalk.i64_in _ (by omega)
          have HLV := Lib.hid hnV
          have HLG := Lib.hid (show ∀ b ∈ adjN cols (gSort (keyCmp cols) rows) i ++ [[]], b.length ≤ 400 from fun b hb => by
            rcases List.mem_append.1 hb with hb | hb
            · exact HLGO.out i b hb
            · simp at hb; subst hb; simp)
          have HLG2 := Lib.hid (show (adjN cols (gSort (keyCmp cols) rows) i ++ [[]]).length - 1 = j by rw [List.length_append, ← HVL.out, hj0]; rfl)
          clear hown1 hgr1 hob1 hc91 hc92 hnV hj0
          have hjI : (j : Int) < (nV : Int) := by omega
          have hjI0 : (0 : Int) ≤ (j : Int) := by omega
          have HJN := Lib.hid hj
          clear hj
          have hjv : j < (vs ++ [(⟨none, 0, 0⟩ : SV)]).length := by have := HJN.out; rw [HLV.out]; omega
          have hvj := List.getElem?_eq_getElem hjv
          obtain ⟨⟨sA, sn, sc⟩, hsj⟩ : ∃ p, (vs ++ [(⟨none, 0, 0⟩ : SV)])[j] = p := ⟨_, rfl⟩
          rw [hsj] at hvj
          have hjg : j < (adjN cols (gSort (keyCmp cols) rows) i ++ [[]]).length := by have := HBX.out.len; omega
          have hgj := List.getElem?_eq_getElem hjg
          obtain ⟨bj, hbj⟩ : ∃ p, (adjN cols (gSort (keyCmp cols) rows) i ++ [[]])[j] = p := ⟨_, rfl⟩
          rw [hbj] at hgj
          obtain ⟨l, hl1, hl2, hl3, hl4⟩ := HBX.out.own j _ _ hvj hgj
          have hl1 : sn = l.length := hl1
          subst hl1
          have hpos : 0 < (vs ++ [(⟨none, 0, 0⟩ : SV)]).length := by omega
          obtain ⟨gg, hAg, hnn1, hgg1, hgg2, hgty, _, hcs⟩ := HGX.out.head svC_length hpos
          subst hAg
          clear hnn1
          have gc : w9.cell? ⟨gg, j, none⟩ = some (.slice sA l.length sc) := hcs j _ (by
            have := flat_get 1 svC svC_length (vs ++ [(⟨none, 0, 0⟩ : SV)]) j ⟨sA, l.length, sc⟩ 0 (.slice sA l.length sc) hvj rfl
            simpa using this)
          have hl400 : l.length ≤ 400 := by rw [hl3]; exact HLG.out bj (List.mem_of_getElem? hgj)
          obtain ⟨X1, hX1⟩ : ∃ z, w9.alloc (.cells #[.slice rs.A rr.length rs.c] 104) = z := ⟨_, rfl⟩
          have xb : Below w9.heap.size w9 X1 := by rw [← hX1]; exact balloc (Below.refl _ _) _
          have HOL1 := Lib.hid (show Ow w5.heap.size 104 1 svC X1 (.slice sA l.length sc) l from hl2.on xb)
          have HS1 := Lib.hid (show Sl 1 svC X1 X1.heap.size (some ⟨w9.heap.size, 0, none⟩) [(⟨rs.A, rr.length, rs.c⟩ : SV)] by rw [← hX1]; exact Row.sl' (t := 104) svC_length ((Row.new w9 _ _).of rfl))
          have HGX1 := Lib.hid (HGX.out.on xb)
          have HBX1 := Lib.hid (HBX.out.on xb)
          have HXX1 := Lib.hid (bch HXX.out xb)
          have hlo1 : w5.heap.size ≤ X1.heap.size := HXX1.out.size
          have HX1 := Lib.hid hX1
          have HJ := Lib.hid (And.intro hvj (And.intro hgj (And.intro hl3 (And.intro hl4 hjv))))
          have Hpos := Lib.hid hpos
          have gc1 : X1.cell? ⟨gg, j, none⟩ = some (.slice sA l.length sc) := (xb.cell (p := ⟨gg, j, none⟩) hgg2).trans gc
          clear hX1 xb hvj hgj hsj hbj hl2 hl3 hl4 hpos hcs hgty hjv hjg hgg1
          go_wp2_with (at_builtin; rw [HX1.out]; refine wpList_app2 rfl (.tmp 49) (.tmp 51) 30 rfl w5.heap.size 104 _ 1 24 svC Tryz.underlying30 zeroRowS rfl (by decide) (by decide) svC_length svC_one (.slice sA l.length sc) l rfl HOL1.out (some ⟨w9.heap.size, 0, none⟩) 1 1 [(⟨rs.A, rr.length, rs.c⟩ : SV)] rfl rfl HS1.out (by simp only [List.length_singleton]; omega) hlo1 ?_; intro v2 x2 hown2 hgr2 hob2; have hG2 := HGX1.out.apart2 (S := fun b => (Value.slice sA l.length sc).ownBlock = some b) ((Only.refl _).grown hgr2 fun q e => .inl e) (fun b hb hS => TyAt.ne (HGX1.out.ty b hb).2.2 (HOL1.out.ty b hS).2.2 (by decide) rfl); obtain ⟨gq, hAq, hnn2, _, hlt2, hty2, hfz, hcs2⟩ := hG2.head svC_length Hpos.out; cases hAq; clear hnn2; have fz := hfz j; have gc2 : x2.cell? ⟨gg, j, none⟩ = some (.slice sA l.length sc) := hcs2 j _ (by have := flat_get 1 svC svC_length (vs ++ [(⟨none, 0, 0⟩ : SV)]) j ⟨sA, l.length, sc⟩ 0 (.slice sA l.length sc) HJ.out.1 rfl; simpa using this); obtain ⟨A2, c2, hv2, hc21, hc22, _⟩ := hown2.shape svC_length; have hln : (l ++ [(⟨rs.A, rr.length, rs.c⟩ : SV)]).length = l.length + 1 := (by simp); rw [hln] at hv2; subst hv2; have HK2 := Lib.hid (And.intro hown2 (And.intro hgr2 (And.intro hob2 (And.intro hG2 (And.intro hty2 hlt2))))); clear hown2 hgr2 hob2 hG2 hty2 hfz hcs2 hc21 hc22 hln)
          go_roundg (n - (i + 1))
          case measure => omega
          case rel =>
            obtain ⟨hown2, hgr2, hob2, hG2, hty2, hlt2⟩ := HK2.out
            obtain ⟨hvj, hgj, hl3, hl4, hjv⟩ := HJ.out
            obtain ⟨gh, hAh, _, _, _, _, _, _⟩ := hown2.head svC_length (by simp)
            have hln : (l ++ [(⟨rs.A, rr.length, rs.c⟩ : SV)]).length = l.length + 1 := by simp
            subst hAh
            have hput := HBX1.out.put hvj hgj hl3 hl4 (sv := ⟨rs.A, rr.length, rs.c⟩) (r := rr) ⟨rfl, HSV.out.2.1, HSV.out.2.2.1, HSV.out.2.2.2⟩ (by rw [hln]; exact hown2) hgr2 (by
              rcases hob2 with h1 | h1
              · exact .inl h1.symm
              · have h1 : some gh = some X1.heap.size := h1
                injection h1 with h1
                exact .inr h1)
            rw [hln] at hput
            have hst := hG2.put j (.slice (some ⟨gh, 0, none⟩) (l.length + 1) c2)
            rw [flat_setS _ j ⟨some ⟨gh, 0, none⟩, l.length + 1, c2⟩ hjv] at hst
            refine ⟨i + 1, (vs ++ [(⟨none, 0, 0⟩ : SV)]).set j ⟨some ⟨gh, 0, none⟩, l.length + 1, c2⟩, by omega, rfl, by go_num, by unfold Ow; rw [List.length_set]; exact hst, ?_, ((HXX1.out.grown hgr2 hlo1 fun q hq => (HOL1.out.ty q hq).1).setCell (p := ⟨gg, j, none⟩) (HGX.out.ty gg rfl).1 _)⟩
            rw [HADJ.out, HLG2.out, List.getD_eq_getElem?_getD, hgj]
            exact hput.keep fun b _ _ hb => Below.heap_setCell _ _ _ _ (TyAt.ne hb hty2 (by decide))
        · have hi0b : ((i : Int) == 0) = false := by simp [hi0]
          obtain ⟨m, hm⟩ : ∃ m, i = m + 1 := ⟨i - 1, by omega⟩
          have hmn : m < n := by omega
          obtain ⟨ps, pr, hcp, hsp, hpS, hpv⟩ := HQ5.out m hmn
          have c1 : wr.cell? ⟨g, m, none⟩ = some (.slice ps.A pr.length ps.c) := (HR.out.2.2.cell (p := ⟨g, m, none⟩) hg5).trans hcp
          have hwm : IntKind.i64.wrap ((i : Int) - 1) = (m : Int) := by rw [show (i : Int) - 1 = (m : Int) from by omega]; exact IntWalk.i64_in _ (by omega)
          have hmI : (m : Int) < (n : Int) := by omega
          have hmI0 : (0 : Int) ≤ (m : Int) := by omega
          obtain ⟨R, hR⟩ : ∃ R, keyCmp cols pr rr = R := ⟨_, rfl⟩
          have hKC := grpCmp_ok A' ps.A rs.A c' ps.c rs.c kb pr rr cols wr (rowValid_len hpS.1.1).2 hr6 (by omega) (fun q hq => by have := HC.out q hq; have hpr : (pr.length : Int) = W := hpS.1.2; omega) (fun q hq => by have := HC.out q hq; have := hro.out.2; omega) (R2.out.on (bch H25.out HR.out.2.2)) (hpv.2.2.2.on (bch (bch B20.out H25.out) HR.out.2.2)) (HSV.out.2.2.2.on (bch (bch B20.out H25.out) HR.out.2.2)) (HIN.out wr (bch H25.out HR.out.2.2))
          rw [hR] at hKC
          have HKC := Lib.hid hKC
          have hgd : (gSort (keyCmp cols) rows).getD (i - 1) [] = pr := by rw [hm, Nat.add_sub_cancel, List.getD_eq_getElem?_getD, hsp]; rfl
          have hz0 : R = 0 ↔ pickR cols pr = pickR cols rr := by rw [← hR]; exact keyCmp_zero (keyS_of hpS.1 HC.out) (keyS_of hro.out HC.out)
          have hi00 : ¬ i = 0 := hi0
          have HM := Lib.hid (And.intro hgd (And.intro hz0 (And.intro hm hi00)))
          clear hcp hsp hpS hpv hR hKC hgd hz0 hm hi0 hi00 hmn
          by_cases hR0 : R = 0
          · have hRI : (R != 0) = false := by simp [hR0]
            have HADJ := Lib.hid (show adjN cols (gSort (keyCmp cols) rows) (i + 1) = (adjN cols (gSort (keyCmp cols) rows) i).set ((adjN cols (gSort (keyCmp cols) rows) i).length - 1) ((adjN cols (gSort (keyCmp cols) rows) i).getD ((adjN cols (gSort (keyCmp cols) rows) i).length - 1) [] ++ [rr]) from by
              conv => lhs; unfold adjN
              rw [HSX.out]
              dsimp only
              rw [HM.out.1, if_neg (by
                rintro (h | h)
                · exact HM.out.2.2.2 h
                · exact h (HM.out.2.1.1 hR0))])
            have hvp : 0 < vs.length := by have h1 := HVL.out; have h2 := HAL.out.2 (by have := HM.out.2.2.1; omega); omega
            subst hR0
            go_wp2_with fail
            refine HKC.out.mono ?_
            rintro e w8 ⟨rfl, hb8⟩
            have HGX := Lib.hid (HR.out.1.on hb8)
            have HBX := Lib.hid (HR.out.2.1.on hb8)
            have HXX := Lib.hid (bch HR.out.2.2 hb8)
            obtain ⟨nV, hnV⟩ : ∃ n, vs.length = n := ⟨_, rfl⟩
            rw [hnV] at HGX hvp hvl4 ⊢
            obtain ⟨j, hj⟩ : ∃ j, nV = j + 1 := ⟨nV - 1, by omega⟩
            have hwj : IntKind.i64.wrap ((nV : Int) - 1) = (j : Int) := by rw [show (nV : Int) - 1 = (j : Int) from by omega]; exact IntWalk.i64_in _ (by omega)
            have HLV := Lib.hid hnV
            have HLG := Lib.hid (HLGO.out i)
            have HLG2 := Lib.hid (show (adjN cols (gSort (keyCmp cols) rows) i).length - 1 = j by have := HVL.out; omega)
            clear hb8 hnV c1
            have hjI : (j : Int) < (nV : Int) := by omega
            have hjI0 : (0 : Int) ≤ (j : Int) := by omega
            have HJN := Lib.hid hj
            clear hj
            have hjv : j < (vs).length := by have := HJN.out; rw [HLV.out]; omega
            have hvj := List.getElem?_eq_getElem hjv
            obtain ⟨⟨sA, sn, sc⟩, hsj⟩ : ∃ p, (vs)[j] = p := ⟨_, rfl⟩
            rw [hsj] at hvj
            have hjg : j < (adjN cols (gSort (keyCmp cols) rows) i).length := by have := HBX.out.len; omega
            have hgj := List.getElem?_eq_getElem hjg
            obtain ⟨bj, hbj⟩ : ∃ p, (adjN cols (gSort (keyCmp cols) rows) i)[j] = p := ⟨_, rfl⟩
            rw [hbj] at hgj
            obtain ⟨l, hl1, hl2, hl3, hl4⟩ := HBX.out.own j _ _ hvj hgj
            have hl1 : sn = l.length := hl1
            subst hl1
            have hpos : 0 < (vs).length := by omega
            obtain ⟨gg, hAg, hnn1, hgg1, hgg2, hgty, _, hcs⟩ := HGX.out.head svC_length hpos
            subst hAg
            clear hnn1
            have gc : w8.cell? ⟨gg, j, none⟩ = some (.slice sA l.length sc) := hcs j _ (by
              have := flat_get 1 svC svC_length (vs) j ⟨sA, l.length, sc⟩ 0 (.slice sA l.length sc) hvj rfl
              simpa using this)
            have hl400 : l.length ≤ 400 := by rw [hl3]; exact HLG.out bj (List.mem_of_getElem? hgj)
            obtain ⟨X1, hX1⟩ : ∃ z, w8.alloc (.cells #[.slice rs.A rr.length rs.c] 104) = z := ⟨_, rfl⟩
            have xb : Below w8.heap.size w8 X1 := by rw [← hX1]; exact balloc (Below.refl _ _) _
            have HOL1 := Lib.hid (show Ow w5.heap.size 104 1 svC X1 (.slice sA l.length sc) l from hl2.on xb)
            have HS1 := Lib.hid (show Sl 1 svC X1 X1.heap.size (some ⟨w8.heap.size, 0, none⟩) [(⟨rs.A, rr.length, rs.c⟩ : SV)] by rw [← hX1]; exact Row.sl' (t := 104) svC_length ((Row.new w8 _ _).of rfl))
            have HGX1 := Lib.hid (HGX.out.on xb)
            have HBX1 := Lib.hid (HBX.out.on xb)
            have HXX1 := Lib.hid (bch HXX.out xb)
            have hlo1 : w5.heap.size ≤ X1.heap.size := HXX1.out.size
            have HX1 := Lib.hid hX1
            have HJ := Lib.hid (And.intro hvj (And.intro hgj (And.intro hl3 (And.intro hl4 hjv))))
            have Hpos := Lib.hid hpos
            have gc1 : X1.cell? ⟨gg, j, none⟩ = some (.slice sA l.length sc) := (xb.cell (p := ⟨gg, j, none⟩) hgg2).trans gc
            clear hX1 xb hvj hgj hsj hbj hl2 hl3 hl4 hpos hcs hgty hjv hjg hgg1
            go_wp2_with (at_builtin; rw [HX1.out]; refine wpList_app2 rfl (.tmp 49) (.tmp 51) 30 rfl w5.heap.size 104 _ 1 24 svC Tryz.underlying30 zeroRowS rfl (by decide) (by decide) svC_length svC_one (.slice sA l.length sc) l rfl HOL1.out (some ⟨w8.heap.size, 0, none⟩) 1 1 [(⟨rs.A, rr.length, rs.c⟩ : SV)] rfl rfl HS1.out (by simp only [List.length_singleton]; omega) hlo1 ?_; intro v2 x2 hown2 hgr2 hob2; have hG2 := HGX1.out.apart2 (S := fun b => (Value.slice sA l.length sc).ownBlock = some b) ((Only.refl _).grown hgr2 fun q e => .inl e) (fun b hb hS => TyAt.ne (HGX1.out.ty b hb).2.2 (HOL1.out.ty b hS).2.2 (by decide) rfl); obtain ⟨gq, hAq, hnn2, _, hlt2, hty2, hfz, hcs2⟩ := hG2.head svC_length Hpos.out; cases hAq; clear hnn2; have fz := hfz j; have gc2 : x2.cell? ⟨gg, j, none⟩ = some (.slice sA l.length sc) := hcs2 j _ (by have := flat_get 1 svC svC_length (vs) j ⟨sA, l.length, sc⟩ 0 (.slice sA l.length sc) HJ.out.1 rfl; simpa using this); obtain ⟨A2, c2, hv2, hc21, hc22, _⟩ := hown2.shape svC_length; have hln : (l ++ [(⟨rs.A, rr.length, rs.c⟩ : SV)]).length = l.length + 1 := (by simp); rw [hln] at hv2; subst hv2; have HK2 := Lib.hid (And.intro hown2 (And.intro hgr2 (And.intro hob2 (And.intro hG2 (And.intro hty2 hlt2))))); clear hown2 hgr2 hob2 hG2 hty2 hfz hcs2 hc21 hc22 hln)
            go_roundg (n - (i + 1))
            case measure => omega
            case rel =>
              obtain ⟨hown2, hgr2, hob2, hG2, hty2, hlt2⟩ := HK2.out
              obtain ⟨hvj, hgj, hl3, hl4, hjv⟩ := HJ.out
              obtain ⟨gh, hAh, _, _, _, _, _, _⟩ := hown2.head svC_length (by simp)
              have hln : (l ++ [(⟨rs.A, rr.length, rs.c⟩ : SV)]).length = l.length + 1 := by simp
              subst hAh
              have hput := HBX1.out.put hvj hgj hl3 hl4 (sv := ⟨rs.A, rr.length, rs.c⟩) (r := rr) ⟨rfl, HSV.out.2.1, HSV.out.2.2.1, HSV.out.2.2.2⟩ (by rw [hln]; exact hown2) hgr2 (by
                rcases hob2 with h1 | h1
                · exact .inl h1.symm
                · have h1 : some gh = some X1.heap.size := h1
                  injection h1 with h1
                  exact .inr h1)
              rw [hln] at hput
              have hst := hG2.put j (.slice (some ⟨gh, 0, none⟩) (l.length + 1) c2)
              rw [flat_setS _ j ⟨some ⟨gh, 0, none⟩, l.length + 1, c2⟩ hjv] at hst
              refine ⟨i + 1, (vs).set j ⟨some ⟨gh, 0, none⟩, l.length + 1, c2⟩, by omega, rfl, by go_num, by unfold Ow; rw [List.length_set]; exact hst, ?_, ((HXX1.out.grown hgr2 hlo1 fun q hq => (HOL1.out.ty q hq).1).setCell (p := ⟨gg, j, none⟩) (HGX.out.ty gg rfl).1 _)⟩
              rw [HADJ.out, HLG2.out, List.getD_eq_getElem?_getD, hgj]
              exact hput.keep fun b _ _ hb => Below.heap_setCell _ _ _ _ (TyAt.ne hb hty2 (by decide))
          · have hRI : (R != 0) = true := by simp [hR0]
            have HADJ := Lib.hid (show adjN cols (gSort (keyCmp cols) rows) (i + 1) = (adjN cols (gSort (keyCmp cols) rows) i ++ [[]]).set ((adjN cols (gSort (keyCmp cols) rows) i ++ [[]]).length - 1) ((adjN cols (gSort (keyCmp cols) rows) i ++ [[]]).getD ((adjN cols (gSort (keyCmp cols) rows) i ++ [[]]).length - 1) [] ++ [rr]) from by
              conv => lhs; unfold adjN
              rw [HSX.out]
              dsimp only
              rw [HM.out.1, if_pos (.inr fun h => hR0 (HM.out.2.1.2 h))])
            clear hR0
            go_wp2_with fail
            refine HKC.out.mono ?_
            rintro e wz ⟨rfl, hb8⟩
            have HZR := Lib.hid (show Ow w5.heap.size 30 1 svC wz (.slice A8 vs.length c8) vs ∧ Bks2 w5.heap.size w0 wz vs (adjN cols (gSort (keyCmp cols) rows) i) ∧ Below w5.heap.size w5 wz from ⟨HR.out.1.on hb8, HR.out.2.1.on hb8, bch HR.out.2.2 hb8⟩)
            clear hb8 c1
            obtain ⟨P1, hP1⟩ : ∃ z, wz.alloc (.cells #[.slice none 0 0] 30) = z := ⟨_, rfl⟩
            have p1 : Below wz.heap.size wz P1 := by rw [← hP1]; exact balloc (Below.refl _ _) _
            have HGP := Lib.hid (HZR.out.1.on p1)
            have HBP := Lib.hid (HZR.out.2.1.on p1)
            have HXP := Lib.hid (bch HZR.out.2.2 p1)
            have HSP := Lib.hid (show Sl 1 svC P1 P1.heap.size (some ⟨wz.heap.size, 0, none⟩) [(⟨none, 0, 0⟩ : SV)] by rw [← hP1]; exact Row.sl' (t := 30) svC_length ((Row.new wz _ _).of rfl))
            have hloP : w5.heap.size ≤ P1.heap.size := HXP.out.size
            have HP1 := Lib.hid hP1
            clear hP1 p1
            go_upto_region 10 with (at_builtin; rw [HP1.out]; refine wpList_app2 rfl (.tmp 38) (.tmp 39) 114 rfl w5.heap.size 30 _ 1 24 svC Tryz.underlying114 zeroBkG rfl (by decide) (by decide) svC_length svC_one (.slice A8 vs.length c8) vs rfl HGP.out (some ⟨wz.heap.size, 0, none⟩) 1 1 [(⟨none, 0, 0⟩ : SV)] rfl rfl HSP.out (by simp only [List.length_singleton]; omega) hloP ?_; intro v1 w9 hown1 hgr1 hob1)
            have HBX := Lib.hid (show Bks2 w5.heap.size w0 w9 (vs ++ [⟨none, 0, 0⟩]) (adjN cols (gSort (keyCmp cols) rows) i ++ [[]]) from (HBP.out.keep fun b _ hl ht => hgr1.block b hl fun e => TyAt.ne ht (HGP.out.ty b e.symm).2.2 (by decide) rfl).snocNil)
            have HXX := Lib.hid (HXP.out.grown hgr1 hloP fun q hq => (HGP.out.ty q hq).1)
            obtain ⟨A9, c9, hv1, hc91, hc92, _⟩ := hown1.shape svC_length
            obtain ⟨nV, hnV⟩ : ∃ n, (vs ++ [(⟨none, 0, 0⟩ : SV)]).length = n := ⟨_, rfl⟩
            rw [hnV] at hv1
            subst hv1
            have HGX := Lib.hid hown1
            obtain ⟨j, hj0⟩ : ∃ j, vs.length = j := ⟨_, rfl⟩
            have hj : nV = j + 1 := by rw [← hnV, List.length_append, hj0]; rfl
            have hnV4 : j ≤ 400 := by omega
            have hwj : IntKind.i64.wrap ((nV : Int) - 1) = (j : Int) := by rw [show (nV : Int) - 1 = (j : Int) from by omega]; exact IntWalk.i64_in _ (by omega)
            have HLV := Lib.hid hnV
            have HLG := Lib.hid (show ∀ b ∈ adjN cols (gSort (keyCmp cols) rows) i ++ [[]], b.length ≤ 400 from fun b hb => by
              rcases List.mem_append.1 hb with hb | hb
              · exact HLGO.out i b hb
              · simp at hb; subst hb; simp)
            have HLG2 := Lib.hid (show (adjN cols (gSort (keyCmp cols) rows) i ++ [[]]).length - 1 = j by rw [List.length_append, ← HVL.out, hj0]; rfl)
            clear hown1 hgr1 hob1 hc91 hc92 hnV hj0
            have hjI : (j : Int) < (nV : Int) := by omega
            have hjI0 : (0 : Int) ≤ (j : Int) := by omega
            have HJN := Lib.hid hj
            clear hj
            have hjv : j < (vs ++ [(⟨none, 0, 0⟩ : SV)]).length := by have := HJN.out; rw [HLV.out]; omega
            have hvj := List.getElem?_eq_getElem hjv
            obtain ⟨⟨sA, sn, sc⟩, hsj⟩ : ∃ p, (vs ++ [(⟨none, 0, 0⟩ : SV)])[j] = p := ⟨_, rfl⟩
            rw [hsj] at hvj
            have hjg : j < (adjN cols (gSort (keyCmp cols) rows) i ++ [[]]).length := by have := HBX.out.len; omega
            have hgj := List.getElem?_eq_getElem hjg
            obtain ⟨bj, hbj⟩ : ∃ p, (adjN cols (gSort (keyCmp cols) rows) i ++ [[]])[j] = p := ⟨_, rfl⟩
            rw [hbj] at hgj
            obtain ⟨l, hl1, hl2, hl3, hl4⟩ := HBX.out.own j _ _ hvj hgj
            have hl1 : sn = l.length := hl1
            subst hl1
            have hpos : 0 < (vs ++ [(⟨none, 0, 0⟩ : SV)]).length := by omega
            obtain ⟨gg, hAg, hnn1, hgg1, hgg2, hgty, _, hcs⟩ := HGX.out.head svC_length hpos
            subst hAg
            clear hnn1
            have gc : w9.cell? ⟨gg, j, none⟩ = some (.slice sA l.length sc) := hcs j _ (by
              have := flat_get 1 svC svC_length (vs ++ [(⟨none, 0, 0⟩ : SV)]) j ⟨sA, l.length, sc⟩ 0 (.slice sA l.length sc) hvj rfl
              simpa using this)
            have hl400 : l.length ≤ 400 := by rw [hl3]; exact HLG.out bj (List.mem_of_getElem? hgj)
            obtain ⟨X1, hX1⟩ : ∃ z, w9.alloc (.cells #[.slice rs.A rr.length rs.c] 104) = z := ⟨_, rfl⟩
            have xb : Below w9.heap.size w9 X1 := by rw [← hX1]; exact balloc (Below.refl _ _) _
            have HOL1 := Lib.hid (show Ow w5.heap.size 104 1 svC X1 (.slice sA l.length sc) l from hl2.on xb)
            have HS1 := Lib.hid (show Sl 1 svC X1 X1.heap.size (some ⟨w9.heap.size, 0, none⟩) [(⟨rs.A, rr.length, rs.c⟩ : SV)] by rw [← hX1]; exact Row.sl' (t := 104) svC_length ((Row.new w9 _ _).of rfl))
            have HGX1 := Lib.hid (HGX.out.on xb)
            have HBX1 := Lib.hid (HBX.out.on xb)
            have HXX1 := Lib.hid (bch HXX.out xb)
            have hlo1 : w5.heap.size ≤ X1.heap.size := HXX1.out.size
            have HX1 := Lib.hid hX1
            have HJ := Lib.hid (And.intro hvj (And.intro hgj (And.intro hl3 (And.intro hl4 hjv))))
            have Hpos := Lib.hid hpos
            have gc1 : X1.cell? ⟨gg, j, none⟩ = some (.slice sA l.length sc) := (xb.cell (p := ⟨gg, j, none⟩) hgg2).trans gc
            clear hX1 xb hvj hgj hsj hbj hl2 hl3 hl4 hpos hcs hgty hjv hjg hgg1
            go_wp2_with (at_builtin; rw [HX1.out]; refine wpList_app2 rfl (.tmp 49) (.tmp 51) 30 rfl w5.heap.size 104 _ 1 24 svC Tryz.underlying30 zeroRowS rfl (by decide) (by decide) svC_length svC_one (.slice sA l.length sc) l rfl HOL1.out (some ⟨w9.heap.size, 0, none⟩) 1 1 [(⟨rs.A, rr.length, rs.c⟩ : SV)] rfl rfl HS1.out (by simp only [List.length_singleton]; omega) hlo1 ?_; intro v2 x2 hown2 hgr2 hob2; have hG2 := HGX1.out.apart2 (S := fun b => (Value.slice sA l.length sc).ownBlock = some b) ((Only.refl _).grown hgr2 fun q e => .inl e) (fun b hb hS => TyAt.ne (HGX1.out.ty b hb).2.2 (HOL1.out.ty b hS).2.2 (by decide) rfl); obtain ⟨gq, hAq, hnn2, _, hlt2, hty2, hfz, hcs2⟩ := hG2.head svC_length Hpos.out; cases hAq; clear hnn2; have fz := hfz j; have gc2 : x2.cell? ⟨gg, j, none⟩ = some (.slice sA l.length sc) := hcs2 j _ (by have := flat_get 1 svC svC_length (vs ++ [(⟨none, 0, 0⟩ : SV)]) j ⟨sA, l.length, sc⟩ 0 (.slice sA l.length sc) HJ.out.1 rfl; simpa using this); obtain ⟨A2, c2, hv2, hc21, hc22, _⟩ := hown2.shape svC_length; have hln : (l ++ [(⟨rs.A, rr.length, rs.c⟩ : SV)]).length = l.length + 1 := (by simp); rw [hln] at hv2; subst hv2; have HK2 := Lib.hid (And.intro hown2 (And.intro hgr2 (And.intro hob2 (And.intro hG2 (And.intro hty2 hlt2))))); clear hown2 hgr2 hob2 hG2 hty2 hfz hcs2 hc21 hc22 hln)
            go_roundg (n - (i + 1))
            case measure => omega
            case rel =>
              obtain ⟨hown2, hgr2, hob2, hG2, hty2, hlt2⟩ := HK2.out
              obtain ⟨hvj, hgj, hl3, hl4, hjv⟩ := HJ.out
              obtain ⟨gh, hAh, _, _, _, _, _, _⟩ := hown2.head svC_length (by simp)
              have hln : (l ++ [(⟨rs.A, rr.length, rs.c⟩ : SV)]).length = l.length + 1 := by simp
              subst hAh
              have hput := HBX1.out.put hvj hgj hl3 hl4 (sv := ⟨rs.A, rr.length, rs.c⟩) (r := rr) ⟨rfl, HSV.out.2.1, HSV.out.2.2.1, HSV.out.2.2.2⟩ (by rw [hln]; exact hown2) hgr2 (by
                rcases hob2 with h1 | h1
                · exact .inl h1.symm
                · have h1 : some gh = some X1.heap.size := h1
                  injection h1 with h1
                  exact .inr h1)
              rw [hln] at hput
              have hst := hG2.put j (.slice (some ⟨gh, 0, none⟩) (l.length + 1) c2)
              rw [flat_setS _ j ⟨some ⟨gh, 0, none⟩, l.length + 1, c2⟩ hjv] at hst
              refine ⟨i + 1, (vs ++ [(⟨none, 0, 0⟩ : SV)]).set j ⟨some ⟨gh, 0, none⟩, l.length + 1, c2⟩, by omega, rfl, by go_num, by unfold Ow; rw [List.length_set]; exact hst, ?_, ((HXX1.out.grown hgr2 hlo1 fun q hq => (HOL1.out.ty q hq).1).setCell (p := ⟨gg, j, none⟩) (HGX.out.ty gg rfl).1 _)⟩
              rw [HADJ.out, HLG2.out, List.getD_eq_getElem?_getD, hgj]
              exact hput.keep fun b _ _ hb => Below.heap_setCell _ _ _ _ (TyAt.ne hb hty2 (by decide))
      · have hiI : ¬ (i : Int) < (n : Int) := by omega
        have hie : i = rows.length := by have h1 := HNN.out.1; have h2 := HNN.out.2; omega
        have HIE := Lib.hid hie
        clear hie
        go_wp2
        go_ret
        have hbk := HR.out.2.1
        rw [HIE.out] at hbk
        exact ⟨_, vs, w5, rfl, bch B2.out H25.out, HR.out.2.2, HR.out.1, hbk⟩
end Go.Proofs.YtlhonhacehgooaaGreat

/-
  Contract of GroupBy's iterator as a source of rows: the program's. (Printed by wip/gri.py.)
-/
namespace Go.Proofs.YtlhonhacehgooaaGreat
open Go.RowKit Go.Qo
set_option linter.unusedVariables false
set_option linter.unusedSimpArgs false
attribute [local go_sem] Oper.semAt_some

/-- append in a fenced walk. -/
theorem wpIn_app2 {F : Fence} {n : Nat} {P : Program} {w : World} {o : Oper} {a : Act} {K : Act → World → Prop} {Q : Exit → Act → World → Prop} (s x : Operand) (t : TypeId)
    (ho : o.op = .call { callee := .builtin .append, args := #[s, x], argTypes := #[t, t] })
    {α : Type} (lo : Nat) (e : TypeId) (z : Value) (sz bytes : Nat) (enc : α → List Value) (ht : P.underlying t = some (.slice e)) (hi : (P.info? e).map (fun i => (i.zero, i.size, i.bytes)) = some (some z, sz, bytes))
    (hzs : z.cells.size = sz) (hsz : 0 < sz) (hby : bytes ≤ 64) (he : ∀ x, (enc x).length = sz) (h1 : ∀ x, ∀ u ∈ enc x, u.oneCell' = true)
    (v : Value) (xs : List α) (hs : a.eval s = v) (hown : Ow lo e sz enc w v xs)
    (A : Option Addr) (m c : Nat) (ys : List α) (hx : a.eval x = .slice A m c) (hm : m = ys.length) (hy : Sl sz enc w w.heap.size A ys)
    (hlen : xs.length + ys.length ≤ 1099511627776) (hlo : lo ≤ w.heap.size)
    (h : ∀ v' w', Ow lo e sz enc w' v' (xs ++ ys) → w.grownBy w' v.ownBlock → (v'.ownBlock = v.ownBlock ∨ v'.ownBlock = some w.heap.size) → K (a.put o.dst v') w') : Oper.wpIn F n P o a w K Q := by
  obtain ⟨v', w', hrun, h2, h3, h4⟩ := run_app2 (P := P) t o.type lo e z sz bytes enc ht hi hzs hsz hby he h1 v xs hown A m c ys hm hy hlen hlo
  refine ⟨by simp [Oper.about, ho, resolve, Target.leads, Sem.run_pure], ?_⟩
  rw [Oper.semAt_plain F _ _ (by rw [ho]; intro c hc'; cases hc')]
  simp [execOp, ho, resolve, invoke, builtin, hs, hx, hrun, Result.andThen]
  exact h v' w' h2 h3 h4
theorem wpListIn_app2 {F : Fence} {n : Nat} {P : Program} {w : World} {ops : Array Oper} {rest : List Oper} {o : Oper} {a : Act} {Q : Exit → Act → World → Prop} (hgd : o.guard = none) (s x : Operand) (t : TypeId)
    (ho : o.op = .call { callee := .builtin .append, args := #[s, x], argTypes := #[t, t] })
    {α : Type} (lo : Nat) (e : TypeId) (z : Value) (sz bytes : Nat) (enc : α → List Value) (ht : P.underlying t = some (.slice e)) (hi : (P.info? e).map (fun i => (i.zero, i.size, i.bytes)) = some (some z, sz, bytes))
    (hzs : z.cells.size = sz) (hsz : 0 < sz) (hby : bytes ≤ 64) (he : ∀ x, (enc x).length = sz) (h1 : ∀ x, ∀ u ∈ enc x, u.oneCell' = true)
    (v : Value) (xs : List α) (hs : a.eval s = v) (hown : Ow lo e sz enc w v xs)
    (A : Option Addr) (m c : Nat) (ys : List α) (hx : a.eval x = .slice A m c) (hm : m = ys.length) (hy : Sl sz enc w w.heap.size A ys)
    (hlen : xs.length + ys.length ≤ 1099511627776) (hlo : lo ≤ w.heap.size)
    (h : ∀ v' w', Ow lo e sz enc w' v' (xs ++ ys) → w.grownBy w' v.ownBlock → (v'.ownBlock = v.ownBlock ∨ v'.ownBlock = some w.heap.size) → wpListIn F n P ops Q rest (a.put o.dst v') w') : wpListIn F n P ops Q (o :: rest) a w :=
  wpListIn_plain hgd fun K hK => wpIn_app2 s x t ho lo e z sz bytes enc ht hi hzs hsz hby he h1 v xs hs hown A m c ys hx hm hy hlen hlo fun v' w' h1 h2 h3 => hK _ _ (h v' w' h1 h2 h3)
theorem keepBelowG {w z wr : World} {E : Nat → Prop} (h : Below w.heap.size w z) (k : KeepE w.heap.size E z wr) : Below w.heap.size w wr := Only.from_ h rfl k fun _ hi => hi.1
theorem keepCellG {n₀ : Nat} {E : Nat → Prop} {X Y : World} (k : KeepE n₀ E X Y) {b o : Nat} (hb : b < X.heap.size) (hE : E b) : Y.cell? ⟨b, o, none⟩ = X.cell? ⟨b, o, none⟩ := by
  have h := k.block b hb fun h => h.2 hE
  simp only [World.cell?, h]
theorem enterG (z z2 : World) : Fresh (fun _ => False) (fun i => z.heap.size ≤ i ∧ i < z2.heap.size) z z2 := fun i hi => ⟨.inr hi.1, hi.2⟩
theorem stayG {E : Nat → Prop} {X Y : World} (h : ∀ i, E i → i < Y.heap.size) : Fresh E E X Y := fun i hi => ⟨.inl hi, h i hi⟩
theorem adjN_small2 (cols : List Int) (s : List Row1) : ∀ n : Nat, (adjN cols s n).length ≤ n
  | 0 => by simp [adjN]
  | n + 1 => by
    have ih := adjN_small2 cols s n
    unfold adjN
    split
    · omega
    · dsimp only
      rw [List.length_set]
      split
      · simp; omega
      · omega
theorem entersGroup : EntersF 75 := enters_of Tryz.func75 (by kernel_rfl) rfl
/-- The groups are not empty, and made of the rows. -/
theorem adj_ne {cols : List Int} {rows : List Row1} (hS : ∀ r ∈ rows, KeyS cols r) : ∀ b ∈ adjN cols (gSort (keyCmp cols) rows) rows.length, b ≠ [] ∧ ∀ r ∈ b, r ∈ rows := fun b hb => by
  have C := keyCm cols
  have hp := gSort_perm C hS
  have hl : (gSort (keyCmp cols) rows).length = rows.length := gSort_length rows
  have ha := (adjN_spec (fun r hr => hS r (hp.mem_iff.1 hr)) (gSort_ord C hS) rows.length (by omega)).1
  rw [List.take_of_length_le (by omega)] at ha
  rw [ha] at hb
  obtain ⟨k, hk, rfl⟩ := List.mem_map.1 hb
  obtain ⟨r, hr, he⟩ := mem_keysOf.1 hk
  refine ⟨fun h0 => ?_, fun q hq => hp.mem_iff.1 (List.mem_filter.1 hq).1⟩
  have : r ∈ inG cols k (gSort (keyCmp cols) rows) := by unfold inG; rw [List.mem_filter]; exact ⟨hr, by simpa using he⟩
  rw [h0] at this
  cases this
def grF (cols : List Int) (col kind : Int) (g : List Row1) : Row1 := pickR cols (g.headD []) ++ [aggF kind (valG col g)]
theorem grF_ok {W : Int} {cols : List Int} {cl kind : Int} {g : List Row1} (hg : g ≠ []) (hr : ∀ r ∈ g, RowOk W r) (hc : ∀ c ∈ cols, 0 ≤ c ∧ c < W) (hcl : 0 ≤ cl ∧ cl < W) (hl : cols.length < 6) : RowOk ((cols.length : Int) + 1) (grF cols cl kind g) := by
  cases g with
  | nil => exact absurd rfl hg
  | cons q qs =>
    have hq := hr q (by simp)
    have hval : ∀ r, RowOk W r → ∀ c, 0 ≤ c ∧ c < W → vValid (getV r c) = true := fun r hr c hc => by
      have hlt : c.toNat < r.length := by have := hr.2; omega
      unfold getV
      rw [List.getD_eq_getElem?_getD, List.getElem?_eq_getElem hlt]
      exact hr.vals _ (List.getElem_mem hlt)
    have hlen : (grF cols cl kind (q :: qs)).length = cols.length + 1 := by unfold grF; simp [pickR]
    refine ⟨?_, by rw [hlen]; simp⟩
    unfold rowValid
    rw [hlen]
    simp only [Bool.and_eq_true, decide_eq_true_eq, List.all_eq_true]
    refine ⟨⟨by omega, by omega⟩, fun x hx => ?_⟩
    unfold grF at hx
    rcases List.mem_append.1 hx with h | h
    · obtain ⟨c, hcm, rfl⟩ := List.mem_map.1 h
      exact hval q hq c (hc c hcm)
    · simp at h
      subst h
      refine aggF_valid fun v hv => ?_
      obtain ⟨r, hrm, rfl⟩ := List.mem_map.1 hv
      exact hval r (hr r hrm) cl hcl

set_option maxRecDepth 100000 in
set_option maxHeartbeats 8000000 in
theorem groupIt_ok (W : Int) (A A' : Option Addr) (c c' : Nat) (rows : List Row1) (cols : List Int) (cl : Nat) (kind : Int) (pt pc pcol pk : Nat) (w : World) (hT : TabOk W rows) (hl : cols.length < 6) (hc : ∀ x ∈ cols, 0 ≤ x ∧ x < W) (hcl : (cl : Int) < W) (hkd : 1 ≤ kind ∧ kind ≤ 5)
    (h : Rws w w.heap.size A rows) (h' : Sl 1 intC w w.heap.size A' cols) (rt : Row w pt 32 [.int .i64 W, .slice A rows.length c]) (rc : Row w pc 23 [.slice A' cols.length c']) (rcl : Row w pcol 3 [.int .i64 cl]) (rk : Row w pk 3 [.int .i64 kind]) :
    SeqR Fence.wide 5 Tryz.prog 75 #[.pointer (some ⟨pt, 0, none⟩), .pointer (some ⟨pc, 0, none⟩), .pointer (some ⟨pcol, 0, none⟩), .pointer (some ⟨pk, 0, none⟩)] (fun x : Rw ((cols.length : Int) + 1) => encSR x.1) (fun x z => SRs ((cols.length : Int) + 1) z x.1) w.heap.size
      (fun ys' => ys'.map (·.1.2) = srtRows cols cl kind rows) (fun pre => pre.map (·.1.2) <+: srtRows cols cl kind rows) (srtRows cols cl kind rows).length w := by
  intro l J Jx z hz hJ hJx hY h0
  have hr4 := hT.2.2.1
  have hW6 := hT.2.1
  have HTR := Lib.hid (show ∀ r ∈ rows, RowOk W r from fun r hr => by
    obtain ⟨i, hi, rfl⟩ := List.getElem_of_mem hr
    exact hT.row (List.getElem?_eq_getElem hi))
  have HGO := Lib.hid (fun (z : World) (hz : Below w.heap.size w z) => groupsOf_ok W A A' c c' rows cols w z hz hT hl hc h h')
  obtain ⟨GS, hGS⟩ : ∃ G, adjN cols (gSort (keyCmp cols) rows) rows.length = G := ⟨_, rfl⟩
  have HGE := Lib.hid (show (∀ b ∈ GS, b ≠ [] ∧ ∀ r ∈ b, r ∈ rows) ∧ ∀ b ∈ GS, b.length ≤ 400 from by
    rw [← hGS]
    refine ⟨adj_ne fun r hr => keyS_of (HTR.out r hr) hc, fun b hb => ?_⟩
    have := adjN_small cols (gSort (keyCmp cols) rows) rows.length b hb
    omega)
  obtain ⟨G, hG⟩ : ∃ G, srtRows cols cl kind rows = G := ⟨_, rfl⟩
  have HG := Lib.hid (show G = GS.map (grF cols cl kind) by rw [← hG, ← hGS]; rfl)
  rw [hG] at hY ⊢
  have HGS := Lib.hid hGS
  have HIN := Lib.hid (And.intro h h')
  have HC := Lib.hid hc
  have HRR := Lib.hid (And.intro rt (And.intro rc (And.intro rcl rk)))
  have HZ := Lib.hid hz
  have HJ := Lib.hid hJ
  have HY := Lib.hid hY
  have H0 := Lib.hid h0
  have a0 : z.cell? ⟨pt, 0, none⟩ = some (.int .i64 W) := (rt.on hz).cell 0
  have a1 : z.cell? ⟨pt, 1, none⟩ = some (.slice A rows.length c) := (rt.on hz).cell 1
  have a2 : z.cell? ⟨pc, 0, none⟩ = some (.slice A' cols.length c') := (rc.on hz).cell 0
  clear hT hGS hG h h' hc rt rc rcl rk hz hJ hJx hY h0
  show CallsIn _ _ _ _ #[.func (.yield l) #[] #[], .pointer (some ⟨pt, 0, none⟩), .pointer (some ⟨pc, 0, none⟩), .pointer (some ⟨pcol, 0, none⟩), .pointer (some ⟨pk, 0, none⟩)] _ _
  refine callsIn_of_wp Tryz.func75 rfl trivial ?_ rfl
  simp only [Tryz.ntmps75, List.size_toArray, List.length_cons, List.length_nil, Nat.reduceAdd, Nat.reduceSub, Array.replicate_succ, Array.replicate_zero, List.push_toArray, List.append_toArray, List.nil_append, List.cons_append]
  gi_wp2_with (refine ⟨trivial, ?_⟩; gi_at_call 76; refine (callsIn_wide.2 (HGO.out _ HZ.out)).mono ?_; clear HGO; rintro e z2 ⟨v1, vs, w5, rfl, hb5, hb2, how, hbk⟩; obtain ⟨A13, c13, rfl, hc131, hc132, _⟩ := how.shape svC_length; have HB2 := Lib.hid (And.intro hb5 (And.intro hb2 (And.intro how hbk))); clear hb5 hb2 how hbk a0 a1 a2 hc131)
  have hb12 : Below z.heap.size z z2 := bch HB2.out.1 HB2.out.2.1
  have hz5 := HB2.out.1.size
  obtain ⟨E, hE⟩ : ∃ E : Nat → Prop, (fun i => z.heap.size ≤ i ∧ i < z2.heap.size) = E := ⟨_, rfl⟩
  have hEi : ∀ i, E i ↔ z.heap.size ≤ i ∧ i < z2.heap.size := fun i => by rw [← hE]
  have J2 : J E [] z2 := HJ.out _ E [] z z2 H0.out (only_below hb12) (hE ▸ enterG z z2)
  have BZ2 := Lib.hid (show Below w.heap.size w z2 from bch HZ.out hb12)
  have HE := Lib.hid hEi
  have JB := Lib.hid (fun (pre : List (Rw ((cols.length : Int) + 1))) (X Y : World) (hj : J E pre X) (hxy : Below X.heap.size X Y) (h2 : z2.heap.size ≤ Y.heap.size) => HJ.out E E pre X Y hj (only_below hxy) (stayG fun i hi => by have := ((HE.out i).1 hi).2; omega))
  obtain ⟨N, hN⟩ : ∃ n, vs.length = n := ⟨_, rfl⟩
  have hNG : GS.length = N := by rw [← hN, HB2.out.2.2.2.len, HGS.out]
  have hN4 : N ≤ 400 := by rw [← hNG, ← HGS.out]; have := adjN_small2 cols (gSort (keyCmp cols) rows) rows.length; omega
  have HV := Lib.hid (fun (n : Nat) (hn : n < N) => show ∃ (gg gi : Nat) (c1 : Nat) (sl : List SV) (b : List Row1), A13 = some ⟨gg, 0, none⟩ ∧ (E gg ∧ gg < z2.heap.size) ∧ (E gi ∧ gi < z2.heap.size) ∧ z2.cell? ⟨gg, n, none⟩ = some (.slice (some ⟨gi, 0, none⟩) b.length c1) ∧ GS[n]? = some b ∧ (∀ (q : Nat) (hq : q < b.length), ∃ s : SV, z2.cell? ⟨gi, q, none⟩ = some (.slice s.A (b[q]).length s.c) ∧ SVIs 2 valC w w.heap.size s b[q]) from by
    have hnv : n < vs.length := by omega
    have hng : n < GS.length := by omega
    obtain ⟨gg, hAg, _, hg1, hg2, _, _, hcs⟩ := HB2.out.2.2.1.head svC_length (by omega)
    have hvn := List.getElem?_eq_getElem hnv
    have hgn := List.getElem?_eq_getElem hng
    have hbkG : Bks2 w5.heap.size w z2 vs GS := by have := HB2.out.2.2.2; rwa [HGS.out] at this
    obtain ⟨sl, hs1, hs2, hs3, hs4⟩ := hbkG.own n vs[n] GS[n] hvn hgn
    have hb := HGE.out.1 GS[n] (List.getElem_mem hng)
    have hbl : 0 < (GS[n]).length := List.length_pos_iff.2 hb.1
    unfold svV at hs2
    rw [hs1] at hs2
    obtain ⟨gi, hAi, _, hi1, hi2, _, _, hci⟩ := hs2.head svC_length (by omega)
    refine ⟨gg, gi, vs[n].c, sl, GS[n], hAg, ⟨(HE.out gg).2 ⟨by omega, hg2⟩, hg2⟩, ⟨(HE.out gi).2 ⟨by omega, hi2⟩, hi2⟩, ?_, hgn, fun q hq => ?_⟩
    · have := hcs n (.slice vs[n].A vs[n].n vs[n].c) (by
        have := flat_get 1 svC svC_length vs n vs[n] 0 (.slice vs[n].A vs[n].n vs[n].c) hvn rfl
        simpa using this)
      rw [this, hs1, hs3, hAi]
    · have hqs : q < sl.length := by omega
      have hsq := List.getElem?_eq_getElem hqs
      have hr := hs4 q sl[q] GS[n][q] hsq (List.getElem?_eq_getElem hq)
      refine ⟨sl[q], ?_, hr⟩
      have := hci q (.slice sl[q].A sl[q].n sl[q].c) (by
        have := flat_get 1 svC svC_length sl q sl[q] 0 (.slice sl[q].A sl[q].n sl[q].c) hsq rfl
        simpa using this)
      rw [this, hr.1])
  rw [hN]
  have HJ2 := Lib.hid J2
  have HNG := Lib.hid hNG
  clear hE hEi J2 hb12 hN hNG
  gi_wp2
  gi_loopw [15] (fun iv wr => ∃ (n : Nat) (pre : List (Rw ((cols.length : Int) + 1))), n ≤ N ∧ iv = .int .i64 n ∧ J E pre wr ∧ KeepE w.heap.size E z2 wr ∧ G = pre.map (·.1.2) ++ (GS.drop n).map (grF cols cl kind))
    (fun iv _ => N - (intOf iv).toNat)
  case atStart => exact ⟨0, [], Nat.zero_le _, rfl, HJ2.out, Only.refl _, HG.out⟩
  case round =>
    obtain ⟨n, pre, hnN, rfl, hj, hk, hg⟩ := hrel
    have HQ := Lib.hid (And.intro hj (And.intro hk hg))
    have hbw := keepBelowG BZ2.out hk
    have hsz := hk.size
    clear hj hg
    by_cases hlt : n < N
    · have hltI : (n : Int) < (N : Int) := by omega
      obtain ⟨wo, hwo⟩ : ∃ z, z = wr := ⟨_, rfl⟩
      subst hwo
      obtain ⟨gg, gi, c1, sl, b, hA13, ⟨hEg, hg2⟩, ⟨hEi, hi2⟩, cg, hgb, hrow⟩ := HV.out n hlt
      subst hA13
      have hbm := List.mem_of_getElem? hgb
      have hbne := (HGE.out.1 b hbm).1
      have hbl : 0 < b.length := List.length_pos_iff.2 hbne
      have hbl4 : b.length ≤ 400 := HGE.out.2 b hbm
      have hbro : ∀ r ∈ b, RowOk W r := fun r hr => HTR.out r ((HGE.out.1 b hbm).2 r hr)
      have cgr : wo.cell? ⟨gg, n, none⟩ = some (.slice (some ⟨gi, 0, none⟩) b.length c1) := (keepCellG hk hg2 hEg).trans cg
      have hggw : gg < wo.heap.size := by omega
      have hgiw : gi < wo.heap.size := by omega
      have HRW := Lib.hid (fun (X : World) (hX : Below wo.heap.size wo X) (q : Nat) (hq : q < b.length) => show ∃ s : SV, X.cell? ⟨gi, q, none⟩ = some (.slice s.A (b[q]).length s.c) ∧ Sl 2 valC X X.heap.size s.A b[q] from by
        obtain ⟨s, hs1, hs2⟩ := hrow q hq
        exact ⟨s, ((hX.cell (p := ⟨gi, q, none⟩) hgiw).trans (keepCellG hk hi2 hEi)).trans hs1, hs2.2.2.2.on (bch hbw hX)⟩)
      have HCS := Lib.hid (fun (X : World) (hX : Below wo.heap.size wo X) => show X.cell? ⟨pcol, 0, none⟩ = some (.int .i64 cl) ∧ X.cell? ⟨pk, 0, none⟩ = some (.int .i64 kind) ∧ X.cell? ⟨pc, 0, none⟩ = some (.slice A' cols.length c') from ⟨(HRR.out.2.2.1.on (bch hbw hX)).cell 0, (HRR.out.2.2.2.on (bch hbw hX)).cell 0, (HRR.out.2.1.on (bch hbw hX)).cell 0⟩)
      have HBR := Lib.hid (And.intro hbro (And.intro hgb hbne))
      have HBW := Lib.hid hbw
      have hvll : (valG (cl : Int) b).length = b.length := by unfold valG; rw [List.length_map]
      have HVL := Lib.hid hvll
      clear cg hgb hrow hbm hbne hbro hvll hbw
      gi_wp2
      gi_loopw [8, 21] (fun vv iv wq => ∃ q : Nat, q ≤ b.length ∧ iv = .int .i64 q ∧ Ow wo.heap.size 55 2 valC wq vv ((valG (cl : Int) b).take q) ∧ Below wo.heap.size wo wq) (fun _ iv _ => b.length - (intOf iv).toNat)
      case atStart => exact ⟨0, Nat.zero_le _, rfl, by rw [List.take_zero]; exact Ow.nil, Below.refl _ _⟩
      case round =>
        obtain ⟨q, hqb, rfl, how, hbq⟩ := hrel
        have HO := Lib.hid (And.intro how hbq)
        have hszq := hbq.size
        by_cases hql : q < b.length
        · have hqI : (q : Int) < (b.length : Int) := by omega
          obtain ⟨⟨sA, sn, sc⟩, cs0, hsl0⟩ := HRW.out _ hbq q hql
          have cs : wr.cell? ⟨gi, q, none⟩ = some (.slice sA (b[q]).length sc) := cs0
          have hsl : Sl 2 valC wr wr.heap.size sA b[q] := hsl0
          clear cs0 hsl0
          have hro := HBR.out.1 _ (List.getElem_mem hql)
          have Hst := Lib.hid (show (valG (cl : Int) b).take (q + 1) = (valG (cl : Int) b).take q ++ [getV b[q] cl] from by
            have hl : q < (valG (cl : Int) b).length := by rw [HVL.out]; exact hql
            rw [List.take_add_one, List.getElem?_eq_getElem hl]
            simp [valG])
          generalize b[q] = r at *
          have hclr : cl < r.length := by have := hro.2; omega
          obtain ⟨bv, ov, hAv, hBv, v0, v1⟩ := Val.at_ hsl hclr
          have Hgv := Lib.hid (show getV r (cl : Int) = r[cl] by unfold getV; rw [Int.toNat_natCast, List.getD_eq_getElem?_getD, List.getElem?_eq_getElem hclr]; rfl)
          generalize r[cl] = vl at *
          obtain ⟨vn, vv⟩ := vl
          obtain ⟨L, hL⟩ : ∃ n, r.length = n := ⟨_, rfl⟩
          rw [hL] at cs hclr
          have hLI : (cl : Int) < (L : Int) := by omega
          obtain ⟨k1, _, _⟩ := HCS.out _ hbq
          have hgil : gi < wr.heap.size := by omega
          subst hAv
          obtain ⟨U, hU⟩ : ∃ z, wr.alloc (.cells #[.bool vn, .int .i64 vv] 55) = z := ⟨_, rfl⟩
          have hub : Below wr.heap.size wr U := by rw [← hU]; exact balloc (Below.refl _ _) _
          have HB5 := Lib.hid (bch HO.out.2 hub)
          have HO5 := Lib.hid (HO.out.1.on hub)
          have HS5 := Lib.hid (show Sl 2 valC U U.heap.size (some ⟨wr.heap.size, 0, none⟩) [((vn, vv) : Val)] by rw [← hU]; exact Row.sl' (t := 55) valC_length ((Row.new wr _ _).of rfl))
          have hsz6 : wo.heap.size ≤ U.heap.size := HB5.out.size
          have hcl4 : ((valG (cl : Int) b).take q).length ≤ 400 := by rw [List.length_take]; omega
          have HU := Lib.hid hU
          clear hU hub hsl hro hL how hbq
          gi_wp2_with (rw [HU.out]; refine wpListIn_app2 rfl (.tmp 25) (.tmp 30) 104 rfl wo.heap.size 55 _ 2 16 valC Tryz.underlying104 zeroValG rfl (by decide) (by decide) valC_length valC_one _ _ rfl HO5.out (some ⟨wr.heap.size, 0, none⟩) 1 1 [((vn, vv) : Val)] rfl rfl HS5.out (by simp only [List.length_singleton]; omega) hsz6 ?_; intro v' w' hown hgr hob)
          go_roundw
          case rel => exact ⟨q + 1, by omega, by first | go_num | simp, by rw [Hst.out, Hgv.out]; exact hown, HB5.out.grown hgr hsz6 fun k hk => (HO5.out.ty k hk).1⟩
          case measure => simp [intOf]; omega
        · have hqI : ¬ (q : Int) < (b.length : Int) := by omega
          have hte : (valG (cl : Int) b).take q = valG (cl : Int) b := List.take_of_length_le (by rw [HVL.out]; omega)
          rw [hte] at how
          obtain ⟨A8, c8, rfl, hc81, hc82, _⟩ := how.shape valC_length
          rw [HVL.out] at how hc81
          rw [HVL.out]
          obtain ⟨⟨s0A, s0n, s0c⟩, cs0, hsl0⟩ := HRW.out _ hbq 0 hbl
          have cs : wr.cell? ⟨gi, 0, none⟩ = some (.slice s0A (b[0]).length s0c) := cs0
          have hsl : Sl 2 valC wr wr.heap.size s0A b[0] := hsl0
          have hro := HBR.out.1 _ (List.getElem_mem hbl)
          have hhd : b.headD [] = b[0] := by cases b with | nil => cases hbl | cons x xs => rfl
          clear cs0 hsl0
          generalize b[0] = r0 at *
          have hr06 := (rowValid_len hro.1).2
          have HPK := Lib.hid (fun (X : World) (hX : Below wr.heap.size wr X) => picked_ok s0A A' s0c c' r0 cols X hr06 (by omega) (fun x hx => by have := HC.out x hx; have := hro.2; omega) (hsl.on hX) (HIN.out.2.on (bch HBW.out (bch hbq hX))))
          obtain ⟨L0, hL0⟩ : ∃ n, r0.length = n := ⟨_, rfl⟩
          rw [hL0] at HPK cs
          obtain ⟨⟨an, av⟩, hva⟩ : ∃ v, aggF kind (valG (cl : Int) b) = v := ⟨_, rfl⟩
          have HAG := Lib.hid (fun (X : World) (hX : Below wr.heap.size wr X) => show Calls Tryz.prog 78 #[.slice A8 b.length c8, .int .i64 kind] X (fun e w' => e = .returned (.agg #[.bool an, .int .i64 av]) ∧ Below X.heap.size X w') from by
            have := aggregated_ok A8 c8 (valG (cl : Int) b) kind X (by rw [HVL.out]; omega) (fun v hv => by
              obtain ⟨r, hr, rfl⟩ := List.mem_map.1 hv
              have hro := HBR.out.1 r hr
              have hlt : (cl : Int).toNat < r.length := by have := hro.2; omega
              unfold getV
              rw [List.getD_eq_getElem?_getD, List.getElem?_eq_getElem hlt]
              exact hro.vals _ (List.getElem_mem hlt)) (by obtain ⟨A9, c9, hv9, _, _, h9⟩ := (how.on hX).shape valC_length; injection hv9 with e1 e2 e3; rw [e1]; exact h9.sl) hkd
            rw [hva, HVL.out] at this
            exact this)
          obtain ⟨R, hR0⟩ : ∃ R, pickR cols r0 ++ [((an, av) : Val)] = R := ⟨_, rfl⟩
          have hRF : grF cols cl kind b = R := by unfold grF; rw [hhd, hva, hR0]
          obtain ⟨nL, hnL⟩ : ∃ n, cols.length + 1 = n := ⟨_, rfl⟩
          have hRl : R.length = nL := by rw [← hR0, List.length_append, pickR_length]; exact hnL
          have hRok : RowOk ((cols.length : Int) + 1) R := by rw [← hRF]; exact grF_ok HBR.out.2.2 HBR.out.1 HC.out ⟨by omega, hcl⟩ hl
          have hdr : GS.drop n = b :: GS.drop (n + 1) := by
            have hn := (List.getElem?_eq_some_iff.1 HBR.out.2.1)
            rw [List.drop_eq_getElem_cons hn.1, hn.2]
          have hGR : G = pre.map (·.1.2) ++ R :: (GS.drop (n + 1)).map (grF cols cl kind) := by rw [HQ.out.2.2, hdr, List.map_cons, hRF]
          have hpl : pre.length < G.length := by
            have := congrArg List.length hGR
            rw [List.length_append, List.length_map, List.length_cons] at this
            omega
          have HRX := Lib.hid (And.intro hR0 (And.intro hRl (And.intro hRok (And.intro hGR hpl))))
          have HBQ := Lib.hid hbq
          have HCX := Lib.hid (fun (X : World) (hX : Below wr.heap.size wr X) => show X.cell? ⟨gi, 0, none⟩ = some (.slice s0A L0 s0c) ∧ X.cell? ⟨pk, 0, none⟩ = some (.int .i64 kind) ∧ X.cell? ⟨pc, 0, none⟩ = some (.slice A' cols.length c') from ⟨(hX.cell (p := ⟨gi, 0, none⟩) (by show gi < wr.heap.size; omega)).trans cs, (HCS.out X (bch hbq hX)).2.1, (HCS.out X (bch hbq hX)).2.2⟩)
          have hblI : (0 : Int) < (b.length : Int) := by omega
          have HKO := Lib.hid hk
          have HPL := Lib.hid (pickR_length cols r0)
          clear how hsl hro hhd hL0 hva hR0 hRF hnL hRl hRok hdr hGR hpl hbq cs hte hc81 hc82
          gi_wp2
          refine wpIn_region_any (by kernel_rfl) ?_
          obtain ⟨u0, hu0⟩ : ∃ y, { wr with drawn := wr.drawn + 1 } = y := ⟨_, rfl⟩
          have HUu0 := Lib.hid (show Below wr.heap.size wr u0 from hu0 ▸ (Below.refl _ _).drew)
          rw [hu0]
          clear hu0
          refine wpAnyIn_take (i := 0) (v := ?v1) rfl rfl (by kernel_rfl) (by kernel_rfl) (by kernel_rfl) (fun _ _ _ h => h) ⟨Or.inl ⟨by rfl, ?hy1⟩, fun _ => rfl⟩ ?_
          case hy1 => ((intro w'; go_simp) <;> with_reducible rfl)
          try simp only [Act.put, List.setIfInBounds_toArray, List.set_cons_zero, List.set_cons_succ]
          refine wpAnyIn_take (i := 1) (v := ?v2) rfl rfl (by kernel_rfl) (by kernel_rfl) (by kernel_rfl) (fun _ _ _ h => h) ⟨Or.inl ⟨by rfl, ?hy2⟩, fun _ => rfl⟩ ?_
          case hy2 => ((intro w'; go_simp) <;> with_reducible rfl)
          try simp only [Act.put, List.setIfInBounds_toArray, List.set_cons_zero, List.set_cons_succ]
          refine wpAnyIn_take (i := 2) (v := ?v3) rfl rfl (by kernel_rfl) (by kernel_rfl) (by kernel_rfl) (fun _ _ _ h => h) ⟨Or.inl ⟨by rfl, ?hy3⟩, fun _ => rfl⟩ ?_
          case hy3 => ((intro w'; go_simp) <;> with_reducible rfl)
          try simp only [Act.put, List.setIfInBounds_toArray, List.set_cons_zero, List.set_cons_succ]
          refine wpAnyIn_take (i := 6) (v := ?v4) rfl rfl (by kernel_rfl) (by kernel_rfl) (by kernel_rfl) (fun _ _ _ h => h) ⟨Or.inl ⟨by rfl, ?hy4⟩, fun _ => rfl⟩ ?_
          case hy4 => ((intro w'; go_simp) <;> with_reducible rfl)
          try simp only [Act.put, List.setIfInBounds_toArray, List.set_cons_zero, List.set_cons_succ]
          refine wpAnyIn_ready (rs := [3, 4, 7]) (by kernel_rfl) (by simp) ?_
          refine AllReadyIn.cons rfl (fun K hK => ?_) (AllReadyIn.cons rfl (fun K hK => ?_) (AllReadyIn.cons rfl (fun K hK => ?_) AllReadyIn.nil))
          · skip
            obtain ⟨e0, e1, e2⟩ := HCX.out _ HUu0.out
            go_simp
            clear e0 e1 e2
            refine hK _ _ ?_
            clear hK K
            try simp only [Act.put, List.setIfInBounds_toArray, List.set_cons_zero, List.set_cons_succ]
            refine wpAnyIn_ready (rs := [4, 7]) (by kernel_rfl) (by simp) ?_
            refine AllReadyIn.cons rfl (fun K hK => ?_) (AllReadyIn.cons rfl (fun K hK => ?_) AllReadyIn.nil)
            · skip
              obtain ⟨e0, e1, e2⟩ := HCX.out _ HUu0.out
              go_simp
              clear e0 e1 e2
              refine hK _ _ ?_
              clear hK K
              try simp only [Act.put, List.setIfInBounds_toArray, List.set_cons_zero, List.set_cons_succ]
              refine wpAnyIn_ready (rs := [5, 7]) (by kernel_rfl) (by simp) ?_
              refine AllReadyIn.cons rfl (fun K hK => ?_) (AllReadyIn.cons rfl (fun K hK => ?_) AllReadyIn.nil)
              · skip
                go_simp
                refine ⟨trivial, ?_⟩
                gi_at_call 77
                refine (callsIn_wide.2 (HPK.out _ HUu0.out)).mono ?_
                rintro e x1 ⟨v1, rfl, how1, hb1⟩
                obtain ⟨A1, k1, rfl, _, _, _⟩ := how1.shape valC_length
                rw [HPL.out] at how1 ⊢
                have HUx1 := Lib.hid (bch HUu0.out hb1)
                have HO1 := Lib.hid (how1.low HUu0.out.size)
                clear how1 hb1
                refine hK _ _ ?_
                clear hK K
                try simp only [Act.put, List.setIfInBounds_toArray, List.set_cons_zero, List.set_cons_succ]
                refine wpAnyIn_ready (rs := [7]) (by kernel_rfl) (by simp) ?_
                refine AllReadyIn.cons rfl (fun K hK => ?_) AllReadyIn.nil
                obtain ⟨e0, e1, e2⟩ := HCX.out _ HUx1.out
                go_simp
                clear e0 e1 e2
                refine hK _ _ ?_
                clear hK K
                try simp only [Act.put, List.setIfInBounds_toArray, List.set_cons_zero, List.set_cons_succ]
                refine wpAnyIn_ready (rs := [8]) (by kernel_rfl) (by simp) ?_
                refine AllReadyIn.cons rfl (fun K hK => ?_) AllReadyIn.nil
                go_simp
                refine ⟨trivial, ?_⟩
                gi_at_call 78
                refine (callsIn_wide.2 (HAG.out _ HUx1.out)).mono ?_
                rintro e x2 ⟨rfl, hb2⟩
                have HUx2 := Lib.hid (bch HUx1.out hb2)
                have HO2 := Lib.hid (HO1.out.on hb2)
                clear hb2
                refine hK _ _ ?_
                clear hK K
                try simp only [Act.put, List.setIfInBounds_toArray, List.set_cons_zero, List.set_cons_succ]
                refine wpAnyIn_ready (rs := [9]) (by kernel_rfl) (by simp) ?_
                refine AllReadyIn.cons rfl (fun K hK => ?_) AllReadyIn.nil
                obtain ⟨x3, hx3⟩ : ∃ z, x2.alloc (.cells #[.bool an, .int .i64 av] 55) = z := ⟨_, rfl⟩
                have b3 : Below x2.heap.size x2 x3 := by rw [← hx3]; exact balloc (Below.refl _ _) _
                have HS3 := Lib.hid (show Sl 2 valC x3 x3.heap.size (some ⟨x2.heap.size, 0, none⟩) [((an, av) : Val)] by rw [← hx3]; exact Row.sl' (t := 55) valC_length ((Row.new x2 _ _).of rfl))
                have HUx3 := Lib.hid (bch HUx2.out b3)
                have HO3 := Lib.hid (HO2.out.on b3)
                have hlo3 : wr.heap.size ≤ x3.heap.size := HUx3.out.size
                go_simp
                (try rw [hx3])
                have Hx3 := Lib.hid hx3
                clear hx3 b3
                refine hK _ _ ?_
                clear hK K
                try simp only [Act.put, List.setIfInBounds_toArray, List.set_cons_zero, List.set_cons_succ]
                refine wpAnyIn_ready (rs := [10]) (by kernel_rfl) (by simp) ?_
                refine AllReadyIn.cons rfl (fun K hK => ?_) AllReadyIn.nil
                rw [if_pos (by rfl)]
                refine wpIn_app2 (.tmp 38) (.tmp 42) 104 rfl wr.heap.size 55 _ 2 16 valC Tryz.underlying104 zeroValG rfl (by decide) (by decide) valC_length valC_one _ _ rfl HO3.out (some ⟨x2.heap.size, 0, none⟩) 1 1 [((an, av) : Val)] rfl rfl HS3.out (by rw [HPL.out]; simp only [List.length_singleton]; omega) hlo3 ?_
                intro v5 x5 hown5 hgr5 hob5
                rw [HRX.out.1] at hown5
                obtain ⟨A5, c5, rfl, hc51, hc52, hs5⟩ := hown5.shape valC_length
                rw [HRX.out.2.1] at hown5 hc51 ⊢
                have HX5 := Lib.hid (show Below wo.heap.size wo x5 from (bch HBQ.out HUx3.out).grown hgr5 (bch HBQ.out HUx3.out).size fun q hq => by have := (HO3.out.ty q hq).1; have := HBQ.out.size; omega)
                have hsr : SRs ((cols.length : Int) + 1) x5 (⟨A5, nL, c5⟩, R) := ⟨HRX.out.2.2.1, HRX.out.2.1.symm, by rw [HRX.out.2.1]; exact hc51, hc52, hs5.sl⟩
                have hyl := HY.out E pre ⟨(⟨A5, nL, c5⟩, R), HRX.out.2.2.1⟩ x5 (JB.out _ _ _ HQ.out.1 HX5.out (Nat.le_trans hsz HX5.out.size)) hsr HRX.out.2.2.2.2
                change YieldAt _ _ _ l #[.slice A5 nL c5] x5 _ at hyl
                obtain ⟨fn, tmps, assign, body, hy, hRy⟩ := hyl
                clear hown5 hgr5 hob5 hc51 hc52 hs5 hsr
                refine hK _ _ ?_
                clear hK K
                try simp only [Act.put, List.setIfInBounds_toArray, List.set_cons_zero, List.set_cons_succ]
                refine wpAnyIn_ready (rs := [11]) (by kernel_rfl) (by simp) ?_
                refine AllReadyIn.cons rfl (fun K hK => ?_) AllReadyIn.nil
                go_simp
                refine hRy.mono ?_
                clear hy hRy
                rintro e x6 (⟨rfl, hJ6, hk6⟩ | ⟨rfl, hJx6⟩)
                · have H6 := Lib.hid (And.intro hJ6 hk6)
                  clear hJ6 hk6
                  refine hK _ _ ?_
                  clear hK K
                  try simp only [Act.put, List.setIfInBounds_toArray, List.set_cons_zero, List.set_cons_succ]
                  refine wpAnyIn_take (i := 12) (v := ?v5) rfl rfl (by kernel_rfl) (by kernel_rfl) (by kernel_rfl) (fun _ _ _ h => h) ⟨Or.inl ⟨by rfl, ?hy5⟩, fun _ => rfl⟩ ?_
                  case hy5 => ((intro w'; go_simp) <;> with_reducible rfl)
                  try simp only [Act.put, List.setIfInBounds_toArray, List.set_cons_zero, List.set_cons_succ]
                  refine wpAnyIn_done (by kernel_rfl) ?_ _
                  gi_wp2
                  go_roundw
                  case rel => exact ⟨n + 1, _, by omega, by first | go_num | simp, H6.out.1, (HKO.out.below HX5.out).trans H6.out.2, HRX.out.2.2.2.1.trans (by simp)⟩
                  case measure => simp [intOf]; omega
                · have H6 := Lib.hid hJx6
                  clear hJx6
                  refine hK _ _ ?_
                  clear hK K
                  try simp only [Act.put, List.setIfInBounds_toArray, List.set_cons_zero, List.set_cons_succ]
                  refine wpAnyIn_take (i := 12) (v := ?v6) rfl rfl (by kernel_rfl) (by kernel_rfl) (by kernel_rfl) (fun _ _ _ h => h) ⟨Or.inl ⟨by rfl, ?hy6⟩, fun _ => rfl⟩ ?_
                  case hy6 => ((intro w'; go_simp) <;> with_reducible rfl)
                  try simp only [Act.put, List.setIfInBounds_toArray, List.set_cons_zero, List.set_cons_succ]
                  refine wpAnyIn_done (by kernel_rfl) ?_ _
                  gi_wp2
                  refine bodyPost_ret (results_none rfl _ _ _) rfl ⟨⟨_, rfl⟩, .inr ⟨_, E, ?_, H6.out⟩⟩
                  refine ⟨(GS.drop (n + 1)).map (grF cols cl kind), ?_⟩
                  exact Eq.trans (by simp) HRX.out.2.2.2.1.symm
              · skip
                obtain ⟨e0, e1, e2⟩ := HCX.out _ HUu0.out
                go_simp
                clear e0 e1 e2
                refine hK _ _ ?_
                clear hK K
                try simp only [Act.put, List.setIfInBounds_toArray, List.set_cons_zero, List.set_cons_succ]
                refine wpAnyIn_ready (rs := [5]) (by kernel_rfl) (by simp) ?_
                refine AllReadyIn.cons rfl (fun K hK => ?_) AllReadyIn.nil
                go_simp
                refine ⟨trivial, ?_⟩
                gi_at_call 77
                refine (callsIn_wide.2 (HPK.out _ HUu0.out)).mono ?_
                rintro e x1 ⟨v1, rfl, how1, hb1⟩
                obtain ⟨A1, k1, rfl, _, _, _⟩ := how1.shape valC_length
                rw [HPL.out] at how1 ⊢
                have HUx1 := Lib.hid (bch HUu0.out hb1)
                have HO1 := Lib.hid (how1.low HUu0.out.size)
                clear how1 hb1
                refine hK _ _ ?_
                clear hK K
                try simp only [Act.put, List.setIfInBounds_toArray, List.set_cons_zero, List.set_cons_succ]
                refine wpAnyIn_ready (rs := [8]) (by kernel_rfl) (by simp) ?_
                refine AllReadyIn.cons rfl (fun K hK => ?_) AllReadyIn.nil
                go_simp
                refine ⟨trivial, ?_⟩
                gi_at_call 78
                refine (callsIn_wide.2 (HAG.out _ HUx1.out)).mono ?_
                rintro e x2 ⟨rfl, hb2⟩
                have HUx2 := Lib.hid (bch HUx1.out hb2)
                have HO2 := Lib.hid (HO1.out.on hb2)
                clear hb2
                refine hK _ _ ?_
                clear hK K
                try simp only [Act.put, List.setIfInBounds_toArray, List.set_cons_zero, List.set_cons_succ]
                refine wpAnyIn_ready (rs := [9]) (by kernel_rfl) (by simp) ?_
                refine AllReadyIn.cons rfl (fun K hK => ?_) AllReadyIn.nil
                obtain ⟨x3, hx3⟩ : ∃ z, x2.alloc (.cells #[.bool an, .int .i64 av] 55) = z := ⟨_, rfl⟩
                have b3 : Below x2.heap.size x2 x3 := by rw [← hx3]; exact balloc (Below.refl _ _) _
                have HS3 := Lib.hid (show Sl 2 valC x3 x3.heap.size (some ⟨x2.heap.size, 0, none⟩) [((an, av) : Val)] by rw [← hx3]; exact Row.sl' (t := 55) valC_length ((Row.new x2 _ _).of rfl))
                have HUx3 := Lib.hid (bch HUx2.out b3)
                have HO3 := Lib.hid (HO2.out.on b3)
                have hlo3 : wr.heap.size ≤ x3.heap.size := HUx3.out.size
                go_simp
                (try rw [hx3])
                have Hx3 := Lib.hid hx3
                clear hx3 b3
                refine hK _ _ ?_
                clear hK K
                try simp only [Act.put, List.setIfInBounds_toArray, List.set_cons_zero, List.set_cons_succ]
                refine wpAnyIn_ready (rs := [10]) (by kernel_rfl) (by simp) ?_
                refine AllReadyIn.cons rfl (fun K hK => ?_) AllReadyIn.nil
                rw [if_pos (by rfl)]
                refine wpIn_app2 (.tmp 38) (.tmp 42) 104 rfl wr.heap.size 55 _ 2 16 valC Tryz.underlying104 zeroValG rfl (by decide) (by decide) valC_length valC_one _ _ rfl HO3.out (some ⟨x2.heap.size, 0, none⟩) 1 1 [((an, av) : Val)] rfl rfl HS3.out (by rw [HPL.out]; simp only [List.length_singleton]; omega) hlo3 ?_
                intro v5 x5 hown5 hgr5 hob5
                rw [HRX.out.1] at hown5
                obtain ⟨A5, c5, rfl, hc51, hc52, hs5⟩ := hown5.shape valC_length
                rw [HRX.out.2.1] at hown5 hc51 ⊢
                have HX5 := Lib.hid (show Below wo.heap.size wo x5 from (bch HBQ.out HUx3.out).grown hgr5 (bch HBQ.out HUx3.out).size fun q hq => by have := (HO3.out.ty q hq).1; have := HBQ.out.size; omega)
                have hsr : SRs ((cols.length : Int) + 1) x5 (⟨A5, nL, c5⟩, R) := ⟨HRX.out.2.2.1, HRX.out.2.1.symm, by rw [HRX.out.2.1]; exact hc51, hc52, hs5.sl⟩
                have hyl := HY.out E pre ⟨(⟨A5, nL, c5⟩, R), HRX.out.2.2.1⟩ x5 (JB.out _ _ _ HQ.out.1 HX5.out (Nat.le_trans hsz HX5.out.size)) hsr HRX.out.2.2.2.2
                change YieldAt _ _ _ l #[.slice A5 nL c5] x5 _ at hyl
                obtain ⟨fn, tmps, assign, body, hy, hRy⟩ := hyl
                clear hown5 hgr5 hob5 hc51 hc52 hs5 hsr
                refine hK _ _ ?_
                clear hK K
                try simp only [Act.put, List.setIfInBounds_toArray, List.set_cons_zero, List.set_cons_succ]
                refine wpAnyIn_ready (rs := [11]) (by kernel_rfl) (by simp) ?_
                refine AllReadyIn.cons rfl (fun K hK => ?_) AllReadyIn.nil
                go_simp
                refine hRy.mono ?_
                clear hy hRy
                rintro e x6 (⟨rfl, hJ6, hk6⟩ | ⟨rfl, hJx6⟩)
                · have H6 := Lib.hid (And.intro hJ6 hk6)
                  clear hJ6 hk6
                  refine hK _ _ ?_
                  clear hK K
                  try simp only [Act.put, List.setIfInBounds_toArray, List.set_cons_zero, List.set_cons_succ]
                  refine wpAnyIn_take (i := 12) (v := ?v7) rfl rfl (by kernel_rfl) (by kernel_rfl) (by kernel_rfl) (fun _ _ _ h => h) ⟨Or.inl ⟨by rfl, ?hy7⟩, fun _ => rfl⟩ ?_
                  case hy7 => ((intro w'; go_simp) <;> with_reducible rfl)
                  try simp only [Act.put, List.setIfInBounds_toArray, List.set_cons_zero, List.set_cons_succ]
                  refine wpAnyIn_done (by kernel_rfl) ?_ _
                  gi_wp2
                  go_roundw
                  case rel => exact ⟨n + 1, _, by omega, by first | go_num | simp, H6.out.1, (HKO.out.below HX5.out).trans H6.out.2, HRX.out.2.2.2.1.trans (by simp)⟩
                  case measure => simp [intOf]; omega
                · have H6 := Lib.hid hJx6
                  clear hJx6
                  refine hK _ _ ?_
                  clear hK K
                  try simp only [Act.put, List.setIfInBounds_toArray, List.set_cons_zero, List.set_cons_succ]
                  refine wpAnyIn_take (i := 12) (v := ?v8) rfl rfl (by kernel_rfl) (by kernel_rfl) (by kernel_rfl) (fun _ _ _ h => h) ⟨Or.inl ⟨by rfl, ?hy8⟩, fun _ => rfl⟩ ?_
                  case hy8 => ((intro w'; go_simp) <;> with_reducible rfl)
                  try simp only [Act.put, List.setIfInBounds_toArray, List.set_cons_zero, List.set_cons_succ]
                  refine wpAnyIn_done (by kernel_rfl) ?_ _
                  gi_wp2
                  refine bodyPost_ret (results_none rfl _ _ _) rfl ⟨⟨_, rfl⟩, .inr ⟨_, E, ?_, H6.out⟩⟩
                  refine ⟨(GS.drop (n + 1)).map (grF cols cl kind), ?_⟩
                  exact Eq.trans (by simp) HRX.out.2.2.2.1.symm
            · skip
              obtain ⟨e0, e1, e2⟩ := HCX.out _ HUu0.out
              go_simp
              clear e0 e1 e2
              refine hK _ _ ?_
              clear hK K
              try simp only [Act.put, List.setIfInBounds_toArray, List.set_cons_zero, List.set_cons_succ]
              refine wpAnyIn_ready (rs := [4]) (by kernel_rfl) (by simp) ?_
              refine AllReadyIn.cons rfl (fun K hK => ?_) AllReadyIn.nil
              obtain ⟨e0, e1, e2⟩ := HCX.out _ HUu0.out
              go_simp
              clear e0 e1 e2
              refine hK _ _ ?_
              clear hK K
              try simp only [Act.put, List.setIfInBounds_toArray, List.set_cons_zero, List.set_cons_succ]
              refine wpAnyIn_ready (rs := [5]) (by kernel_rfl) (by simp) ?_
              refine AllReadyIn.cons rfl (fun K hK => ?_) AllReadyIn.nil
              go_simp
              refine ⟨trivial, ?_⟩
              gi_at_call 77
              refine (callsIn_wide.2 (HPK.out _ HUu0.out)).mono ?_
              rintro e x1 ⟨v1, rfl, how1, hb1⟩
              obtain ⟨A1, k1, rfl, _, _, _⟩ := how1.shape valC_length
              rw [HPL.out] at how1 ⊢
              have HUx1 := Lib.hid (bch HUu0.out hb1)
              have HO1 := Lib.hid (how1.low HUu0.out.size)
              clear how1 hb1
              refine hK _ _ ?_
              clear hK K
              try simp only [Act.put, List.setIfInBounds_toArray, List.set_cons_zero, List.set_cons_succ]
              refine wpAnyIn_ready (rs := [8]) (by kernel_rfl) (by simp) ?_
              refine AllReadyIn.cons rfl (fun K hK => ?_) AllReadyIn.nil
              go_simp
              refine ⟨trivial, ?_⟩
              gi_at_call 78
              refine (callsIn_wide.2 (HAG.out _ HUx1.out)).mono ?_
              rintro e x2 ⟨rfl, hb2⟩
              have HUx2 := Lib.hid (bch HUx1.out hb2)
              have HO2 := Lib.hid (HO1.out.on hb2)
              clear hb2
              refine hK _ _ ?_
              clear hK K
              try simp only [Act.put, List.setIfInBounds_toArray, List.set_cons_zero, List.set_cons_succ]
              refine wpAnyIn_ready (rs := [9]) (by kernel_rfl) (by simp) ?_
              refine AllReadyIn.cons rfl (fun K hK => ?_) AllReadyIn.nil
              obtain ⟨x3, hx3⟩ : ∃ z, x2.alloc (.cells #[.bool an, .int .i64 av] 55) = z := ⟨_, rfl⟩
              have b3 : Below x2.heap.size x2 x3 := by rw [← hx3]; exact balloc (Below.refl _ _) _
              have HS3 := Lib.hid (show Sl 2 valC x3 x3.heap.size (some ⟨x2.heap.size, 0, none⟩) [((an, av) : Val)] by rw [← hx3]; exact Row.sl' (t := 55) valC_length ((Row.new x2 _ _).of rfl))
              have HUx3 := Lib.hid (bch HUx2.out b3)
              have HO3 := Lib.hid (HO2.out.on b3)
              have hlo3 : wr.heap.size ≤ x3.heap.size := HUx3.out.size
              go_simp
              (try rw [hx3])
              have Hx3 := Lib.hid hx3
              clear hx3 b3
              refine hK _ _ ?_
              clear hK K
              try simp only [Act.put, List.setIfInBounds_toArray, List.set_cons_zero, List.set_cons_succ]
              refine wpAnyIn_ready (rs := [10]) (by kernel_rfl) (by simp) ?_
              refine AllReadyIn.cons rfl (fun K hK => ?_) AllReadyIn.nil
              rw [if_pos (by rfl)]
              refine wpIn_app2 (.tmp 38) (.tmp 42) 104 rfl wr.heap.size 55 _ 2 16 valC Tryz.underlying104 zeroValG rfl (by decide) (by decide) valC_length valC_one _ _ rfl HO3.out (some ⟨x2.heap.size, 0, none⟩) 1 1 [((an, av) : Val)] rfl rfl HS3.out (by rw [HPL.out]; simp only [List.length_singleton]; omega) hlo3 ?_
              intro v5 x5 hown5 hgr5 hob5
              rw [HRX.out.1] at hown5
              obtain ⟨A5, c5, rfl, hc51, hc52, hs5⟩ := hown5.shape valC_length
              rw [HRX.out.2.1] at hown5 hc51 ⊢
              have HX5 := Lib.hid (show Below wo.heap.size wo x5 from (bch HBQ.out HUx3.out).grown hgr5 (bch HBQ.out HUx3.out).size fun q hq => by have := (HO3.out.ty q hq).1; have := HBQ.out.size; omega)
              have hsr : SRs ((cols.length : Int) + 1) x5 (⟨A5, nL, c5⟩, R) := ⟨HRX.out.2.2.1, HRX.out.2.1.symm, by rw [HRX.out.2.1]; exact hc51, hc52, hs5.sl⟩
              have hyl := HY.out E pre ⟨(⟨A5, nL, c5⟩, R), HRX.out.2.2.1⟩ x5 (JB.out _ _ _ HQ.out.1 HX5.out (Nat.le_trans hsz HX5.out.size)) hsr HRX.out.2.2.2.2
              change YieldAt _ _ _ l #[.slice A5 nL c5] x5 _ at hyl
              obtain ⟨fn, tmps, assign, body, hy, hRy⟩ := hyl
              clear hown5 hgr5 hob5 hc51 hc52 hs5 hsr
              refine hK _ _ ?_
              clear hK K
              try simp only [Act.put, List.setIfInBounds_toArray, List.set_cons_zero, List.set_cons_succ]
              refine wpAnyIn_ready (rs := [11]) (by kernel_rfl) (by simp) ?_
              refine AllReadyIn.cons rfl (fun K hK => ?_) AllReadyIn.nil
              go_simp
              refine hRy.mono ?_
              clear hy hRy
              rintro e x6 (⟨rfl, hJ6, hk6⟩ | ⟨rfl, hJx6⟩)
              · have H6 := Lib.hid (And.intro hJ6 hk6)
                clear hJ6 hk6
                refine hK _ _ ?_
                clear hK K
                try simp only [Act.put, List.setIfInBounds_toArray, List.set_cons_zero, List.set_cons_succ]
                refine wpAnyIn_take (i := 12) (v := ?v9) rfl rfl (by kernel_rfl) (by kernel_rfl) (by kernel_rfl) (fun _ _ _ h => h) ⟨Or.inl ⟨by rfl, ?hy9⟩, fun _ => rfl⟩ ?_
                case hy9 => ((intro w'; go_simp) <;> with_reducible rfl)
                try simp only [Act.put, List.setIfInBounds_toArray, List.set_cons_zero, List.set_cons_succ]
                refine wpAnyIn_done (by kernel_rfl) ?_ _
                gi_wp2
                go_roundw
                case rel => exact ⟨n + 1, _, by omega, by first | go_num | simp, H6.out.1, (HKO.out.below HX5.out).trans H6.out.2, HRX.out.2.2.2.1.trans (by simp)⟩
                case measure => simp [intOf]; omega
              · have H6 := Lib.hid hJx6
                clear hJx6
                refine hK _ _ ?_
                clear hK K
                try simp only [Act.put, List.setIfInBounds_toArray, List.set_cons_zero, List.set_cons_succ]
                refine wpAnyIn_take (i := 12) (v := ?v10) rfl rfl (by kernel_rfl) (by kernel_rfl) (by kernel_rfl) (fun _ _ _ h => h) ⟨Or.inl ⟨by rfl, ?hy10⟩, fun _ => rfl⟩ ?_
                case hy10 => ((intro w'; go_simp) <;> with_reducible rfl)
                try simp only [Act.put, List.setIfInBounds_toArray, List.set_cons_zero, List.set_cons_succ]
                refine wpAnyIn_done (by kernel_rfl) ?_ _
                gi_wp2
                refine bodyPost_ret (results_none rfl _ _ _) rfl ⟨⟨_, rfl⟩, .inr ⟨_, E, ?_, H6.out⟩⟩
                refine ⟨(GS.drop (n + 1)).map (grF cols cl kind), ?_⟩
                exact Eq.trans (by simp) HRX.out.2.2.2.1.symm
          · skip
            obtain ⟨e0, e1, e2⟩ := HCX.out _ HUu0.out
            go_simp
            clear e0 e1 e2
            refine hK _ _ ?_
            clear hK K
            try simp only [Act.put, List.setIfInBounds_toArray, List.set_cons_zero, List.set_cons_succ]
            refine wpAnyIn_ready (rs := [3, 7]) (by kernel_rfl) (by simp) ?_
            refine AllReadyIn.cons rfl (fun K hK => ?_) (AllReadyIn.cons rfl (fun K hK => ?_) AllReadyIn.nil)
            · skip
              obtain ⟨e0, e1, e2⟩ := HCX.out _ HUu0.out
              go_simp
              clear e0 e1 e2
              refine hK _ _ ?_
              clear hK K
              try simp only [Act.put, List.setIfInBounds_toArray, List.set_cons_zero, List.set_cons_succ]
              refine wpAnyIn_ready (rs := [5, 7]) (by kernel_rfl) (by simp) ?_
              refine AllReadyIn.cons rfl (fun K hK => ?_) (AllReadyIn.cons rfl (fun K hK => ?_) AllReadyIn.nil)
              · skip
                go_simp
                refine ⟨trivial, ?_⟩
                gi_at_call 77
                refine (callsIn_wide.2 (HPK.out _ HUu0.out)).mono ?_
                rintro e x1 ⟨v1, rfl, how1, hb1⟩
                obtain ⟨A1, k1, rfl, _, _, _⟩ := how1.shape valC_length
                rw [HPL.out] at how1 ⊢
                have HUx1 := Lib.hid (bch HUu0.out hb1)
                have HO1 := Lib.hid (how1.low HUu0.out.size)
                clear how1 hb1
                refine hK _ _ ?_
                clear hK K
                try simp only [Act.put, List.setIfInBounds_toArray, List.set_cons_zero, List.set_cons_succ]
                refine wpAnyIn_ready (rs := [7]) (by kernel_rfl) (by simp) ?_
                refine AllReadyIn.cons rfl (fun K hK => ?_) AllReadyIn.nil
                obtain ⟨e0, e1, e2⟩ := HCX.out _ HUx1.out
                go_simp
                clear e0 e1 e2
                refine hK _ _ ?_
                clear hK K
                try simp only [Act.put, List.setIfInBounds_toArray, List.set_cons_zero, List.set_cons_succ]
                refine wpAnyIn_ready (rs := [8]) (by kernel_rfl) (by simp) ?_
                refine AllReadyIn.cons rfl (fun K hK => ?_) AllReadyIn.nil
                go_simp
                refine ⟨trivial, ?_⟩
                gi_at_call 78
                refine (callsIn_wide.2 (HAG.out _ HUx1.out)).mono ?_
                rintro e x2 ⟨rfl, hb2⟩
                have HUx2 := Lib.hid (bch HUx1.out hb2)
                have HO2 := Lib.hid (HO1.out.on hb2)
                clear hb2
                refine hK _ _ ?_
                clear hK K
                try simp only [Act.put, List.setIfInBounds_toArray, List.set_cons_zero, List.set_cons_succ]
                refine wpAnyIn_ready (rs := [9]) (by kernel_rfl) (by simp) ?_
                refine AllReadyIn.cons rfl (fun K hK => ?_) AllReadyIn.nil
                obtain ⟨x3, hx3⟩ : ∃ z, x2.alloc (.cells #[.bool an, .int .i64 av] 55) = z := ⟨_, rfl⟩
                have b3 : Below x2.heap.size x2 x3 := by rw [← hx3]; exact balloc (Below.refl _ _) _
                have HS3 := Lib.hid (show Sl 2 valC x3 x3.heap.size (some ⟨x2.heap.size, 0, none⟩) [((an, av) : Val)] by rw [← hx3]; exact Row.sl' (t := 55) valC_length ((Row.new x2 _ _).of rfl))
                have HUx3 := Lib.hid (bch HUx2.out b3)
                have HO3 := Lib.hid (HO2.out.on b3)
                have hlo3 : wr.heap.size ≤ x3.heap.size := HUx3.out.size
                go_simp
                (try rw [hx3])
                have Hx3 := Lib.hid hx3
                clear hx3 b3
                refine hK _ _ ?_
                clear hK K
                try simp only [Act.put, List.setIfInBounds_toArray, List.set_cons_zero, List.set_cons_succ]
                refine wpAnyIn_ready (rs := [10]) (by kernel_rfl) (by simp) ?_
                refine AllReadyIn.cons rfl (fun K hK => ?_) AllReadyIn.nil
                rw [if_pos (by rfl)]
                refine wpIn_app2 (.tmp 38) (.tmp 42) 104 rfl wr.heap.size 55 _ 2 16 valC Tryz.underlying104 zeroValG rfl (by decide) (by decide) valC_length valC_one _ _ rfl HO3.out (some ⟨x2.heap.size, 0, none⟩) 1 1 [((an, av) : Val)] rfl rfl HS3.out (by rw [HPL.out]; simp only [List.length_singleton]; omega) hlo3 ?_
                intro v5 x5 hown5 hgr5 hob5
                rw [HRX.out.1] at hown5
                obtain ⟨A5, c5, rfl, hc51, hc52, hs5⟩ := hown5.shape valC_length
                rw [HRX.out.2.1] at hown5 hc51 ⊢
                have HX5 := Lib.hid (show Below wo.heap.size wo x5 from (bch HBQ.out HUx3.out).grown hgr5 (bch HBQ.out HUx3.out).size fun q hq => by have := (HO3.out.ty q hq).1; have := HBQ.out.size; omega)
                have hsr : SRs ((cols.length : Int) + 1) x5 (⟨A5, nL, c5⟩, R) := ⟨HRX.out.2.2.1, HRX.out.2.1.symm, by rw [HRX.out.2.1]; exact hc51, hc52, hs5.sl⟩
                have hyl := HY.out E pre ⟨(⟨A5, nL, c5⟩, R), HRX.out.2.2.1⟩ x5 (JB.out _ _ _ HQ.out.1 HX5.out (Nat.le_trans hsz HX5.out.size)) hsr HRX.out.2.2.2.2
                change YieldAt _ _ _ l #[.slice A5 nL c5] x5 _ at hyl
                obtain ⟨fn, tmps, assign, body, hy, hRy⟩ := hyl
                clear hown5 hgr5 hob5 hc51 hc52 hs5 hsr
                refine hK _ _ ?_
                clear hK K
                try simp only [Act.put, List.setIfInBounds_toArray, List.set_cons_zero, List.set_cons_succ]
                refine wpAnyIn_ready (rs := [11]) (by kernel_rfl) (by simp) ?_
                refine AllReadyIn.cons rfl (fun K hK => ?_) AllReadyIn.nil
                go_simp
                refine hRy.mono ?_
                clear hy hRy
                rintro e x6 (⟨rfl, hJ6, hk6⟩ | ⟨rfl, hJx6⟩)
                · have H6 := Lib.hid (And.intro hJ6 hk6)
                  clear hJ6 hk6
                  refine hK _ _ ?_
                  clear hK K
                  try simp only [Act.put, List.setIfInBounds_toArray, List.set_cons_zero, List.set_cons_succ]
                  refine wpAnyIn_take (i := 12) (v := ?v11) rfl rfl (by kernel_rfl) (by kernel_rfl) (by kernel_rfl) (fun _ _ _ h => h) ⟨Or.inl ⟨by rfl, ?hy11⟩, fun _ => rfl⟩ ?_
                  case hy11 => ((intro w'; go_simp) <;> with_reducible rfl)
                  try simp only [Act.put, List.setIfInBounds_toArray, List.set_cons_zero, List.set_cons_succ]
                  refine wpAnyIn_done (by kernel_rfl) ?_ _
                  gi_wp2
                  go_roundw
                  case rel => exact ⟨n + 1, _, by omega, by first | go_num | simp, H6.out.1, (HKO.out.below HX5.out).trans H6.out.2, HRX.out.2.2.2.1.trans (by simp)⟩
                  case measure => simp [intOf]; omega
                · have H6 := Lib.hid hJx6
                  clear hJx6
                  refine hK _ _ ?_
                  clear hK K
                  try simp only [Act.put, List.setIfInBounds_toArray, List.set_cons_zero, List.set_cons_succ]
                  refine wpAnyIn_take (i := 12) (v := ?v12) rfl rfl (by kernel_rfl) (by kernel_rfl) (by kernel_rfl) (fun _ _ _ h => h) ⟨Or.inl ⟨by rfl, ?hy12⟩, fun _ => rfl⟩ ?_
                  case hy12 => ((intro w'; go_simp) <;> with_reducible rfl)
                  try simp only [Act.put, List.setIfInBounds_toArray, List.set_cons_zero, List.set_cons_succ]
                  refine wpAnyIn_done (by kernel_rfl) ?_ _
                  gi_wp2
                  refine bodyPost_ret (results_none rfl _ _ _) rfl ⟨⟨_, rfl⟩, .inr ⟨_, E, ?_, H6.out⟩⟩
                  refine ⟨(GS.drop (n + 1)).map (grF cols cl kind), ?_⟩
                  exact Eq.trans (by simp) HRX.out.2.2.2.1.symm
              · skip
                obtain ⟨e0, e1, e2⟩ := HCX.out _ HUu0.out
                go_simp
                clear e0 e1 e2
                refine hK _ _ ?_
                clear hK K
                try simp only [Act.put, List.setIfInBounds_toArray, List.set_cons_zero, List.set_cons_succ]
                refine wpAnyIn_ready (rs := [5]) (by kernel_rfl) (by simp) ?_
                refine AllReadyIn.cons rfl (fun K hK => ?_) AllReadyIn.nil
                go_simp
                refine ⟨trivial, ?_⟩
                gi_at_call 77
                refine (callsIn_wide.2 (HPK.out _ HUu0.out)).mono ?_
                rintro e x1 ⟨v1, rfl, how1, hb1⟩
                obtain ⟨A1, k1, rfl, _, _, _⟩ := how1.shape valC_length
                rw [HPL.out] at how1 ⊢
                have HUx1 := Lib.hid (bch HUu0.out hb1)
                have HO1 := Lib.hid (how1.low HUu0.out.size)
                clear how1 hb1
                refine hK _ _ ?_
                clear hK K
                try simp only [Act.put, List.setIfInBounds_toArray, List.set_cons_zero, List.set_cons_succ]
                refine wpAnyIn_ready (rs := [8]) (by kernel_rfl) (by simp) ?_
                refine AllReadyIn.cons rfl (fun K hK => ?_) AllReadyIn.nil
                go_simp
                refine ⟨trivial, ?_⟩
                gi_at_call 78
                refine (callsIn_wide.2 (HAG.out _ HUx1.out)).mono ?_
                rintro e x2 ⟨rfl, hb2⟩
                have HUx2 := Lib.hid (bch HUx1.out hb2)
                have HO2 := Lib.hid (HO1.out.on hb2)
                clear hb2
                refine hK _ _ ?_
                clear hK K
                try simp only [Act.put, List.setIfInBounds_toArray, List.set_cons_zero, List.set_cons_succ]
                refine wpAnyIn_ready (rs := [9]) (by kernel_rfl) (by simp) ?_
                refine AllReadyIn.cons rfl (fun K hK => ?_) AllReadyIn.nil
                obtain ⟨x3, hx3⟩ : ∃ z, x2.alloc (.cells #[.bool an, .int .i64 av] 55) = z := ⟨_, rfl⟩
                have b3 : Below x2.heap.size x2 x3 := by rw [← hx3]; exact balloc (Below.refl _ _) _
                have HS3 := Lib.hid (show Sl 2 valC x3 x3.heap.size (some ⟨x2.heap.size, 0, none⟩) [((an, av) : Val)] by rw [← hx3]; exact Row.sl' (t := 55) valC_length ((Row.new x2 _ _).of rfl))
                have HUx3 := Lib.hid (bch HUx2.out b3)
                have HO3 := Lib.hid (HO2.out.on b3)
                have hlo3 : wr.heap.size ≤ x3.heap.size := HUx3.out.size
                go_simp
                (try rw [hx3])
                have Hx3 := Lib.hid hx3
                clear hx3 b3
                refine hK _ _ ?_
                clear hK K
                try simp only [Act.put, List.setIfInBounds_toArray, List.set_cons_zero, List.set_cons_succ]
                refine wpAnyIn_ready (rs := [10]) (by kernel_rfl) (by simp) ?_
                refine AllReadyIn.cons rfl (fun K hK => ?_) AllReadyIn.nil
                rw [if_pos (by rfl)]
                refine wpIn_app2 (.tmp 38) (.tmp 42) 104 rfl wr.heap.size 55 _ 2 16 valC Tryz.underlying104 zeroValG rfl (by decide) (by decide) valC_length valC_one _ _ rfl HO3.out (some ⟨x2.heap.size, 0, none⟩) 1 1 [((an, av) : Val)] rfl rfl HS3.out (by rw [HPL.out]; simp only [List.length_singleton]; omega) hlo3 ?_
                intro v5 x5 hown5 hgr5 hob5
                rw [HRX.out.1] at hown5
                obtain ⟨A5, c5, rfl, hc51, hc52, hs5⟩ := hown5.shape valC_length
                rw [HRX.out.2.1] at hown5 hc51 ⊢
                have HX5 := Lib.hid (show Below wo.heap.size wo x5 from (bch HBQ.out HUx3.out).grown hgr5 (bch HBQ.out HUx3.out).size fun q hq => by have := (HO3.out.ty q hq).1; have := HBQ.out.size; omega)
                have hsr : SRs ((cols.length : Int) + 1) x5 (⟨A5, nL, c5⟩, R) := ⟨HRX.out.2.2.1, HRX.out.2.1.symm, by rw [HRX.out.2.1]; exact hc51, hc52, hs5.sl⟩
                have hyl := HY.out E pre ⟨(⟨A5, nL, c5⟩, R), HRX.out.2.2.1⟩ x5 (JB.out _ _ _ HQ.out.1 HX5.out (Nat.le_trans hsz HX5.out.size)) hsr HRX.out.2.2.2.2
                change YieldAt _ _ _ l #[.slice A5 nL c5] x5 _ at hyl
                obtain ⟨fn, tmps, assign, body, hy, hRy⟩ := hyl
                clear hown5 hgr5 hob5 hc51 hc52 hs5 hsr
                refine hK _ _ ?_
                clear hK K
                try simp only [Act.put, List.setIfInBounds_toArray, List.set_cons_zero, List.set_cons_succ]
                refine wpAnyIn_ready (rs := [11]) (by kernel_rfl) (by simp) ?_
                refine AllReadyIn.cons rfl (fun K hK => ?_) AllReadyIn.nil
                go_simp
                refine hRy.mono ?_
                clear hy hRy
                rintro e x6 (⟨rfl, hJ6, hk6⟩ | ⟨rfl, hJx6⟩)
                · have H6 := Lib.hid (And.intro hJ6 hk6)
                  clear hJ6 hk6
                  refine hK _ _ ?_
                  clear hK K
                  try simp only [Act.put, List.setIfInBounds_toArray, List.set_cons_zero, List.set_cons_succ]
                  refine wpAnyIn_take (i := 12) (v := ?v13) rfl rfl (by kernel_rfl) (by kernel_rfl) (by kernel_rfl) (fun _ _ _ h => h) ⟨Or.inl ⟨by rfl, ?hy13⟩, fun _ => rfl⟩ ?_
                  case hy13 => ((intro w'; go_simp) <;> with_reducible rfl)
                  try simp only [Act.put, List.setIfInBounds_toArray, List.set_cons_zero, List.set_cons_succ]
                  refine wpAnyIn_done (by kernel_rfl) ?_ _
                  gi_wp2
                  go_roundw
                  case rel => exact ⟨n + 1, _, by omega, by first | go_num | simp, H6.out.1, (HKO.out.below HX5.out).trans H6.out.2, HRX.out.2.2.2.1.trans (by simp)⟩
                  case measure => simp [intOf]; omega
                · have H6 := Lib.hid hJx6
                  clear hJx6
                  refine hK _ _ ?_
                  clear hK K
                  try simp only [Act.put, List.setIfInBounds_toArray, List.set_cons_zero, List.set_cons_succ]
                  refine wpAnyIn_take (i := 12) (v := ?v14) rfl rfl (by kernel_rfl) (by kernel_rfl) (by kernel_rfl) (fun _ _ _ h => h) ⟨Or.inl ⟨by rfl, ?hy14⟩, fun _ => rfl⟩ ?_
                  case hy14 => ((intro w'; go_simp) <;> with_reducible rfl)
                  try simp only [Act.put, List.setIfInBounds_toArray, List.set_cons_zero, List.set_cons_succ]
                  refine wpAnyIn_done (by kernel_rfl) ?_ _
                  gi_wp2
                  refine bodyPost_ret (results_none rfl _ _ _) rfl ⟨⟨_, rfl⟩, .inr ⟨_, E, ?_, H6.out⟩⟩
                  refine ⟨(GS.drop (n + 1)).map (grF cols cl kind), ?_⟩
                  exact Eq.trans (by simp) HRX.out.2.2.2.1.symm
            · skip
              obtain ⟨e0, e1, e2⟩ := HCX.out _ HUu0.out
              go_simp
              clear e0 e1 e2
              refine hK _ _ ?_
              clear hK K
              try simp only [Act.put, List.setIfInBounds_toArray, List.set_cons_zero, List.set_cons_succ]
              refine wpAnyIn_ready (rs := [3]) (by kernel_rfl) (by simp) ?_
              refine AllReadyIn.cons rfl (fun K hK => ?_) AllReadyIn.nil
              obtain ⟨e0, e1, e2⟩ := HCX.out _ HUu0.out
              go_simp
              clear e0 e1 e2
              refine hK _ _ ?_
              clear hK K
              try simp only [Act.put, List.setIfInBounds_toArray, List.set_cons_zero, List.set_cons_succ]
              refine wpAnyIn_ready (rs := [5]) (by kernel_rfl) (by simp) ?_
              refine AllReadyIn.cons rfl (fun K hK => ?_) AllReadyIn.nil
              go_simp
              refine ⟨trivial, ?_⟩
              gi_at_call 77
              refine (callsIn_wide.2 (HPK.out _ HUu0.out)).mono ?_
              rintro e x1 ⟨v1, rfl, how1, hb1⟩
              obtain ⟨A1, k1, rfl, _, _, _⟩ := how1.shape valC_length
              rw [HPL.out] at how1 ⊢
              have HUx1 := Lib.hid (bch HUu0.out hb1)
              have HO1 := Lib.hid (how1.low HUu0.out.size)
              clear how1 hb1
              refine hK _ _ ?_
              clear hK K
              try simp only [Act.put, List.setIfInBounds_toArray, List.set_cons_zero, List.set_cons_succ]
              refine wpAnyIn_ready (rs := [8]) (by kernel_rfl) (by simp) ?_
              refine AllReadyIn.cons rfl (fun K hK => ?_) AllReadyIn.nil
              go_simp
              refine ⟨trivial, ?_⟩
              gi_at_call 78
              refine (callsIn_wide.2 (HAG.out _ HUx1.out)).mono ?_
              rintro e x2 ⟨rfl, hb2⟩
              have HUx2 := Lib.hid (bch HUx1.out hb2)
              have HO2 := Lib.hid (HO1.out.on hb2)
              clear hb2
              refine hK _ _ ?_
              clear hK K
              try simp only [Act.put, List.setIfInBounds_toArray, List.set_cons_zero, List.set_cons_succ]
              refine wpAnyIn_ready (rs := [9]) (by kernel_rfl) (by simp) ?_
              refine AllReadyIn.cons rfl (fun K hK => ?_) AllReadyIn.nil
              obtain ⟨x3, hx3⟩ : ∃ z, x2.alloc (.cells #[.bool an, .int .i64 av] 55) = z := ⟨_, rfl⟩
              have b3 : Below x2.heap.size x2 x3 := by rw [← hx3]; exact balloc (Below.refl _ _) _
              have HS3 := Lib.hid (show Sl 2 valC x3 x3.heap.size (some ⟨x2.heap.size, 0, none⟩) [((an, av) : Val)] by rw [← hx3]; exact Row.sl' (t := 55) valC_length ((Row.new x2 _ _).of rfl))
              have HUx3 := Lib.hid (bch HUx2.out b3)
              have HO3 := Lib.hid (HO2.out.on b3)
              have hlo3 : wr.heap.size ≤ x3.heap.size := HUx3.out.size
              go_simp
              (try rw [hx3])
              have Hx3 := Lib.hid hx3
              clear hx3 b3
              refine hK _ _ ?_
              clear hK K
              try simp only [Act.put, List.setIfInBounds_toArray, List.set_cons_zero, List.set_cons_succ]
              refine wpAnyIn_ready (rs := [10]) (by kernel_rfl) (by simp) ?_
              refine AllReadyIn.cons rfl (fun K hK => ?_) AllReadyIn.nil
              rw [if_pos (by rfl)]
              refine wpIn_app2 (.tmp 38) (.tmp 42) 104 rfl wr.heap.size 55 _ 2 16 valC Tryz.underlying104 zeroValG rfl (by decide) (by decide) valC_length valC_one _ _ rfl HO3.out (some ⟨x2.heap.size, 0, none⟩) 1 1 [((an, av) : Val)] rfl rfl HS3.out (by rw [HPL.out]; simp only [List.length_singleton]; omega) hlo3 ?_
              intro v5 x5 hown5 hgr5 hob5
              rw [HRX.out.1] at hown5
              obtain ⟨A5, c5, rfl, hc51, hc52, hs5⟩ := hown5.shape valC_length
              rw [HRX.out.2.1] at hown5 hc51 ⊢
              have HX5 := Lib.hid (show Below wo.heap.size wo x5 from (bch HBQ.out HUx3.out).grown hgr5 (bch HBQ.out HUx3.out).size fun q hq => by have := (HO3.out.ty q hq).1; have := HBQ.out.size; omega)
              have hsr : SRs ((cols.length : Int) + 1) x5 (⟨A5, nL, c5⟩, R) := ⟨HRX.out.2.2.1, HRX.out.2.1.symm, by rw [HRX.out.2.1]; exact hc51, hc52, hs5.sl⟩
              have hyl := HY.out E pre ⟨(⟨A5, nL, c5⟩, R), HRX.out.2.2.1⟩ x5 (JB.out _ _ _ HQ.out.1 HX5.out (Nat.le_trans hsz HX5.out.size)) hsr HRX.out.2.2.2.2
              change YieldAt _ _ _ l #[.slice A5 nL c5] x5 _ at hyl
              obtain ⟨fn, tmps, assign, body, hy, hRy⟩ := hyl
              clear hown5 hgr5 hob5 hc51 hc52 hs5 hsr
              refine hK _ _ ?_
              clear hK K
              try simp only [Act.put, List.setIfInBounds_toArray, List.set_cons_zero, List.set_cons_succ]
              refine wpAnyIn_ready (rs := [11]) (by kernel_rfl) (by simp) ?_
              refine AllReadyIn.cons rfl (fun K hK => ?_) AllReadyIn.nil
              go_simp
              refine hRy.mono ?_
              clear hy hRy
              rintro e x6 (⟨rfl, hJ6, hk6⟩ | ⟨rfl, hJx6⟩)
              · have H6 := Lib.hid (And.intro hJ6 hk6)
                clear hJ6 hk6
                refine hK _ _ ?_
                clear hK K
                try simp only [Act.put, List.setIfInBounds_toArray, List.set_cons_zero, List.set_cons_succ]
                refine wpAnyIn_take (i := 12) (v := ?v15) rfl rfl (by kernel_rfl) (by kernel_rfl) (by kernel_rfl) (fun _ _ _ h => h) ⟨Or.inl ⟨by rfl, ?hy15⟩, fun _ => rfl⟩ ?_
                case hy15 => ((intro w'; go_simp) <;> with_reducible rfl)
                try simp only [Act.put, List.setIfInBounds_toArray, List.set_cons_zero, List.set_cons_succ]
                refine wpAnyIn_done (by kernel_rfl) ?_ _
                gi_wp2
                go_roundw
                case rel => exact ⟨n + 1, _, by omega, by first | go_num | simp, H6.out.1, (HKO.out.below HX5.out).trans H6.out.2, HRX.out.2.2.2.1.trans (by simp)⟩
                case measure => simp [intOf]; omega
              · have H6 := Lib.hid hJx6
                clear hJx6
                refine hK _ _ ?_
                clear hK K
                try simp only [Act.put, List.setIfInBounds_toArray, List.set_cons_zero, List.set_cons_succ]
                refine wpAnyIn_take (i := 12) (v := ?v16) rfl rfl (by kernel_rfl) (by kernel_rfl) (by kernel_rfl) (fun _ _ _ h => h) ⟨Or.inl ⟨by rfl, ?hy16⟩, fun _ => rfl⟩ ?_
                case hy16 => ((intro w'; go_simp) <;> with_reducible rfl)
                try simp only [Act.put, List.setIfInBounds_toArray, List.set_cons_zero, List.set_cons_succ]
                refine wpAnyIn_done (by kernel_rfl) ?_ _
                gi_wp2
                refine bodyPost_ret (results_none rfl _ _ _) rfl ⟨⟨_, rfl⟩, .inr ⟨_, E, ?_, H6.out⟩⟩
                refine ⟨(GS.drop (n + 1)).map (grF cols cl kind), ?_⟩
                exact Eq.trans (by simp) HRX.out.2.2.2.1.symm
          · skip
            obtain ⟨e0, e1, e2⟩ := HCX.out _ HUu0.out
            go_simp
            clear e0 e1 e2
            refine hK _ _ ?_
            clear hK K
            try simp only [Act.put, List.setIfInBounds_toArray, List.set_cons_zero, List.set_cons_succ]
            refine wpAnyIn_ready (rs := [3, 4]) (by kernel_rfl) (by simp) ?_
            refine AllReadyIn.cons rfl (fun K hK => ?_) (AllReadyIn.cons rfl (fun K hK => ?_) AllReadyIn.nil)
            · skip
              obtain ⟨e0, e1, e2⟩ := HCX.out _ HUu0.out
              go_simp
              clear e0 e1 e2
              refine hK _ _ ?_
              clear hK K
              try simp only [Act.put, List.setIfInBounds_toArray, List.set_cons_zero, List.set_cons_succ]
              refine wpAnyIn_ready (rs := [4]) (by kernel_rfl) (by simp) ?_
              refine AllReadyIn.cons rfl (fun K hK => ?_) AllReadyIn.nil
              obtain ⟨e0, e1, e2⟩ := HCX.out _ HUu0.out
              go_simp
              clear e0 e1 e2
              refine hK _ _ ?_
              clear hK K
              try simp only [Act.put, List.setIfInBounds_toArray, List.set_cons_zero, List.set_cons_succ]
              refine wpAnyIn_ready (rs := [5]) (by kernel_rfl) (by simp) ?_
              refine AllReadyIn.cons rfl (fun K hK => ?_) AllReadyIn.nil
              go_simp
              refine ⟨trivial, ?_⟩
              gi_at_call 77
              refine (callsIn_wide.2 (HPK.out _ HUu0.out)).mono ?_
              rintro e x1 ⟨v1, rfl, how1, hb1⟩
              obtain ⟨A1, k1, rfl, _, _, _⟩ := how1.shape valC_length
              rw [HPL.out] at how1 ⊢
              have HUx1 := Lib.hid (bch HUu0.out hb1)
              have HO1 := Lib.hid (how1.low HUu0.out.size)
              clear how1 hb1
              refine hK _ _ ?_
              clear hK K
              try simp only [Act.put, List.setIfInBounds_toArray, List.set_cons_zero, List.set_cons_succ]
              refine wpAnyIn_ready (rs := [8]) (by kernel_rfl) (by simp) ?_
              refine AllReadyIn.cons rfl (fun K hK => ?_) AllReadyIn.nil
              go_simp
              refine ⟨trivial, ?_⟩
              gi_at_call 78
              refine (callsIn_wide.2 (HAG.out _ HUx1.out)).mono ?_
              rintro e x2 ⟨rfl, hb2⟩
              have HUx2 := Lib.hid (bch HUx1.out hb2)
              have HO2 := Lib.hid (HO1.out.on hb2)
              clear hb2
              refine hK _ _ ?_
              clear hK K
              try simp only [Act.put, List.setIfInBounds_toArray, List.set_cons_zero, List.set_cons_succ]
              refine wpAnyIn_ready (rs := [9]) (by kernel_rfl) (by simp) ?_
              refine AllReadyIn.cons rfl (fun K hK => ?_) AllReadyIn.nil
              obtain ⟨x3, hx3⟩ : ∃ z, x2.alloc (.cells #[.bool an, .int .i64 av] 55) = z := ⟨_, rfl⟩
              have b3 : Below x2.heap.size x2 x3 := by rw [← hx3]; exact balloc (Below.refl _ _) _
              have HS3 := Lib.hid (show Sl 2 valC x3 x3.heap.size (some ⟨x2.heap.size, 0, none⟩) [((an, av) : Val)] by rw [← hx3]; exact Row.sl' (t := 55) valC_length ((Row.new x2 _ _).of rfl))
              have HUx3 := Lib.hid (bch HUx2.out b3)
              have HO3 := Lib.hid (HO2.out.on b3)
              have hlo3 : wr.heap.size ≤ x3.heap.size := HUx3.out.size
              go_simp
              (try rw [hx3])
              have Hx3 := Lib.hid hx3
              clear hx3 b3
              refine hK _ _ ?_
              clear hK K
              try simp only [Act.put, List.setIfInBounds_toArray, List.set_cons_zero, List.set_cons_succ]
              refine wpAnyIn_ready (rs := [10]) (by kernel_rfl) (by simp) ?_
              refine AllReadyIn.cons rfl (fun K hK => ?_) AllReadyIn.nil
              rw [if_pos (by rfl)]
              refine wpIn_app2 (.tmp 38) (.tmp 42) 104 rfl wr.heap.size 55 _ 2 16 valC Tryz.underlying104 zeroValG rfl (by decide) (by decide) valC_length valC_one _ _ rfl HO3.out (some ⟨x2.heap.size, 0, none⟩) 1 1 [((an, av) : Val)] rfl rfl HS3.out (by rw [HPL.out]; simp only [List.length_singleton]; omega) hlo3 ?_
              intro v5 x5 hown5 hgr5 hob5
              rw [HRX.out.1] at hown5
              obtain ⟨A5, c5, rfl, hc51, hc52, hs5⟩ := hown5.shape valC_length
              rw [HRX.out.2.1] at hown5 hc51 ⊢
              have HX5 := Lib.hid (show Below wo.heap.size wo x5 from (bch HBQ.out HUx3.out).grown hgr5 (bch HBQ.out HUx3.out).size fun q hq => by have := (HO3.out.ty q hq).1; have := HBQ.out.size; omega)
              have hsr : SRs ((cols.length : Int) + 1) x5 (⟨A5, nL, c5⟩, R) := ⟨HRX.out.2.2.1, HRX.out.2.1.symm, by rw [HRX.out.2.1]; exact hc51, hc52, hs5.sl⟩
              have hyl := HY.out E pre ⟨(⟨A5, nL, c5⟩, R), HRX.out.2.2.1⟩ x5 (JB.out _ _ _ HQ.out.1 HX5.out (Nat.le_trans hsz HX5.out.size)) hsr HRX.out.2.2.2.2
              change YieldAt _ _ _ l #[.slice A5 nL c5] x5 _ at hyl
              obtain ⟨fn, tmps, assign, body, hy, hRy⟩ := hyl
              clear hown5 hgr5 hob5 hc51 hc52 hs5 hsr
              refine hK _ _ ?_
              clear hK K
              try simp only [Act.put, List.setIfInBounds_toArray, List.set_cons_zero, List.set_cons_succ]
              refine wpAnyIn_ready (rs := [11]) (by kernel_rfl) (by simp) ?_
              refine AllReadyIn.cons rfl (fun K hK => ?_) AllReadyIn.nil
              go_simp
              refine hRy.mono ?_
              clear hy hRy
              rintro e x6 (⟨rfl, hJ6, hk6⟩ | ⟨rfl, hJx6⟩)
              · have H6 := Lib.hid (And.intro hJ6 hk6)
                clear hJ6 hk6
                refine hK _ _ ?_
                clear hK K
                try simp only [Act.put, List.setIfInBounds_toArray, List.set_cons_zero, List.set_cons_succ]
                refine wpAnyIn_take (i := 12) (v := ?v17) rfl rfl (by kernel_rfl) (by kernel_rfl) (by kernel_rfl) (fun _ _ _ h => h) ⟨Or.inl ⟨by rfl, ?hy17⟩, fun _ => rfl⟩ ?_
                case hy17 => ((intro w'; go_simp) <;> with_reducible rfl)
                try simp only [Act.put, List.setIfInBounds_toArray, List.set_cons_zero, List.set_cons_succ]
                refine wpAnyIn_done (by kernel_rfl) ?_ _
                gi_wp2
                go_roundw
                case rel => exact ⟨n + 1, _, by omega, by first | go_num | simp, H6.out.1, (HKO.out.below HX5.out).trans H6.out.2, HRX.out.2.2.2.1.trans (by simp)⟩
                case measure => simp [intOf]; omega
              · have H6 := Lib.hid hJx6
                clear hJx6
                refine hK _ _ ?_
                clear hK K
                try simp only [Act.put, List.setIfInBounds_toArray, List.set_cons_zero, List.set_cons_succ]
                refine wpAnyIn_take (i := 12) (v := ?v18) rfl rfl (by kernel_rfl) (by kernel_rfl) (by kernel_rfl) (fun _ _ _ h => h) ⟨Or.inl ⟨by rfl, ?hy18⟩, fun _ => rfl⟩ ?_
                case hy18 => ((intro w'; go_simp) <;> with_reducible rfl)
                try simp only [Act.put, List.setIfInBounds_toArray, List.set_cons_zero, List.set_cons_succ]
                refine wpAnyIn_done (by kernel_rfl) ?_ _
                gi_wp2
                refine bodyPost_ret (results_none rfl _ _ _) rfl ⟨⟨_, rfl⟩, .inr ⟨_, E, ?_, H6.out⟩⟩
                refine ⟨(GS.drop (n + 1)).map (grF cols cl kind), ?_⟩
                exact Eq.trans (by simp) HRX.out.2.2.2.1.symm
            · skip
              obtain ⟨e0, e1, e2⟩ := HCX.out _ HUu0.out
              go_simp
              clear e0 e1 e2
              refine hK _ _ ?_
              clear hK K
              try simp only [Act.put, List.setIfInBounds_toArray, List.set_cons_zero, List.set_cons_succ]
              refine wpAnyIn_ready (rs := [3]) (by kernel_rfl) (by simp) ?_
              refine AllReadyIn.cons rfl (fun K hK => ?_) AllReadyIn.nil
              obtain ⟨e0, e1, e2⟩ := HCX.out _ HUu0.out
              go_simp
              clear e0 e1 e2
              refine hK _ _ ?_
              clear hK K
              try simp only [Act.put, List.setIfInBounds_toArray, List.set_cons_zero, List.set_cons_succ]
              refine wpAnyIn_ready (rs := [5]) (by kernel_rfl) (by simp) ?_
              refine AllReadyIn.cons rfl (fun K hK => ?_) AllReadyIn.nil
              go_simp
              refine ⟨trivial, ?_⟩
              gi_at_call 77
              refine (callsIn_wide.2 (HPK.out _ HUu0.out)).mono ?_
              rintro e x1 ⟨v1, rfl, how1, hb1⟩
              obtain ⟨A1, k1, rfl, _, _, _⟩ := how1.shape valC_length
              rw [HPL.out] at how1 ⊢
              have HUx1 := Lib.hid (bch HUu0.out hb1)
              have HO1 := Lib.hid (how1.low HUu0.out.size)
              clear how1 hb1
              refine hK _ _ ?_
              clear hK K
              try simp only [Act.put, List.setIfInBounds_toArray, List.set_cons_zero, List.set_cons_succ]
              refine wpAnyIn_ready (rs := [8]) (by kernel_rfl) (by simp) ?_
              refine AllReadyIn.cons rfl (fun K hK => ?_) AllReadyIn.nil
              go_simp
              refine ⟨trivial, ?_⟩
              gi_at_call 78
              refine (callsIn_wide.2 (HAG.out _ HUx1.out)).mono ?_
              rintro e x2 ⟨rfl, hb2⟩
              have HUx2 := Lib.hid (bch HUx1.out hb2)
              have HO2 := Lib.hid (HO1.out.on hb2)
              clear hb2
              refine hK _ _ ?_
              clear hK K
              try simp only [Act.put, List.setIfInBounds_toArray, List.set_cons_zero, List.set_cons_succ]
              refine wpAnyIn_ready (rs := [9]) (by kernel_rfl) (by simp) ?_
              refine AllReadyIn.cons rfl (fun K hK => ?_) AllReadyIn.nil
              obtain ⟨x3, hx3⟩ : ∃ z, x2.alloc (.cells #[.bool an, .int .i64 av] 55) = z := ⟨_, rfl⟩
              have b3 : Below x2.heap.size x2 x3 := by rw [← hx3]; exact balloc (Below.refl _ _) _
              have HS3 := Lib.hid (show Sl 2 valC x3 x3.heap.size (some ⟨x2.heap.size, 0, none⟩) [((an, av) : Val)] by rw [← hx3]; exact Row.sl' (t := 55) valC_length ((Row.new x2 _ _).of rfl))
              have HUx3 := Lib.hid (bch HUx2.out b3)
              have HO3 := Lib.hid (HO2.out.on b3)
              have hlo3 : wr.heap.size ≤ x3.heap.size := HUx3.out.size
              go_simp
              (try rw [hx3])
              have Hx3 := Lib.hid hx3
              clear hx3 b3
              refine hK _ _ ?_
              clear hK K
              try simp only [Act.put, List.setIfInBounds_toArray, List.set_cons_zero, List.set_cons_succ]
              refine wpAnyIn_ready (rs := [10]) (by kernel_rfl) (by simp) ?_
              refine AllReadyIn.cons rfl (fun K hK => ?_) AllReadyIn.nil
              rw [if_pos (by rfl)]
              refine wpIn_app2 (.tmp 38) (.tmp 42) 104 rfl wr.heap.size 55 _ 2 16 valC Tryz.underlying104 zeroValG rfl (by decide) (by decide) valC_length valC_one _ _ rfl HO3.out (some ⟨x2.heap.size, 0, none⟩) 1 1 [((an, av) : Val)] rfl rfl HS3.out (by rw [HPL.out]; simp only [List.length_singleton]; omega) hlo3 ?_
              intro v5 x5 hown5 hgr5 hob5
              rw [HRX.out.1] at hown5
              obtain ⟨A5, c5, rfl, hc51, hc52, hs5⟩ := hown5.shape valC_length
              rw [HRX.out.2.1] at hown5 hc51 ⊢
              have HX5 := Lib.hid (show Below wo.heap.size wo x5 from (bch HBQ.out HUx3.out).grown hgr5 (bch HBQ.out HUx3.out).size fun q hq => by have := (HO3.out.ty q hq).1; have := HBQ.out.size; omega)
              have hsr : SRs ((cols.length : Int) + 1) x5 (⟨A5, nL, c5⟩, R) := ⟨HRX.out.2.2.1, HRX.out.2.1.symm, by rw [HRX.out.2.1]; exact hc51, hc52, hs5.sl⟩
              have hyl := HY.out E pre ⟨(⟨A5, nL, c5⟩, R), HRX.out.2.2.1⟩ x5 (JB.out _ _ _ HQ.out.1 HX5.out (Nat.le_trans hsz HX5.out.size)) hsr HRX.out.2.2.2.2
              change YieldAt _ _ _ l #[.slice A5 nL c5] x5 _ at hyl
              obtain ⟨fn, tmps, assign, body, hy, hRy⟩ := hyl
              clear hown5 hgr5 hob5 hc51 hc52 hs5 hsr
              refine hK _ _ ?_
              clear hK K
              try simp only [Act.put, List.setIfInBounds_toArray, List.set_cons_zero, List.set_cons_succ]
              refine wpAnyIn_ready (rs := [11]) (by kernel_rfl) (by simp) ?_
              refine AllReadyIn.cons rfl (fun K hK => ?_) AllReadyIn.nil
              go_simp
              refine hRy.mono ?_
              clear hy hRy
              rintro e x6 (⟨rfl, hJ6, hk6⟩ | ⟨rfl, hJx6⟩)
              · have H6 := Lib.hid (And.intro hJ6 hk6)
                clear hJ6 hk6
                refine hK _ _ ?_
                clear hK K
                try simp only [Act.put, List.setIfInBounds_toArray, List.set_cons_zero, List.set_cons_succ]
                refine wpAnyIn_take (i := 12) (v := ?v19) rfl rfl (by kernel_rfl) (by kernel_rfl) (by kernel_rfl) (fun _ _ _ h => h) ⟨Or.inl ⟨by rfl, ?hy19⟩, fun _ => rfl⟩ ?_
                case hy19 => ((intro w'; go_simp) <;> with_reducible rfl)
                try simp only [Act.put, List.setIfInBounds_toArray, List.set_cons_zero, List.set_cons_succ]
                refine wpAnyIn_done (by kernel_rfl) ?_ _
                gi_wp2
                go_roundw
                case rel => exact ⟨n + 1, _, by omega, by first | go_num | simp, H6.out.1, (HKO.out.below HX5.out).trans H6.out.2, HRX.out.2.2.2.1.trans (by simp)⟩
                case measure => simp [intOf]; omega
              · have H6 := Lib.hid hJx6
                clear hJx6
                refine hK _ _ ?_
                clear hK K
                try simp only [Act.put, List.setIfInBounds_toArray, List.set_cons_zero, List.set_cons_succ]
                refine wpAnyIn_take (i := 12) (v := ?v20) rfl rfl (by kernel_rfl) (by kernel_rfl) (by kernel_rfl) (fun _ _ _ h => h) ⟨Or.inl ⟨by rfl, ?hy20⟩, fun _ => rfl⟩ ?_
                case hy20 => ((intro w'; go_simp) <;> with_reducible rfl)
                try simp only [Act.put, List.setIfInBounds_toArray, List.set_cons_zero, List.set_cons_succ]
                refine wpAnyIn_done (by kernel_rfl) ?_ _
                gi_wp2
                refine bodyPost_ret (results_none rfl _ _ _) rfl ⟨⟨_, rfl⟩, .inr ⟨_, E, ?_, H6.out⟩⟩
                refine ⟨(GS.drop (n + 1)).map (grF cols cl kind), ?_⟩
                exact Eq.trans (by simp) HRX.out.2.2.2.1.symm
    · obtain rfl : n = N := by omega
      gi_wp2
      go_end0
      refine ⟨⟨_, rfl⟩, .inl ⟨pre, E, ?_, HQ.out.1⟩⟩
      have := HQ.out.2.2
      rw [List.drop_of_length_le (by rw [HNG.out]; exact Nat.le_refl _), List.map_nil, List.append_nil] at this
      exact this.symm
end Go.Proofs.YtlhonhacehgooaaGreat

/-
  Contracts of GroupBy of both. (Printed by wip/grg.py.)
-/
namespace Go.Proofs.YtlhonhacehgooaaGreat
open Go.RowKit Go.Qo
set_option linter.unusedVariables false
set_option linter.unusedSimpArgs false

def GbOk (W : Int) (rows : List Row1) (cols : List Int) (kind col : Int) : Prop := TabOk W rows ∧ ColsOk cols W ∧ cols.length < 6 ∧ (0 ≤ col ∧ col < W) ∧ (1 ≤ kind ∧ kind ≤ 5)
theorem colsOk_ge {cols : List Int} {W : Int} (h : ColsOk cols W) : ∀ (i : Nat) (c : Int), cols[i]? = some c → (i : Int) ≤ c
  | 0, c, hc => (h 0 c hc).1.1
  | i + 1, c, hc => by
    have hi : i < cols.length := by have := (List.getElem?_eq_some_iff.1 hc).1; omega
    have h1 := colsOk_ge h i cols[i] (List.getElem?_eq_getElem hi)
    have h2 := (h (i + 1) c hc).2 cols[i] (by omega) (by rw [Nat.add_sub_cancel]; exact List.getElem?_eq_getElem hi)
    omega
theorem colsOk_len {cols : List Int} {W : Int} (h : ColsOk cols W) (hW : 0 ≤ W) : (cols.length : Int) ≤ W := by
  rcases Nat.eq_zero_or_pos cols.length with h0 | h0
  · omega
  · have hl : cols.length - 1 < cols.length := by omega
    have h1 := colsOk_ge h _ _ (List.getElem?_eq_getElem hl)
    have h2 := (h _ _ (List.getElem?_eq_getElem hl)).1.2
    omega
theorem colsOk_mem {cols : List Int} {W : Int} (h : ColsOk cols W) : ∀ x ∈ cols, 0 ≤ x ∧ x < W := fun x hx => by
  obtain ⟨i, hi⟩ := List.getElem?_of_mem hx
  have := (h i x hi).1
  omega
theorem bool_ofG {P : Prop} : ∃ t : Bool, t = true ↔ P := ⟨_, @decide_eq_true_iff P (Classical.propDecidable _)⟩
theorem resSpecGb {b : Nat} {v0 v1 : Value} {r : Bool} (tmps : Array Value) (hp : tmps.getD 8 undef = .pointer (some ⟨b, 0, none⟩)) (hr : tmps.getD 9 undef = .bool r) (w : World) (c0 : w.cell? ⟨b, 0, none⟩ = some v0) (c1 : w.cell? ⟨b, 1, none⟩ = some v1) :
    (results Tryz.f30 tmps).run Tryz.prog w = .ok (.tuple #[.agg #[v0, v1], .bool r]) w := by
  simp only [Array.getD_eq_getD_getElem?] at hp hr
  simp [results, Tryz.results30, go_sem, hp, hr, c0, c1]
set_option maxRecDepth 20000 in
set_option maxHeartbeats 4000000 in
theorem specGroupBy_ok (W : Int) (A A' : Option Addr) (c c' : Nat) (rows : List Row1) (cols : List Int) (kind col : Int) (w : World) (hn : rows.length ≤ 1048576) (hn' : cols.length ≤ 1048576) (h : Rws w w.heap.size A rows) (h' : Sl 1 intC w w.heap.size A' cols) (q : Bool) (hq : q = true ↔ GbOk W rows cols kind col) :
    Calls Tryz.prog 30 #[.agg #[.int .i64 W, .slice A rows.length c], .slice A' cols.length c', .int .i64 kind, .int .i64 col] w (SpecTab q ((cols.length : Int) + 1) (grpRows cols col kind rows) w) := by
  have Hq := Lib.hid hq
  obtain ⟨W0, hW0⟩ : ∃ z, (w.alloc (.cells #[.int .i64 W, .slice A rows.length c] 32)).alloc (.cells #[.int .i64 0, .slice none 0 0] 32) = z := ⟨_, rfl⟩
  have B0 : Below w.heap.size w W0 := by rw [← hW0]; exact balloc (balloc (Below.refl _ _) _) _
  have r0 : Row W0 w.heap.size 32 [.int .i64 W, .slice A rows.length c] := by rw [← hW0]; exact Row.first _ _ _ _
  have r1 : Row W0 (w.heap.size + 1) 32 [.int .i64 0, .slice none 0 0] := by rw [← hW0]; exact Row.second _ _ _ _
  obtain ⟨t, ht⟩ := bool_ofG (P := TabOk W rows)
  obtain ⟨u, hu⟩ := bool_ofG (P := ColsOk cols W)
  have H1 := Lib.hid (specValidTable_ok W A c rows W0 (by unfold maxLen; omega) (h.on B0) t ht)
  have Ht := Lib.hid ht
  have Hu := Lib.hid hu
  have HH := Lib.hid (And.intro h h')
  have HW := Lib.hid hW0
  have HB0 := Lib.hid B0
  have HR0 := Lib.hid (And.intro r0 r1)
  have a0 : W0.cell? ⟨w.heap.size, 0, none⟩ = some (.int .i64 W) := r0.cell 0
  have a1 : W0.cell? ⟨w.heap.size, 1, none⟩ = some (.slice A rows.length c) := r0.cell 1
  have NO := Lib.hid (fun (w2 : World) (H2 : Below w.heap.size w w2) => show SpecTab false ((cols.length : Int) + 1) (grpRows cols col kind rows) w (.returned (.tuple #[.agg #[.int .i64 0, .slice none 0 0], .bool false])) ((w2.setCell ⟨w.heap.size + 1, 0, none⟩ (.int .i64 0)).setCell ⟨w.heap.size + 1, 1, none⟩ (.slice none 0 0)) from
    SpecTab.no ((H2.setCell (p := ⟨w.heap.size + 1, 0, none⟩) (by simp) _).setCell (p := ⟨w.heap.size + 1, 1, none⟩) (by simp) _))
  clear hq ht hu h h' B0 r0 r1 hW0
  go_enter Tryz.func30, Tryz.ntmps30
  go_upto_region 1 with fail
  rw [HW.out]
  go_wp2_with fail
  refine H1.out.mono ?_
  rintro e w1 ⟨rfl, hb1⟩
  have hb01 := hb1
  have a0 : w1.cell? ⟨w.heap.size, 0, none⟩ = some (.int .i64 W) := (HR0.out.1.on hb1).cell 0
  have a1 : w1.cell? ⟨w.heap.size, 1, none⟩ = some (.slice A rows.length c) := (HR0.out.1.on hb1).cell 1
  have r2 := HR0.out.2.on hb1
  have hbx := bch HB0.out hb1
  have H01 := Lib.hid hb1
  clear hb1 hb01
  cases t
  · have hf : q = false := bfalse Hq.out fun ht => by have := Ht.out.2 ht.1; cases this
    subst hf
    have f0 := r2.frozen 0
    have f1 := r2.frozen 1
    have l2 := r2.lt
    have e0 : w1.cell? ⟨w.heap.size + 1, 0, none⟩ = some (.int .i64 0) := r2.cell 0
    have e1 : w1.cell? ⟨w.heap.size + 1, 1, none⟩ = some (.slice none 0 0) := r2.cell 1
    have HBX := Lib.hid hbx
    clear r2 hbx
    go_wp2
    refine bodyPost_ret (resSpecGb (b := w.heap.size + 1) (r := false) _ rfl rfl _ (v0 := .int .i64 0) (v1 := .slice none 0 0) (by simp [go_sem, e0, e1, l2]) (by simp [go_sem, e0, e1, l2])) rfl ?_
    exact NO.out _ HBX.out
  · have hT := Ht.out.1 rfl
    have hW1 := hT.1
    have hW6 : W ≤ 6 := hT.2.1
    have HT := Lib.hid hT
    have hwr : IntKind.i64.wrap (W - 1) = W - 1 := IntWalk.i64_in _ (by omega)
    have H2 := Lib.hid (validCols_ok cols A' c' W w1 u (by omega) (by omega) (by unfold maxLen; omega) (HH.out.2.on hbx) Hu.out)
    clear hT r2 hbx
    go_wp2_with fail
    refine H2.out.mono ?_
    rintro e w2 ⟨rfl, hb2⟩
    have H02 := Lib.hid (bch H01.out hb2)
    have a0 : w2.cell? ⟨w.heap.size, 0, none⟩ = some (.int .i64 W) := (HR0.out.1.on H02.out).cell 0
    have a1 : w2.cell? ⟨w.heap.size, 1, none⟩ = some (.slice A rows.length c) := (HR0.out.1.on H02.out).cell 1
    have r2 := HR0.out.2.on H02.out
    have hbx := bch HB0.out H02.out
    clear hb2
    cases u
    · have hf : q = false := bfalse Hq.out fun ht => by have := Hu.out.2 ht.2.1; cases this
      subst hf
      have f0 := r2.frozen 0
      have f1 := r2.frozen 1
      have l2 := r2.lt
      have e0 : w2.cell? ⟨w.heap.size + 1, 0, none⟩ = some (.int .i64 0) := r2.cell 0
      have e1 : w2.cell? ⟨w.heap.size + 1, 1, none⟩ = some (.slice none 0 0) := r2.cell 1
      have HBX := Lib.hid hbx
      clear r2 hbx
      go_wp2
      refine bodyPost_ret (resSpecGb (b := w.heap.size + 1) (r := false) _ rfl rfl _ (v0 := .int .i64 0) (v1 := .slice none 0 0) (by simp [go_sem, e0, e1, l2]) (by simp [go_sem, e0, e1, l2])) rfl ?_
      exact NO.out _ HBX.out
    · have hco := Hu.out.1 rfl
      have hlen := colsOk_len hco (by omega)
      have HCO := Lib.hid hco
      clear hco
      by_cases h6 : cols.length = 6
      · have h6b : ((cols.length : Int) == 6) = true := by simp; omega
        have hf : q = false := bfalse Hq.out fun ht => by have := ht.2.2.1; omega
        subst hf
        have f0 := r2.frozen 0
        have f1 := r2.frozen 1
        have l2 := r2.lt
        have e0 : w2.cell? ⟨w.heap.size + 1, 0, none⟩ = some (.int .i64 0) := r2.cell 0
        have e1 : w2.cell? ⟨w.heap.size + 1, 1, none⟩ = some (.slice none 0 0) := r2.cell 1
        have HBX := Lib.hid hbx
        clear r2 hbx
        go_wp2
        refine bodyPost_ret (resSpecGb (b := w.heap.size + 1) (r := false) _ rfl rfl _ (v0 := .int .i64 0) (v1 := .slice none 0 0) (by simp [go_sem, e0, e1, l2]) (by simp [go_sem, e0, e1, l2])) rfl ?_
        exact NO.out _ HBX.out
      · have h6b : ((cols.length : Int) == 6) = false := by simp; omega
        have hl6 : cols.length < 6 := by omega
        obtain ⟨r3, hr3⟩ : ∃ r, (decide (0 ≤ col) && decide (col ≤ W - 1)) = r := ⟨_, rfl⟩
        obtain ⟨r4, hr4⟩ : ∃ r, (decide (1 ≤ kind) && decide (kind ≤ 5)) = r := ⟨_, rfl⟩
        have HI3 := Lib.hid (inRange_ok col 0 (W - 1) w2 r3 hr3)
        have HI4 := Lib.hid (inRange_ok kind 1 5 w2 r4 hr4)
        have HR3 := Lib.hid hr3
        have HR4 := Lib.hid hr4
        clear hr3 hr4 h6 hlen
        go_wp2_with fail
        refine HI3.out.mono ?_
        rintro e w3 ⟨rfl, rfl⟩
        cases r3
        · have hf : q = false := bfalse Hq.out fun ht => by
            have h1 := ht.2.2.2.1
            have h2 := HR3.out
            simp at h2
            omega
          subst hf
          have f0 := r2.frozen 0
          have f1 := r2.frozen 1
          have l2 := r2.lt
          have e0 : w2.cell? ⟨w.heap.size + 1, 0, none⟩ = some (.int .i64 0) := r2.cell 0
          have e1 : w2.cell? ⟨w.heap.size + 1, 1, none⟩ = some (.slice none 0 0) := r2.cell 1
          have HBX := Lib.hid hbx
          clear r2 hbx
          go_wp2
          refine bodyPost_ret (resSpecGb (b := w.heap.size + 1) (r := false) _ rfl rfl _ (v0 := .int .i64 0) (v1 := .slice none 0 0) (by simp [go_sem, e0, e1, l2]) (by simp [go_sem, e0, e1, l2])) rfl ?_
          exact NO.out _ HBX.out
        · go_wp2_with fail
          refine HI4.out.mono ?_
          rintro e w4 ⟨rfl, rfl⟩
          cases r4
          · have hf : q = false := bfalse Hq.out fun ht => by
              have h1 := ht.2.2.2.2
              have h2 := HR4.out
              simp at h2
              omega
            subst hf
            have f0 := r2.frozen 0
            have f1 := r2.frozen 1
            have l2 := r2.lt
            have e0 : w2.cell? ⟨w.heap.size + 1, 0, none⟩ = some (.int .i64 0) := r2.cell 0
            have e1 : w2.cell? ⟨w.heap.size + 1, 1, none⟩ = some (.slice none 0 0) := r2.cell 1
            have HBX := Lib.hid hbx
            clear r2 hbx
            go_wp2
            refine bodyPost_ret (resSpecGb (b := w.heap.size + 1) (r := false) _ rfl rfl _ (v0 := .int .i64 0) (v1 := .slice none 0 0) (by simp [go_sem, e0, e1, l2]) (by simp [go_sem, e0, e1, l2])) rfl ?_
            exact NO.out _ HBX.out
          · have hcol : 0 ≤ col ∧ col < W := by have h2 := HR3.out; simp at h2; omega
            have hkd : 1 ≤ kind ∧ kind ≤ 5 := by have h2 := HR4.out; simp at h2; omega
            have hf : q = true := Hq.out.2 ⟨HT.out, HCO.out, hl6, hcol, hkd⟩
            subst hf
            have HGB := Lib.hid (groupBy_ok W A A' c c' rows cols kind col w2 HT.out hl6 (colsOk_mem HCO.out) hcol hkd (HH.out.1.on hbx) (HH.out.2.on hbx))
            have HBX := Lib.hid hbx
            clear r2 hbx hcol hkd
            go_wp2_with fail
            refine HGB.out.mono ?_
            rintro e w5 ⟨v5, svs, out, rfl, hout, how, hrt, hb5⟩
            obtain ⟨A5, c5, rfl, _, _, _⟩ := how.shape svC_length
            have r2 := HR0.out.2.on (bch H02.out hb5)
            have f0 := r2.frozen 0
            have f1 := r2.frozen 1
            have l2 := r2.lt
            have e0 : w5.cell? ⟨w.heap.size + 1, 0, none⟩ = some (.int .i64 0) := r2.cell 0
            have e1 : w5.cell? ⟨w.heap.size + 1, 1, none⟩ = some (.slice none 0 0) := r2.cell 1
            have HF := Lib.hid (And.intro hout (And.intro how (And.intro hrt (And.intro hb5 r2))))
            generalize svs.length = nn at *
            clear hout how hrt hb5 r2
            go_wp2
            refine bodyPost_ret (resSpecGb (b := w.heap.size + 1) (r := true) _ rfl rfl _ (v0 := .int .i64 ((cols.length : Int) + 1)) (v1 := .slice A5 nn c5) (by simp [go_sem, e0, e1, l2]) (by simp [go_sem, e0, e1, l2])) rfl ?_
            obtain ⟨hout, how, hrt, hb5, r2⟩ := HF.out
            have hS0 := (Only.set (S := fun i => i = w.heap.size + 1) (p := ⟨w.heap.size + 1, 0, none⟩) (Only.refl w5) (.inl rfl) (.int .i64 ((cols.length : Int) + 1))).set (p := ⟨w.heap.size + 1, 1, none⟩) (.inl rfl) (.slice A5 nn c5)
            exact ⟨_, _, svs, out, rfl, .inr ⟨rfl, rfl, hout⟩, (how.only hS0 fun q hq => .inr ⟨32, by decide, by subst hq; exact r2.ty⟩).low (by have := HBX.out.size; omega), hrt.only hS0 fun q hq => .inr ⟨32, by decide, by subst hq; exact r2.ty⟩, ((bch HBX.out hb5).setCell (p := ⟨w.heap.size + 1, 0, none⟩) (by simp) _).setCell (p := ⟨w.heap.size + 1, 1, none⟩) (by simp) _⟩
theorem resImplGb {b : Nat} {v0 v1 : Value} {r : Bool} (tmps : Array Value) (hp : tmps.getD 8 undef = .pointer (some ⟨b, 0, none⟩)) (hr : tmps.getD 9 undef = .bool r) (w : World) (c0 : w.cell? ⟨b, 0, none⟩ = some v0) (c1 : w.cell? ⟨b, 1, none⟩ = some v1) :
    (results Tryz.f29 tmps).run Tryz.prog w = .ok (.tuple #[.agg #[v0, v1], .bool r]) w := by
  simp only [Array.getD_eq_getD_getElem?] at hp hr
  simp [results, Tryz.results29, go_sem, hp, hr, c0, c1]
theorem TabRes.perm {q : Bool} {W : Int} {a b : List Row1} {w w' : World} {e : Ending} (h : TabRes q W a w e w') (hp : a.Perm b) : TabRes q W b w e w' := by
  obtain ⟨W1, v, cp, he, hc, r⟩ := h
  refine ⟨W1, v, cp, he, ?_, r⟩
  rcases hc with hc | ⟨h1, h2, h3⟩
  · exact .inl hc
  · refine .inr ⟨h1, h2, ?_⟩
    rw [← hp.length_eq]
    split
    · rename_i hl; rw [if_pos hl] at h3; exact ⟨h3.1.trans hp, h3.2⟩
    · rename_i hl; rw [if_neg hl] at h3; exact h3
set_option maxRecDepth 20000 in
set_option maxHeartbeats 4000000 in
theorem implGroupBy_ok (W : Int) (A A' : Option Addr) (c c' : Nat) (rows : List Row1) (cols : List Int) (kind col : Int) (w : World) (hn : rows.length ≤ 1048576) (hn' : cols.length ≤ 1048576) (h : Rws w w.heap.size A rows) (h' : Sl 1 intC w w.heap.size A' cols) (q : Bool) (hq : q = true ↔ GbOk W rows cols kind col) :
    Calls Tryz.prog 29 #[.agg #[.int .i64 W, .slice A rows.length c], .slice A' cols.length c', .int .i64 kind, .int .i64 col] w (TabRes q ((cols.length : Int) + 1) (grpRows cols col kind rows) w) := by
  have Hq := Lib.hid hq
  obtain ⟨V1, hV1⟩ : ∃ z, w.alloc (.cells #[.int .i64 W, .slice A rows.length c] 32) = z := ⟨_, rfl⟩
  obtain ⟨V2, hV2⟩ : ∃ z, V1.alloc (.cells #[.slice A' cols.length c'] 23) = z := ⟨_, rfl⟩
  obtain ⟨V3, hV3⟩ : ∃ z, V2.alloc (.cells #[.int .i64 kind] 3) = z := ⟨_, rfl⟩
  obtain ⟨V4, hV4⟩ : ∃ z, V3.alloc (.cells #[.int .i64 col] 3) = z := ⟨_, rfl⟩
  obtain ⟨W0, hW0⟩ : ∃ z, V4.alloc (.cells #[.int .i64 0, .slice none 0 0] 32) = z := ⟨_, rfl⟩
  have b1 : Below w.heap.size w V1 := by rw [← hV1]; exact balloc (Below.refl _ _) _
  have b2 : Below V1.heap.size V1 V2 := by rw [← hV2]; exact balloc (Below.refl _ _) _
  have b3 : Below V2.heap.size V2 V3 := by rw [← hV3]; exact balloc (Below.refl _ _) _
  have b4 : Below V3.heap.size V3 V4 := by rw [← hV4]; exact balloc (Below.refl _ _) _
  have b5 : Below V4.heap.size V4 W0 := by rw [← hW0]; exact balloc (Below.refl _ _) _
  have s1 : V1.heap.size = w.heap.size + 1 := by rw [← hV1]; simp
  have s2 : V2.heap.size = w.heap.size + 2 := by rw [← hV2]; simp [s1]
  have s3 : V3.heap.size = w.heap.size + 3 := by rw [← hV3]; simp [s2]
  have s4 : V4.heap.size = w.heap.size + 4 := by rw [← hV4]; simp [s3]
  have r1 : Row V1 w.heap.size 32 [.int .i64 W, .slice A rows.length c] := by rw [← hV1]; exact Row.new _ _ _
  have r2 : Row V2 (w.heap.size + 1) 23 [.slice A' cols.length c'] := by rw [← s1, ← hV2]; exact Row.new _ _ _
  have r3 : Row V3 (w.heap.size + 2) 3 [.int .i64 kind] := by rw [← s2, ← hV3]; exact Row.new _ _ _
  have r4 : Row V4 (w.heap.size + 3) 3 [.int .i64 col] := by rw [← s3, ← hV4]; exact Row.new _ _ _
  have r5 : Row W0 (w.heap.size + 4) 32 [.int .i64 0, .slice none 0 0] := by rw [← s4, ← hW0]; exact Row.new _ _ _
  have HR0 := Lib.hid (And.intro ((((r1.on b2).on b3).on b4).on b5) (And.intro (((r2.on b3).on b4).on b5) (And.intro ((r3.on b4).on b5) (And.intro (r4.on b5) r5))))
  have HB0 := Lib.hid (bch (bch (bch (bch b1 b2) b3) b4) b5)
  have KC := Lib.hid (fun (z : World) (hz : Below W0.heap.size W0 z) => show z.cell? ⟨w.heap.size, 0, none⟩ = some (.int .i64 W) ∧ z.cell? ⟨w.heap.size, 1, none⟩ = some (.slice A rows.length c) ∧ z.cell? ⟨w.heap.size + 1, 0, none⟩ = some (.slice A' cols.length c') ∧ z.cell? ⟨w.heap.size + 2, 0, none⟩ = some (.int .i64 kind) ∧ z.cell? ⟨w.heap.size + 3, 0, none⟩ = some (.int .i64 col) from
    ⟨(HR0.out.1.on hz).cell 0, (HR0.out.1.on hz).cell 1, (HR0.out.2.1.on hz).cell 0, (HR0.out.2.2.1.on hz).cell 0, (HR0.out.2.2.2.1.on hz).cell 0⟩)
  obtain ⟨t, ht⟩ := bool_ofG (P := TabOk W rows ∧ 0 ≤ col ∧ col < W)
  obtain ⟨u, hu⟩ := bool_ofG (P := ColsOk cols W ∧ cols.length < 6)
  have H1 := Lib.hid (hasColumn_ok W col A c rows W0 hn (h.on HB0.out) t ht)
  have Ht := Lib.hid ht
  have Hu := Lib.hid hu
  have HH := Lib.hid (And.intro h h')
  have HV1 := Lib.hid hV1
  have HV2 := Lib.hid hV2
  have HV3 := Lib.hid hV3
  have HV4 := Lib.hid hV4
  have HW := Lib.hid hW0
  have NO := Lib.hid (fun (w2 : World) (H2 : Below w.heap.size w w2) => show TabRes false ((cols.length : Int) + 1) (grpRows cols col kind rows) w (.returned (.tuple #[.agg #[.int .i64 0, .slice none 0 0], .bool false])) ((w2.setCell ⟨w.heap.size + 4, 0, none⟩ (.int .i64 0)).setCell ⟨w.heap.size + 4, 1, none⟩ (.slice none 0 0)) from
    TabRes.no ((H2.setCell (p := ⟨w.heap.size + 4, 0, none⟩) (by simp) _).setCell (p := ⟨w.heap.size + 4, 1, none⟩) (by simp) _))
  obtain ⟨a0, a1, a2, a3, a4⟩ := KC.out _ (Below.refl _ _)
  clear hq ht hu h h' hV1 hV2 hV3 hV4 hW0 b1 b2 b3 b4 b5 s1 s2 s3 s4 r1 r2 r3 r4 r5
  go_enter Tryz.func29, Tryz.ntmps29
  go_upto_region 1 with fail
  rw [HV1.out, HV2.out, HV3.out, HV4.out, HW.out]
  go_wp2_with fail
  refine H1.out.mono ?_
  rintro e w1 ⟨rfl, hb1⟩
  have HBN := Lib.hid hb1
  clear hb1 a0 a1 a2 a3 a4
  obtain ⟨a0, a1, a2, a3, a4⟩ := KC.out _ HBN.out
  have r2 := HR0.out.2.2.2.2.on HBN.out
  have hbx := bch HB0.out HBN.out
  cases t
  · have hf : q = false := bfalse Hq.out fun ht => by have := Ht.out.2 ⟨ht.1, ht.2.2.2.1⟩; cases this
    subst hf
    have f0 := r2.frozen 0
    have f1 := r2.frozen 1
    have l2 := r2.lt
    have e0 : w1.cell? ⟨w.heap.size + 4, 0, none⟩ = some (.int .i64 0) := r2.cell 0
    have e1 : w1.cell? ⟨w.heap.size + 4, 1, none⟩ = some (.slice none 0 0) := r2.cell 1
    have HBX := Lib.hid hbx
    clear r2 hbx
    go_wp2
    refine bodyPost_ret (resImplGb (b := w.heap.size + 4) (r := false) _ rfl rfl _ (v0 := .int .i64 0) (v1 := .slice none 0 0) (by simp [go_sem, e0, e1, l2]) (by simp [go_sem, e0, e1, l2])) rfl ?_
    exact NO.out _ HBX.out
  · have hT := (Ht.out.1 rfl).1
    have hcol := (Ht.out.1 rfl).2
    have hW1 := hT.1
    have hW6 : W ≤ 6 := hT.2.1
    have HT := Lib.hid hT
    have H2 := Lib.hid (validGroup_ok cols A' c' W w1 u (by unfold maxLen; omega) (HH.out.2.on hbx) Hu.out)
    have HBO := HBN
    clear hT r2 hbx HBN
    go_wp2_with fail
    refine H2.out.mono ?_
    rintro e w2 ⟨rfl, hb2⟩
    have HBN := Lib.hid (bch HBO.out hb2)
    clear hb2 a0 a1 a2 a3 a4
    obtain ⟨a0, a1, a2, a3, a4⟩ := KC.out _ HBN.out
    have r2 := HR0.out.2.2.2.2.on HBN.out
    have hbx := bch HB0.out HBN.out
    cases u
    · have hf : q = false := bfalse Hq.out fun ht => by have := Hu.out.2 ⟨ht.2.1, ht.2.2.1⟩; cases this
      subst hf
      have f0 := r2.frozen 0
      have f1 := r2.frozen 1
      have l2 := r2.lt
      have e0 : w2.cell? ⟨w.heap.size + 4, 0, none⟩ = some (.int .i64 0) := r2.cell 0
      have e1 : w2.cell? ⟨w.heap.size + 4, 1, none⟩ = some (.slice none 0 0) := r2.cell 1
      have HBX := Lib.hid hbx
      clear r2 hbx
      go_wp2
      refine bodyPost_ret (resImplGb (b := w.heap.size + 4) (r := false) _ rfl rfl _ (v0 := .int .i64 0) (v1 := .slice none 0 0) (by simp [go_sem, e0, e1, l2]) (by simp [go_sem, e0, e1, l2])) rfl ?_
      exact NO.out _ HBX.out
    · obtain ⟨hco, hl6⟩ := Hu.out.1 rfl
      have HCO := Lib.hid hco
      clear hco
      obtain ⟨r4, hr4⟩ : ∃ r, (decide (1 ≤ kind) && decide (kind ≤ 5)) = r := ⟨_, rfl⟩
      have HI4 := Lib.hid (validAggregate_ok kind w2 r4 hr4)
      have HR4 := Lib.hid hr4
      clear hr4
      go_wp2_with fail
      refine HI4.out.mono ?_
      rintro e w4 ⟨rfl, rfl⟩
      cases r4
      · have hf : q = false := bfalse Hq.out fun ht => by
          have h1 := ht.2.2.2.2
          have h2 := HR4.out
          simp at h2
          omega
        subst hf
        have f0 := r2.frozen 0
        have f1 := r2.frozen 1
        have l2 := r2.lt
        have e0 : w2.cell? ⟨w.heap.size + 4, 0, none⟩ = some (.int .i64 0) := r2.cell 0
        have e1 : w2.cell? ⟨w.heap.size + 4, 1, none⟩ = some (.slice none 0 0) := r2.cell 1
        have HBX := Lib.hid hbx
        clear r2 hbx
        go_wp2
        refine bodyPost_ret (resImplGb (b := w.heap.size + 4) (r := false) _ rfl rfl _ (v0 := .int .i64 0) (v1 := .slice none 0 0) (by simp [go_sem, e0, e1, l2]) (by simp [go_sem, e0, e1, l2])) rfl ?_
        exact NO.out _ HBX.out
      · have hkd : 1 ≤ kind ∧ kind ≤ 5 := by have h2 := HR4.out; simp at h2; omega
        have hf : q = true := Hq.out.2 ⟨HT.out, HCO.out, hl6, hcol, hkd⟩
        subst hf
        obtain ⟨cl, rfl⟩ := Int.eq_ofNat_of_zero_le hcol.1
        have hwr : IntKind.i64.wrap ((cols.length : Int) + 1) = (cols.length : Int) + 1 := IntWalk.i64_in _ (by omega)
        have HGB := Lib.hid (collectR_ok ((cols.length : Int) + 1) (srtRows cols cl kind rows).length 75 _ (srtRows cols cl kind rows) w2 entersGroup (groupIt_ok W A A' c c' rows cols cl kind _ _ _ _ w2 HT.out hl6 (colsOk_mem HCO.out) hcol.2 hkd (HH.out.1.on hbx) (HH.out.2.on hbx) (HR0.out.1.on HBN.out) (HR0.out.2.1.on HBN.out) (HR0.out.2.2.2.1.on HBN.out) (HR0.out.2.2.1.on HBN.out)))
        have HPM := Lib.hid (show (srtRows cols cl kind rows).Perm (grpRows cols cl kind rows) from grp_perm fun r hr => by
          obtain ⟨i, hi, rfl⟩ := List.getElem_of_mem hr
          exact keyS_of (HT.out.row (List.getElem?_eq_getElem hi)) (colsOk_mem HCO.out))
        have HBX := Lib.hid hbx
        clear r2 hbx hcol hkd
        go_wp2_with fail
        refine HGB.out.mono ?_
        rintro e w5 ⟨v5, cp, rfl, hcp, how5, hcc, hb5⟩
        obtain ⟨A5, c5, rfl, _, _, _⟩ := how5.shape svC_length
        generalize (cp.map (·.1)).length = nn at how5 ⊢
        have r2 := HR0.out.2.2.2.2.on (bch HBN.out hb5)
        have f0 := r2.frozen 0
        have f1 := r2.frozen 1
        have l2 := r2.lt
        have e0 : w5.cell? ⟨w.heap.size + 4, 0, none⟩ = some (.int .i64 0) := r2.cell 0
        have e1 : w5.cell? ⟨w.heap.size + 4, 1, none⟩ = some (.slice none 0 0) := r2.cell 1
        have HF := Lib.hid (And.intro hcp (And.intro how5 (And.intro hcc (And.intro hb5 r2))))
        clear hcp how5 hcc hb5 r2
        go_wp2
        refine bodyPost_ret (resImplGb (b := w.heap.size + 4) (r := true) _ rfl rfl _ (v0 := .int .i64 ((cols.length : Int) + 1)) (v1 := .slice A5 nn c5) (by simp [go_sem, e0, e1, l2]) (by simp [go_sem, e0, e1, l2])) rfl ?_
        obtain ⟨hcp, how, hcc, hb5, r2⟩ := HF.out
        exact TabRes.perm (TabRes.yes hcp how hcc HBX.out hb5 r2 (by omega)) HPM.out
end Go.Proofs.YtlhonhacehgooaaGreat
