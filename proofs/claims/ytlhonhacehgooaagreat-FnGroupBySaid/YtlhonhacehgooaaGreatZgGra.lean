/-
  Several texts in one (GrD GrP GrC GrB).
-/
import Derived.Test.YtlhonhacehgooaaGreatZgPln
import Derived.Test.YtlhonhacehgooaaGreatZgAgD
import Derived.Test.YtlhonhacehgooaaGreatProg
import Derived.Test.YtlhonhacehgooaaGreatZgTbg
import Derived.Deep.CutBlock
import Derived.Deep.DeepCutAuto
import Derived.Test.YtlhonhacehgooaaGreatZgCps
import Derived.Test.YtlhonhacehgooaaGreatZgAgS
import Derived.Test.YtlhonhacehgooaaGreatZgRgG
/-
  Groups of rows by columns, in plain Lean: in the order of their first rows, and off the sorted rows. No program in sight.
-/
namespace Go.Qo
set_option linter.unusedVariables false
set_option linter.unusedSimpArgs false

theorem snocInd {α : Type} {P : List α → Prop} (h0 : P []) (hs : ∀ l x, P l → P (l ++ [x])) (l : List α) : P l := by
  have : ∀ n, P (l.take n) := fun n => by
    induction n with
    | zero => rw [List.take_zero]; exact h0
    | succ n ih =>
      rw [List.take_add_one]
      cases h : l[n]? with
      | none => simpa using ih
      | some x => exact hs _ _ ih
  have h := this l.length
  rwa [List.take_length] at h
/-- The values of a row in some columns. -/
def pickR (cols : List Int) (r : Row1) : Row1 := cols.map (getV r)
/-- The keys, in the order of their first rows. -/
def keysOf (cols : List Int) (l : List Row1) : List Row1 := l.foldl (fun ks r => if pickR cols r ∈ ks then ks else ks ++ [pickR cols r]) []
/-- The rows with a key. -/
def inG (cols : List Int) (key : Row1) (l : List Row1) : List Row1 := l.filter fun r => pickR cols r = key
def valG (col : Int) (l : List Row1) : List Val := l.map fun r => getV r col
/-- The row of a group. -/
def grpRow (cols : List Int) (col kind : Int) (l : List Row1) (key : Row1) : Row1 := key ++ [aggF kind (valG col (inG cols key l))]
def grpRows (cols : List Int) (col kind : Int) (l : List Row1) : List Row1 := (keysOf cols l).map (grpRow cols col kind l)
theorem keysOf_snoc (cols : List Int) (l : List Row1) (r : Row1) : keysOf cols (l ++ [r]) = if pickR cols r ∈ keysOf cols l then keysOf cols l else keysOf cols l ++ [pickR cols r] := by
  unfold keysOf; rw [List.foldl_append]; rfl
theorem inG_snoc (cols : List Int) (key : Row1) (l : List Row1) (r : Row1) : inG cols key (l ++ [r]) = if pickR cols r = key then inG cols key l ++ [r] else inG cols key l := by
  unfold inG
  rw [List.filter_append]
  split
  · rename_i h; simp [h]
  · rename_i h; simp [h]
theorem mem_keysOf {cols : List Int} {l : List Row1} {k : Row1} : k ∈ keysOf cols l ↔ ∃ r ∈ l, pickR cols r = k := by
  refine snocInd (P := fun l => k ∈ keysOf cols l ↔ ∃ r ∈ l, pickR cols r = k) ?_ ?_ l
  · simp [keysOf]
  · intro l x ih
    rw [keysOf_snoc]
    split
    · rename_i h
      rw [ih]
      constructor
      · rintro ⟨r, hr, he⟩; exact ⟨r, by simp [hr], he⟩
      · rintro ⟨r, hr, he⟩
        rcases List.mem_append.1 hr with hr | hr
        · exact ⟨r, hr, he⟩
        · simp at hr; subst hr; subst he; exact ih.1 h
    · rename_i h
      rw [List.mem_append, ih]
      constructor
      · rintro (⟨r, hr, he⟩ | h1)
        · exact ⟨r, by simp [hr], he⟩
        · simp at h1; exact ⟨x, by simp, h1.symm⟩
      · rintro ⟨r, hr, he⟩
        rcases List.mem_append.1 hr with hr | hr
        · exact .inl ⟨r, hr, he⟩
        · simp at hr; subst hr; exact .inr (by simp [he])
theorem keysOf_nodup (cols : List Int) (l : List Row1) : (keysOf cols l).Nodup := by
  refine snocInd (P := fun l => (keysOf cols l).Nodup) ?_ ?_ l
  · simp [keysOf]
  · intro l x ih
    rw [keysOf_snoc]
    split
    · exact ih
    · rename_i h
      rw [List.nodup_append]
      refine ⟨ih, by simp, ?_⟩
      intro a ha b hb
      simp at hb
      subst hb
      exact fun e => h (e ▸ ha)
theorem keysOf_len (cols : List Int) (l : List Row1) : (keysOf cols l).length ≤ l.length := by
  refine snocInd (P := fun l => (keysOf cols l).length ≤ l.length) ?_ ?_ l
  · simp [keysOf]
  · intro l x ih
    rw [keysOf_snoc]
    split <;> simp <;> omega
theorem inG_ne {cols : List Int} {l : List Row1} {k : Row1} (h : k ∉ keysOf cols l) : inG cols k l = [] := by
  unfold inG
  rw [List.filter_eq_nil_iff]
  intro r hr
  have := fun e => h (mem_keysOf.2 ⟨r, hr, e⟩)
  simpa using this

/-! ### The stable sort keeps the order within a key -/
theorem gIns_filter {cmp : Row1 → Row1 → Int} {S : Row1 → Prop} (C : Cm cmp S) {p : Row1 → Bool} {x : Row1} (hx : S x) (hp : ∀ y, S y → p x = true → p y = true → 0 ≤ cmp x y) : ∀ L : List Row1, (∀ r ∈ L, S r) → GOrd cmp L → (gIns cmp x L).filter p = if p x = true then L.filter p ++ [x] else L.filter p
  | [], _, _ => by
    unfold gIns
    split <;> simp_all
  | y :: ys, hS, ho => by
    unfold GOrd at ho
    rw [List.pairwise_cons] at ho
    have hy := hS y (by simp)
    unfold gIns
    split
    · rename_i hlt
      by_cases hpx : p x = true
      · have hn : (y :: ys).filter p = [] := by
          rw [List.filter_eq_nil_iff]
          intro z hz hpz
          have hSz := hS z hz
          have h0 := hp z hSz hpx hpz
          rcases List.mem_cons.1 hz with rfl | hz
          · omega
          · have h1 := ho.1 z hz
            -- x < y ≤ z
            have h2 := C.trans x y z hx hy hSz (by omega) h1
            have h3 : cmp z x ≤ 0 := by
              have := C.anti z x hSz hx
              have h4 := C.anti x z hx hSz
              omega
            have h5 := C.trans y z x hy hSz hx h1 h3
            have h6 := (C.anti x y hx hy).1 hlt
            omega
        rw [if_pos hpx, hn, List.filter_cons_of_pos hpx, hn]; rfl
      · rw [if_neg hpx, List.filter_cons_of_neg hpx]
    · have ih := gIns_filter C hx hp ys (fun r hr => hS r (by simp [hr])) ho.2
      by_cases hpy : p y = true
      · rw [List.filter_cons_of_pos hpy, ih, List.filter_cons_of_pos hpy]
        split <;> simp
      · rw [List.filter_cons_of_neg hpy, ih, List.filter_cons_of_neg hpy]
theorem gSort_filter {cmp : Row1 → Row1 → Int} {S : Row1 → Prop} (C : Cm cmp S) {p : Row1 → Bool} (hp : ∀ x y, S x → S y → p x = true → p y = true → 0 ≤ cmp x y) (l : List Row1) : (∀ r ∈ l, S r) → (gSort cmp l).filter p = l.filter p := by
  refine snocInd (P := fun l => (∀ r ∈ l, S r) → (gSort cmp l).filter p = l.filter p) ?_ ?_ l
  · intro _; simp [gSort]
  · intro l x ih hS
    have hl : ∀ r ∈ l, S r := fun r hr => hS r (by simp [hr])
    have hx := hS x (by simp)
    rw [gSort_snoc, gIns_filter C hx (fun y hy => hp x y hx hy) _ (fun r hr => hl r ((gSort_perm C hl).mem_iff.1 hr)) (gSort_ord C hl), ih hl, List.filter_append]
    by_cases hpx : p x = true
    · rw [if_pos hpx]; simp [hpx]
    · rw [if_neg hpx]; simp [hpx]

/-! ### Neighbours in the sorted rows -/
def adjN (cols : List Int) (s : List Row1) : Nat → List (List Row1)
  | 0 => []
  | i + 1 => match s[i]? with
    | none => adjN cols s i
    | some r =>
      let gs := if i = 0 ∨ pickR cols (s.getD (i - 1) []) ≠ pickR cols r then adjN cols s i ++ [[]] else adjN cols s i
      gs.set (gs.length - 1) (gs.getD (gs.length - 1) [] ++ [r])
/-- The order by keys. -/
def keyCmp (cols : List Int) (a b : Row1) : Int := rpCmp (pickR cols a) (pickR cols b)
/-- Keys that are valid values. -/
def KeyS (cols : List Int) (r : Row1) : Prop := ∀ x ∈ pickR cols r, vValid x = true
theorem pickR_length (cols : List Int) (r : Row1) : (pickR cols r).length = cols.length := by simp [pickR]
theorem keyCmp_eq {cols : List Int} {a b : Row1} (ha : KeyS cols a) (hb : KeyS cols b) : keyCmp cols a b = rCmp (pickR cols a) (pickR cols b) := rpCmp_eq _ _ (by rw [pickR_length, pickR_length]) ha hb
theorem keyCm (cols : List Int) : Cm (keyCmp cols) (KeyS cols) where
  anti x y hx hy := by
    rw [keyCmp_eq hx hy, keyCmp_eq hy hx, rCmp_anti (a := pickR cols y) (b := pickR cols x) (by rw [pickR_length, pickR_length]) hy hx]
    omega
  trans x y z hx hy hz h1 h2 := by
    rw [keyCmp_eq hx hy] at h1
    rw [keyCmp_eq hy hz] at h2
    rw [keyCmp_eq hx hz]
    exact rCmp_trans (by rw [pickR_length, pickR_length]) (by rw [pickR_length, pickR_length]) hx hy hz h1 h2
theorem keyCmp_zero {cols : List Int} {a b : Row1} (ha : KeyS cols a) (hb : KeyS cols b) : keyCmp cols a b = 0 ↔ pickR cols a = pickR cols b := by
  rw [keyCmp_eq ha hb]; exact rCmp_zero (by rw [pickR_length, pickR_length])
theorem adjN_spec {cols : List Int} {s : List Row1} (hS : ∀ r ∈ s, KeyS cols r) (ho : GOrd (keyCmp cols) s) : ∀ n, n ≤ s.length → adjN cols s n = (keysOf cols (s.take n)).map (fun k => inG cols k (s.take n)) ∧ (0 < n → ∃ ks, keysOf cols (s.take n) = ks ++ [pickR cols (s.getD (n - 1) [])])
  | 0, _ => ⟨by simp [adjN, keysOf], fun h => absurd h (by omega)⟩
  | n + 1, hn => by
    have hlt : n < s.length := by omega
    have hg := List.getElem?_eq_getElem hlt
    obtain ⟨ih, ihl⟩ := adjN_spec hS ho n (by omega)
    obtain ⟨r, hr⟩ : ∃ r, s[n] = r := ⟨_, rfl⟩
    rw [hr] at hg
    have ht : s.take (n + 1) = s.take n ++ [r] := by rw [List.take_add_one, hg]; rfl
    have hrS : KeyS cols r := hS r (hr ▸ List.getElem_mem hlt)
    have hgd : s.getD (n + 1 - 1) [] = r := by rw [List.getD_eq_getElem?_getD, Nat.add_sub_cancel, hg]; rfl
    rw [ht, hgd]
    unfold adjN
    rw [hg]
    dsimp only
    by_cases hc : n = 0 ∨ pickR cols (s.getD (n - 1) []) ≠ pickR cols r
    · have hnew : pickR cols r ∉ keysOf cols (s.take n) := by
        intro hm
        obtain ⟨q, hq, he⟩ := mem_keysOf.1 hm
        rcases hc with rfl | hc
        · simp at hq
        · obtain ⟨j, hj, hjq⟩ := List.getElem_of_mem hq
          have hjn : j < n := by rw [List.length_take] at hj; omega
          rw [List.getElem_take] at hjq
          have hn1 : n - 1 < s.length := by omega
          have hgp : s.getD (n - 1) [] = s[n - 1] := by rw [List.getD_eq_getElem?_getD, List.getElem?_eq_getElem hn1]; rfl
          rw [hgp] at hc
          have hS1 := hS _ (List.getElem_mem hn1)
          have hSj := hS _ (List.getElem_mem (show j < s.length by omega))
          have hp := List.pairwise_iff_getElem.1 ho
          have h2 : keyCmp cols s[n - 1] r ≤ 0 := by rw [← hr]; exact hp (n - 1) n hn1 hlt (by omega)
          by_cases hjn1 : j = n - 1
          · subst hjn1; exact hc (by rw [hjq]; exact he)
          · have h1 : keyCmp cols s[j] s[n - 1] ≤ 0 := hp j (n - 1) (by omega) hn1 (by omega)
            have h0 : keyCmp cols r s[n - 1] ≤ 0 := by
              have : keyCmp cols r s[n - 1] = keyCmp cols s[j] s[n - 1] := by unfold keyCmp; rw [← he, ← hjq]
              omega
            have ha := (keyCm cols).anti s[n - 1] r hS1 hrS
            have hb := (keyCm cols).anti r s[n - 1] hrS hS1
            have hz : keyCmp cols s[n - 1] r = 0 := by omega
            exact hc ((keyCmp_zero hS1 hrS).1 hz)
      rw [if_pos hc, keysOf_snoc, if_neg hnew]
      refine ⟨?_, fun _ => ⟨_, rfl⟩⟩
      rw [ih]
      have hlen : ((keysOf cols (s.take n)).map (fun k => inG cols k (s.take n)) ++ [([] : List Row1)]).length - 1 = ((keysOf cols (s.take n)).map (fun k => inG cols k (s.take n))).length := by simp
      rw [hlen, List.set_append_right _ _ (Nat.le_refl _), Nat.sub_self, List.getD_eq_getElem?_getD, List.getElem?_append_right (Nat.le_refl _), Nat.sub_self, List.map_append]
      congr 1
      · apply List.map_congr_left
        intro k hk
        rw [inG_snoc, if_neg (fun e : pickR cols r = k => hnew (by rw [e]; exact hk))]
      · simp [inG_snoc, inG_ne hnew]
    · have hn0 : 0 < n := by
        rcases Nat.eq_zero_or_pos n with h | h
        · exact absurd (Or.inl h) hc
        · exact h
      have hk : pickR cols (s.getD (n - 1) []) = pickR cols r := Classical.byContradiction fun h => hc (.inr h)
      obtain ⟨ks, hks⟩ := ihl hn0
      rw [hk] at hks
      have hm : pickR cols r ∈ keysOf cols (s.take n) := by rw [hks]; simp
      rw [if_neg hc, keysOf_snoc, if_pos hm]
      refine ⟨?_, fun _ => ⟨ks, hks⟩⟩
      have hnd := keysOf_nodup cols (s.take n)
      rw [ih, hks, List.map_append]
      rw [hks, List.nodup_append] at hnd
      have hlen : (ks.map (fun k => inG cols k (s.take n)) ++ [pickR cols r].map (fun k => inG cols k (s.take n))).length - 1 = (ks.map (fun k => inG cols k (s.take n))).length := by simp
      rw [hlen, List.set_append_right _ _ (Nat.le_refl _), Nat.sub_self, List.getD_eq_getElem?_getD, List.getElem?_append_right (Nat.le_refl _), Nat.sub_self, List.map_append]
      congr 1
      · apply List.map_congr_left
        intro k hk'
        rw [inG_snoc, if_neg (fun e : pickR cols r = k => hnd.2.2 k hk' (pickR cols r) (by simp) e.symm)]
      · simp [inG_snoc]
/-- The rows as the program has them: in the order of the sorted keys. -/
def srtRows (cols : List Int) (col kind : Int) (l : List Row1) : List Row1 := (adjN cols (gSort (keyCmp cols) l) l.length).map fun g => pickR cols (g.headD []) ++ [aggF kind (valG col g)]
theorem perm_nodup : ∀ {a b : List Row1}, a.Nodup → b.Nodup → (∀ x, x ∈ a ↔ x ∈ b) → a.Perm b
  | [], b, _, _, h => by
    cases b with
    | nil => exact List.Perm.refl _
    | cons y ys => exact absurd ((h y).2 (by simp)) (by simp)
  | x :: xs, b, ha, hb, h => by
    have hx : x ∈ b := (h x).1 (by simp)
    rw [List.nodup_cons] at ha
    have he : (b.erase x).Nodup := hb.erase x
    refine (List.Perm.cons x (perm_nodup ha.2 he fun y => ?_)).trans (List.perm_cons_erase hx).symm
    rw [hb.mem_erase_iff]
    constructor
    · intro hy; exact ⟨fun e => ha.1 (e ▸ hy), (h y).1 (by simp [hy])⟩
    · rintro ⟨h1, h2⟩
      rcases List.mem_cons.1 ((h y).2 h2) with rfl | h3
      · exact absurd rfl h1
      · exact h3
theorem grp_perm {cols : List Int} {col kind : Int} {l : List Row1} (hS : ∀ r ∈ l, KeyS cols r) : (srtRows cols col kind l).Perm (grpRows cols col kind l) := by
  have C := keyCm cols
  have hp := gSort_perm C hS
  have hSs : ∀ r ∈ gSort (keyCmp cols) l, KeyS cols r := fun r hr => hS r (hp.mem_iff.1 hr)
  have hl : (gSort (keyCmp cols) l).length = l.length := gSort_length l
  have ha := (adjN_spec hSs (gSort_ord C hS) l.length (by omega)).1
  rw [List.take_of_length_le (by omega)] at ha
  have hf : ∀ k, inG cols k (gSort (keyCmp cols) l) = inG cols k l := fun k => gSort_filter C (fun x y hx hy h1 h2 => by
    simp only [decide_eq_true_eq] at h1 h2
    have := (keyCmp_zero hx hy).2 (h1.trans h2.symm)
    omega) l hS
  have e : srtRows cols col kind l = (keysOf cols (gSort (keyCmp cols) l)).map (grpRow cols col kind l) := by
    unfold srtRows
    rw [ha, List.map_map]
    apply List.map_congr_left
    intro k hk
    show pickR cols ((inG cols k (gSort (keyCmp cols) l)).headD []) ++ [aggF kind (valG col (inG cols k (gSort (keyCmp cols) l)))] = _
    rw [hf k]
    obtain ⟨r, hr, he⟩ := mem_keysOf.1 hk
    have hne : inG cols k l ≠ [] := fun h0 => by
      have : r ∈ inG cols k l := by unfold inG; rw [List.mem_filter]; exact ⟨hp.mem_iff.1 hr, by simpa using he⟩
      rw [h0] at this
      cases this
    cases h : inG cols k l with
    | nil => exact absurd h hne
    | cons q qs =>
      have hq : q ∈ inG cols k l := by rw [h]; simp
      have hqk : pickR cols q = k := by
        unfold inG at hq
        have := (List.mem_filter.1 hq).2
        simpa using this
      unfold grpRow
      rw [h]
      show pickR cols q ++ _ = _
      rw [hqk]
  rw [e]
  unfold grpRows
  refine (perm_nodup (keysOf_nodup _ _) (keysOf_nodup _ _) fun k => ?_).map _
  rw [mem_keysOf, mem_keysOf]
  constructor
  · rintro ⟨r, hr, he⟩; exact ⟨r, hp.mem_iff.1 hr, he⟩
  · rintro ⟨r, hr, he⟩; exact ⟨r, hp.mem_iff.2 hr, he⟩
/-- The rows of groups are valid. -/
theorem grpRow_ok {W : Int} {cols : List Int} {col kind : Int} {l : List Row1} (hr : ∀ r ∈ l, RowOk W r) (hc : ∀ c ∈ cols, 0 ≤ c ∧ c < W) (hcol : 0 ≤ col ∧ col < W) (hl : cols.length < 6) {k : Row1} (hk : k ∈ keysOf cols l) : RowOk (cols.length + 1) (grpRow cols col kind l k) := by
  obtain ⟨r, hrl, rfl⟩ := mem_keysOf.1 hk
  have hval : ∀ q, RowOk W q → ∀ c, 0 ≤ c ∧ c < W → vValid (getV q c) = true := fun q hq c hc => by
    have hlt : c.toNat < q.length := by have := hq.2; omega
    unfold getV
    rw [List.getD_eq_getElem?_getD, List.getElem?_eq_getElem hlt]
    exact hq.vals _ (List.getElem_mem hlt)
  have hlen : (grpRow cols col kind l (pickR cols r)).length = cols.length + 1 := by unfold grpRow; simp [pickR]
  refine ⟨?_, by rw [hlen]; simp⟩
  unfold rowValid
  rw [hlen]
  simp only [Bool.and_eq_true, decide_eq_true_eq, List.all_eq_true]
  refine ⟨⟨by omega, by omega⟩, fun x hx => ?_⟩
  unfold grpRow at hx
  rcases List.mem_append.1 hx with h | h
  · obtain ⟨c, hcm, rfl⟩ := List.mem_map.1 h
    exact hval r (hr r hrl) c (hc c hcm)
  · simp at h
    subst h
    refine aggF_valid fun v hv => ?_
    obtain ⟨q, hq, rfl⟩ := List.mem_map.1 hv
    exact hval q (hr q (List.mem_filter.1 hq).1) col hcol
end Go.Qo

/-
  Contracts of pickCols, picked: the values of a row in some columns. (Printed by wip/grp.py.)
-/
namespace Go.Proofs.YtlhonhacehgooaaGreat
open Go.RowKit Go.Qo
set_option linter.unusedVariables false
set_option linter.unusedSimpArgs false

theorem pickR_take {cols : List Int} {r : Row1} {i : Nat} (h : i < cols.length) : (pickR cols r).take (i + 1) = (pickR cols r).take i ++ [getV r cols[i]] := by
  have hl : i < (pickR cols r).length := by rw [pickR_length]; exact h
  rw [List.take_add_one, List.getElem?_eq_getElem hl]
  simp [pickR]
theorem zeroValG : (Tryz.prog.info? 55).map (fun i => (i.zero, i.size, i.bytes)) = some (some (.agg #[.bool false, .int .i64 0]), 2, 16) := by kernel_rfl

set_option maxHeartbeats 2000000 in
theorem pickCols_ok (A A' : Option Addr) (c c' : Nat) (r : Row1) (cols : List Int) (w : World) (hr : r.length ≤ 6) (hl : cols.length ≤ 6) (hc : ∀ x ∈ cols, 0 ≤ x ∧ x < r.length) (h : Sl 2 valC w w.heap.size A r) (h' : Sl 1 intC w w.heap.size A' cols) :
    Calls Tryz.prog 132 #[.slice A r.length c, .slice A' cols.length c'] w (OneRow (pickR cols r) w) := by
  have HS := Lib.hid (fun (z : World) (hz : Below w.heap.size w z) => And.intro (h.on hz) (h'.on hz))
  have HC := Lib.hid hc
  clear h h' hc
  go_enter Tryz.func132, Tryz.ntmps132
  obtain ⟨W0, hW0⟩ : ∃ z, w.alloc (.cells #[] 55) = z := ⟨_, rfl⟩
  have HB0 := Lib.hid (show Below w.heap.size w W0 by rw [← hW0]; exact balloc (Below.refl _ _) _)
  have HO0 := Lib.hid (show Ow w.heap.size 55 2 valC W0 (.slice (some ⟨w.heap.size, 0, none⟩) 0 0) ([] : List Val) by rw [← hW0]; exact Ow.lit (xs := ([] : List Val)) rfl rfl (Nat.le_refl _) (by decide))
  have HW0 := Lib.hid hW0
  clear hW0
  go_upto_region 2 with fail
  rw [HW0.out]
  go_wp2
  go_loopg [5, 6] cols.length (fun g v iv wr => ∃ i : Nat, i ≤ cols.length ∧ g = cols.length - i ∧ iv = .int .i64 i ∧ Ow w.heap.size 55 2 valC wr v ((pickR cols r).take i) ∧ Below w.heap.size w wr)
  case atStart => exact ⟨0, by omega, by omega, rfl, by rw [List.take_zero]; exact HO0.out, HB0.out⟩
  case round =>
    obtain ⟨i, hi, rfl, rfl, how, hb⟩ := hrel
    have HO := Lib.hid how
    have HB := Lib.hid hb
    have hsb := hb.size
    clear how hb
    by_cases hil : i < cols.length
    · have hiI : (i : Int) < (cols.length : Int) := by omega
      obtain ⟨b1, o1, hA1, hB1, c1⟩ := (HS.out _ HB.out).2.at1 hil
      have hcb := HC.out _ (List.getElem_mem hil)
      have Ht := Lib.hid (pickR_take (r := r) hil)
      generalize cols[i] = k at *
      obtain ⟨k, rfl⟩ := Int.eq_ofNat_of_zero_le hcb.1
      have hkl : k < r.length := by have := hcb.2; omega
      obtain ⟨b2, o2, hA2, hB2, d0, d1⟩ := Val.at_ (HS.out _ HB.out).1 hkl
      have hgv : getV r (k : Int) = r[k] := by unfold getV; rw [Int.toNat_natCast, List.getD_eq_getElem?_getD, List.getElem?_eq_getElem hkl]; rfl
      have Hgv := Lib.hid hgv
      generalize r[k] = v0 at *
      obtain ⟨vn, vv⟩ := v0
      have hkI : (k : Int) < (r.length : Int) := by omega
      have hkI0 : (0 : Int) ≤ (k : Int) := by omega
      subst hA1
      subst hA2
      have hcl : ((pickR cols r).take i).length ≤ 6 := by rw [List.length_take, pickR_length]; omega
      obtain ⟨U, hU⟩ : ∃ z, wr.alloc (.cells #[.bool vn, .int .i64 vv] 55) = z := ⟨_, rfl⟩
      have hub : Below wr.heap.size wr U := by rw [← hU]; exact balloc (Below.refl _ _) _
      have HB5 := Lib.hid (bch HB.out hub)
      have HO5 := Lib.hid (HO.out.on hub)
      have HS5 := Lib.hid (show Sl 2 valC U U.heap.size (some ⟨wr.heap.size, 0, none⟩) [((vn, vv) : Val)] by rw [← hU]; exact Row.sl' (t := 55) valC_length ((Row.new wr _ _).of rfl))
      have hsz6 : w.heap.size ≤ U.heap.size := HB5.out.size
      have HU := Lib.hid hU
      clear hU hub hcb hgv
      go_wp2_with (at_builtin; rw [HU.out]; refine wpList_app rfl (.tmp 14) (.tmp 22) 104 rfl w.heap.size 55 _ 2 16 valC Tryz.underlying104 zeroValG rfl (by decide) (by decide) valC_length valC_one _ _ rfl HO5.out (some ⟨wr.heap.size, 0, none⟩) 1 1 [((vn, vv) : Val)] rfl rfl HS5.out (by simp only [List.length_singleton]; omega) hsz6 ?_; intro v' w' hown hgr)
      go_roundg (cols.length - (i + 1))
      case measure => omega
      case rel => exact ⟨i + 1, by omega, rfl, by go_num, by rw [Ht.out, Hgv.out]; exact hown, HB5.out.grown hgr hsz6 fun k hk => (HO5.out.ty k hk).1⟩
    · have hiI : ¬ (i : Int) < (cols.length : Int) := by omega
      have hte : (pickR cols r).take i = pickR cols r := List.take_of_length_le (by rw [pickR_length]; omega)
      rw [hte] at HO
      go_wp2
      go_ret
      exact ⟨_, rfl, HO.out, HB.out⟩

set_option maxHeartbeats 2000000 in
theorem picked_ok (A A' : Option Addr) (c c' : Nat) (r : Row1) (cols : List Int) (w : World) (hr : r.length ≤ 6) (hl : cols.length ≤ 6) (hc : ∀ x ∈ cols, 0 ≤ x ∧ x < r.length) (h : Sl 2 valC w w.heap.size A r) (h' : Sl 1 intC w w.heap.size A' cols) :
    Calls Tryz.prog 77 #[.slice A r.length c, .slice A' cols.length c'] w (OneRow (pickR cols r) w) := by
  have HS := Lib.hid (fun (z : World) (hz : Below w.heap.size w z) => And.intro (h.on hz) (h'.on hz))
  have HC := Lib.hid hc
  clear h h' hc
  go_enter Tryz.func77, Tryz.ntmps77
  go_wp2
  go_loopg [5, 10] cols.length (fun g v iv wr => ∃ i : Nat, i ≤ cols.length ∧ g = cols.length - i ∧ iv = .int .i64 i ∧ Ow w.heap.size 55 2 valC wr v ((pickR cols r).take i) ∧ Below w.heap.size w wr)
  case atStart => exact ⟨0, by omega, by omega, rfl, by rw [List.take_zero]; exact Ow.nil, Below.refl _ _⟩
  case round =>
    obtain ⟨i, hi, rfl, rfl, how, hb⟩ := hrel
    have HO := Lib.hid how
    have HB := Lib.hid hb
    have hsb := hb.size
    clear how hb
    by_cases hil : i < cols.length
    · have hiI : (i : Int) < (cols.length : Int) := by omega
      obtain ⟨b1, o1, hA1, hB1, c1⟩ := (HS.out _ HB.out).2.at1 hil
      have hcb := HC.out _ (List.getElem_mem hil)
      have Ht := Lib.hid (pickR_take (r := r) hil)
      generalize cols[i] = k at *
      obtain ⟨k, rfl⟩ := Int.eq_ofNat_of_zero_le hcb.1
      have hkl : k < r.length := by have := hcb.2; omega
      obtain ⟨b2, o2, hA2, hB2, d0, d1⟩ := Val.at_ (HS.out _ HB.out).1 hkl
      have hgv : getV r (k : Int) = r[k] := by unfold getV; rw [Int.toNat_natCast, List.getD_eq_getElem?_getD, List.getElem?_eq_getElem hkl]; rfl
      have Hgv := Lib.hid hgv
      generalize r[k] = v0 at *
      obtain ⟨vn, vv⟩ := v0
      have hkI : (k : Int) < (r.length : Int) := by omega
      have hkI0 : (0 : Int) ≤ (k : Int) := by omega
      subst hA1
      subst hA2
      have hcl : ((pickR cols r).take i).length ≤ 6 := by rw [List.length_take, pickR_length]; omega
      obtain ⟨U, hU⟩ : ∃ z, wr.alloc (.cells #[.bool vn, .int .i64 vv] 55) = z := ⟨_, rfl⟩
      have hub : Below wr.heap.size wr U := by rw [← hU]; exact balloc (Below.refl _ _) _
      have HB5 := Lib.hid (bch HB.out hub)
      have HO5 := Lib.hid (HO.out.on hub)
      have HS5 := Lib.hid (show Sl 2 valC U U.heap.size (some ⟨wr.heap.size, 0, none⟩) [((vn, vv) : Val)] by rw [← hU]; exact Row.sl' (t := 55) valC_length ((Row.new wr _ _).of rfl))
      have hsz6 : w.heap.size ≤ U.heap.size := HB5.out.size
      have HU := Lib.hid hU
      clear hU hub hcb hgv
      go_wp2_with (at_builtin; rw [HU.out]; refine wpList_app rfl (.tmp 14) (.tmp 19) 104 rfl w.heap.size 55 _ 2 16 valC Tryz.underlying104 zeroValG rfl (by decide) (by decide) valC_length valC_one _ _ rfl HO5.out (some ⟨wr.heap.size, 0, none⟩) 1 1 [((vn, vv) : Val)] rfl rfl HS5.out (by simp only [List.length_singleton]; omega) hsz6 ?_; intro v' w' hown hgr)
      go_roundg (cols.length - (i + 1))
      case measure => omega
      case rel => exact ⟨i + 1, by omega, rfl, by go_num, by rw [Ht.out, Hgv.out]; exact hown, HB5.out.grown hgr hsz6 fun k hk => (HO5.out.ty k hk).1⟩
    · have hiI : ¬ (i : Int) < (cols.length : Int) := by omega
      have hte : (pickR cols r).take i = pickR cols r := List.take_of_length_le (by rw [pickR_length]; omega)
      rw [hte] at HO
      go_wp2
      go_ret
      exact ⟨_, rfl, HO.out, HB.out⟩
end Go.Proofs.YtlhonhacehgooaaGreat

/-
  Contract of concat of two rows (the reference's), once more where the rest of its text is not wanted.
-/
namespace Go.Proofs.YtlhonhacehgooaaGreat
open Go.RowKit Go.Qo
set_option linter.unusedVariables false
set_option linter.unusedSimpArgs false

set_option maxHeartbeats 1000000 in
theorem grConcat_ok (A A' : Option Addr) (c c' : Nat) (xs ys : List Val) (w : World) (hn : xs.length ≤ 1048576) (hn' : ys.length ≤ 1048576) (h : Sl 2 valC w w.heap.size A xs) (h' : Sl 2 valC w w.heap.size A' ys) :
    Calls Tryz.prog 66 #[.slice A xs.length c, .slice A' ys.length c'] w (OneRow (xs ++ ys) w) := by
  have HC := Lib.hid (copyRow_ok A c xs w hn h)
  have H' := Lib.hid h'
  clear h h'
  go_enter Tryz.func66, Tryz.ntmps66
  go_wp2_with fail
  refine HC.out.mono ?_
  rintro e w1 ⟨v1, rfl, how1, hb1⟩
  obtain ⟨A1, c1, rfl, _, _, _⟩ := how1.shape valC_length
  have HO := Lib.hid (And.intro how1 hb1)
  have S1 := Lib.hid (H'.out.on hb1)
  have hz := hb1.size
  clear how1 hb1
  go_wp2_with (at_builtin; refine wpList_app rfl (.tmp 6) (.tmp 7) 104 rfl w.heap.size 55 _ 2 16 valC Tryz.underlying104 zeroVal rfl (by decide) (by decide) valC_length valC_one _ xs rfl HO.out.1 A' ys.length c' ys rfl rfl S1.out (by omega) hz ?_; intro v2 w2 how2 hgr2)
  go_ret
  exact ⟨_, rfl, how2, HO.out.2.grown hgr2 hz fun b hb => (HO.out.1.ty b hb).1⟩
end Go.Proofs.YtlhonhacehgooaaGreat

/-
  Contract of groupBy: the reference's. (Printed by wip/grb.py.)
-/

namespace Go.Proofs.YtlhonhacehgooaaGreat
open Go.RowKit Go.Qo
set_option linter.unusedVariables false
set_option linter.unusedSimpArgs false

theorem valG_found {cols : List Int} {col : Int} {l : List Row1} {r : Row1} {k : Nat} (hk : (keysOf cols l)[k]? = some (pickR cols r)) : keysOf cols (l ++ [r]) = keysOf cols l ∧ (keysOf cols l).map (fun q => valG col (inG cols q (l ++ [r]))) = ((keysOf cols l).map (fun q => valG col (inG cols q l))).set k (valG col (inG cols (pickR cols r) l) ++ [getV r col]) := by
  have hm := List.mem_of_getElem? hk
  refine ⟨by rw [keysOf_snoc, if_pos hm], ?_⟩
  have hnd := List.pairwise_iff_getElem.1 (keysOf_nodup cols l)
  have hkl := (List.getElem?_eq_some_iff.1 hk).1
  have hke := (List.getElem?_eq_some_iff.1 hk).2
  apply List.ext_getElem (by simp)
  intro j h1 h2
  rw [List.length_map] at h1
  rw [List.getElem_map, List.getElem_set, inG_snoc]
  by_cases hj : k = j
  · subst hj
    rw [if_pos rfl, if_pos hke.symm, hke]; simp [valG]
  · rw [if_neg hj, List.getElem_map, if_neg]
    intro e
    rw [← hke] at e
    rcases Nat.lt_or_gt_of_ne hj with h | h
    · exact hnd k j hkl h1 h e
    · exact hnd j k h1 hkl h e.symm
theorem valG_new {cols : List Int} {col : Int} {l : List Row1} {r : Row1} (h : pickR cols r ∉ keysOf cols l) : keysOf cols (l ++ [r]) = keysOf cols l ++ [pickR cols r] ∧ (keysOf cols l ++ [pickR cols r]).map (fun q => valG col (inG cols q (l ++ [r]))) = ((keysOf cols l).map (fun q => valG col (inG cols q l)) ++ [[]]).set (keysOf cols l).length ([] ++ [getV r col]) := by
  refine ⟨by rw [keysOf_snoc, if_neg h], ?_⟩
  have hl : (keysOf cols l).length = ((keysOf cols l).map (fun q => valG col (inG cols q l))).length := by simp
  rw [List.map_append, hl, List.set_append_right _ _ (Nat.le_refl _), Nat.sub_self]
  congr 1
  · apply List.map_congr_left
    intro q hq
    rw [inG_snoc, if_neg (fun e : pickR cols r = q => h (by rw [e]; exact hq))]
  · simp [inG_snoc, inG_ne h, valG]
/-- One of the slices grows. -/
theorem Cps.app {lo : Nat} {z z' : World} {cp : List SRw} {i : Nat} {p p' : SRw} (h : Cps lo z cp) (hi : cp[i]? = some p) (hg : z.grownBy z' (svB p.1)) (hp' : OwP lo z' p') (hb : svB p'.1 = svB p.1 ∨ svB p'.1 = some z.heap.size) : Cps lo z' (cp.set i p') := by
  have hil := (List.getElem?_eq_some_iff.1 hi).1
  have hie := (List.getElem?_eq_some_iff.1 hi).2
  have hpw := List.pairwise_iff_getElem.1 h.2
  have hap : ∀ j (hj : j < cp.length), j ≠ i → Apart cp[j] p := fun j hj hne => by
    rw [← hie]
    rcases Nat.lt_or_gt_of_ne hne with hlt | hgt
    · exact hpw j i hj hil hlt
    · exact (hpw i j hil hj hgt).symm
  have hkeep : ∀ j (hj : j < cp.length), j ≠ i → OwP lo z' cp[j] := fun j hj hne => by
    have ho := h.1 _ (List.getElem_mem hj)
    exact ⟨ho.1, ho.2.keepOwn fun b hb' => hg.block b (ho.2.ty b hb').2.1 fun e => hap j hj hne b hb' e.symm⟩
  have hap' : ∀ j (hj : j < cp.length), j ≠ i → Apart cp[j] p' := fun j hj hne b h1 h2 => by
    rcases hb with e | e
    · exact hap j hj hne b h1 (e ▸ h2)
    · have := ((h.1 _ (List.getElem_mem hj)).2.ty b h1).2.1
      rw [e] at h2; cases h2; omega
  refine ⟨fun q hq => ?_, ?_⟩
  · obtain ⟨j, hj, rfl⟩ := List.getElem_of_mem hq
    rw [List.length_set] at hj
    rw [List.getElem_set]
    split
    · exact hp'
    · rename_i hne; exact hkeep j hj (Ne.symm hne)
  · rw [List.pairwise_iff_getElem]
    intro a b ha hb' hab
    rw [List.length_set] at ha hb'
    rw [List.getElem_set, List.getElem_set]
    split
    · rename_i e1
      split
      · omega
      · rename_i e2; subst e1; exact (hap' b hb' (fun e => e2 e.symm)).symm
    · rename_i e1
      split
      · exact hap' a ha (fun e => e1 e.symm)
      · exact hpw a b ha hb' hab
/-- Keys and the values of their groups, in memory of the call's own. -/
def GrKs (lo : Nat) (wr : World) (v9 v10 : Value) (cpK cpG : List SRw) (KS GS : List Row1) : Prop := Ow lo 104 1 svC wr v9 (cpK.map (·.1)) ∧ Ow lo 104 1 svC wr v10 (cpG.map (·.1)) ∧ Cps lo wr (cpK ++ cpG) ∧ cpK.map (·.2) = KS ∧ cpG.map (·.2) = GS ∧ ∀ b, v9.ownBlock = some b → v10.ownBlock ≠ some b
theorem GrKs.on {lo : Nat} {w w' : World} {v9 v10 : Value} {cpK cpG : List SRw} {KS GS : List Row1} (h : GrKs lo w v9 v10 cpK cpG KS GS) (hb : Below w.heap.size w w') : GrKs lo w' v9 v10 cpK cpG KS GS := ⟨h.1.on hb, h.2.1.on hb, h.2.2.1.on hb, h.2.2.2⟩
theorem zeroRowG : (Tryz.prog.info? 104).map (fun i => (i.zero, i.size, i.bytes)) = some (some (.slice none 0 0), 1, 24) := by kernel_rfl
def grI (cols : List Int) (col : Int) (l : List Row1) : List Row1 := (keysOf cols l).map (fun k => valG col (inG cols k l))
theorem resGrp {b : Nat} {v0 v1 : Value} (tmps : Array Value) (hp : tmps.getD 8 undef = .pointer (some ⟨b, 0, none⟩)) (w : World) (c0 : w.cell? ⟨b, 0, none⟩ = some v0) (c1 : w.cell? ⟨b, 1, none⟩ = some v1) :
    (results Tryz.f82 tmps).run Tryz.prog w = .ok (.agg #[v0, v1]) w := by
  simp only [Array.getD_eq_getD_getElem?] at hp
  simp [results, Tryz.results82, go_sem, hp, c0, c1]
theorem only_cell {S : Nat → Prop} {x z : World} (k : Only S x z) {b o : Nat} (hb : b < x.heap.size) (hS : ¬ S b) : z.cell? ⟨b, o, none⟩ = x.cell? ⟨b, o, none⟩ := by
  have h := k.block b hb hS
  simp only [World.cell?, h]
set_option maxRecDepth 20000 in
set_option maxHeartbeats 8000000 in
theorem groupBy_ok (W : Int) (A A' : Option Addr) (c c' : Nat) (rows : List Row1) (cols : List Int) (kind col : Int) (w : World) (hT : TabOk W rows) (hl : cols.length < 6) (hc : ∀ x ∈ cols, 0 ≤ x ∧ x < W) (hcol : 0 ≤ col ∧ col < W) (hk : 1 ≤ kind ∧ kind ≤ 5) (h : Rws w w.heap.size A rows) (h' : Sl 1 intC w w.heap.size A' cols) :
    Calls Tryz.prog 82 #[.agg #[.int .i64 W, .slice A rows.length c], .slice A' cols.length c', .int .i64 kind, .int .i64 col] w (TofRes 0 (cols.length + 1) (grpRows cols col kind rows) w) := by
  have hr4 := hT.2.2.1
  have hW6 := hT.2.1
  have HTR := Lib.hid (show ∀ (i : Nat) (hi : i < rows.length), RowOk W rows[i] from fun i hi => hT.row (List.getElem?_eq_getElem hi))
  obtain ⟨cl, rfl⟩ := Int.eq_ofNat_of_zero_le hcol.1
  have hclW : (cl : Int) < W := hcol.2
  obtain ⟨ob, hob⟩ : ∃ n, w.heap.size + 1 = n := ⟨_, rfl⟩
  obtain ⟨kb, hkb⟩ : ∃ n, ob + 1 = n := ⟨_, rfl⟩
  obtain ⟨gb0, hgb⟩ : ∃ n, kb + 1 = n := ⟨_, rfl⟩
  obtain ⟨W1, hW1⟩ : ∃ z, w.alloc (.cells #[.int .i64 W, .slice A rows.length c] 32) = z := ⟨_, rfl⟩
  obtain ⟨W2, hW2⟩ : ∃ z, W1.alloc (.cells #[.int .i64 0, .slice none 0 0] 32) = z := ⟨_, rfl⟩
  obtain ⟨W3, hW3⟩ : ∃ z, W2.alloc (.cells #[] 104) = z := ⟨_, rfl⟩
  obtain ⟨W4, hW4⟩ : ∃ z, W3.alloc (.cells #[] 104) = z := ⟨_, rfl⟩
  have b1 : Below w.heap.size w W1 := by rw [← hW1]; exact balloc (Below.refl _ _) _
  have b2 : Below W1.heap.size W1 W2 := by rw [← hW2]; exact balloc (Below.refl _ _) _
  have b3 : Below W2.heap.size W2 W3 := by rw [← hW3]; exact balloc (Below.refl _ _) _
  have b4 : Below W3.heap.size W3 W4 := by rw [← hW4]; exact balloc (Below.refl _ _) _
  have s1 : W1.heap.size = ob := by rw [← hW1]; simp; omega
  have s2 : W2.heap.size = kb := by rw [← hW2]; simp; omega
  have s3 : W3.heap.size = gb0 := by rw [← hW3]; simp; omega
  have r1 : Row W1 w.heap.size 32 [.int .i64 W, .slice A rows.length c] := by rw [← hW1]; exact Row.new _ _ _
  have r2 : Row W2 ob 32 [.int .i64 0, .slice none 0 0] := by rw [← s1, ← hW2]; exact Row.new _ _ _
  have R1 := Lib.hid (((r1.on b2).on b3).on b4)
  have R2 := Lib.hid ((r2.on b3).on b4)
  have o3 : Ow kb 104 1 svC W3 (.slice (some ⟨kb, 0, none⟩) 0 0) ([] : List SV) := by rw [← s2, ← hW3]; exact Ow.lit (xs := ([] : List SV)) rfl rfl (Nat.le_refl _) (by decide)
  have o4 : Ow kb 104 1 svC W4 (.slice (some ⟨gb0, 0, none⟩) 0 0) ([] : List SV) := by rw [← s3, ← hW4]; exact Ow.lit (xs := ([] : List SV)) rfl rfl (by omega) (by decide)
  have HG4 := Lib.hid (show GrKs kb W4 (.slice (some ⟨kb, 0, none⟩) 0 0) (.slice (some ⟨gb0, 0, none⟩) 0 0) [] [] [] [] from ⟨o3.on b4, o4, Cps.nil, rfl, rfl, fun b hb hb2 => by have e1 : some kb = some b := hb; have e2 : some gb0 = some b := hb2; injection e1; injection e2; omega⟩)
  have HB04 := Lib.hid (bch (bch (bch b1 b2) b3) b4)
  have HS4 := Lib.hid (show kb + 1 ≤ W4.heap.size by have := b4.size; omega)
  have HBW := Lib.hid (fun (z : World) (hz : Only (fun b => kb ≤ b) W4 z) => show Below w.heap.size w z from Only.from_ HB04.out rfl hz fun i hi => by omega)
  have HW1 := Lib.hid hW1
  have HW2 := Lib.hid hW2
  have HW3 := Lib.hid hW3
  have HW4 := Lib.hid hW4
  have HIN := Lib.hid (And.intro h h')
  have HC := Lib.hid hc
  have HKD := Lib.hid hk
  have hwk : w.heap.size + 1 < kb := by omega
  clear hW1 hW2 hW3 hW4 b1 b2 b3 b4 s1 s2 s3 r1 r2 o3 o4 h h' hc hk hcol hT
  go_enter Tryz.func82, Tryz.ntmps82
  go_upto_region 3 with fail
  rw [HW1.out, HW2.out, HW3.out, HW4.out]
  go_wp2
  go_loopg [9, 10, 11] rows.length (fun g v9 v10 iv wr => ∃ (i : Nat) (cpK cpG : List SRw), i ≤ rows.length ∧ g = rows.length - i ∧ iv = .int .i64 i ∧ GrKs kb wr v9 v10 cpK cpG (keysOf cols (rows.take i)) (grI cols cl (rows.take i)) ∧ Only (fun b => kb ≤ b) W4 wr)
  case atStart => exact ⟨0, [], [], by omega, by omega, rfl, HG4.out, Only.refl _⟩
  case round =>
    obtain ⟨wq, hwq⟩ : ∃ z, z = wr := ⟨_, rfl⟩
    subst hwq
    obtain ⟨i, cpK, cpG, hi, rfl, rfl, hgr, hkw⟩ := hrel
    have HK := Lib.hid hkw
    have hkl := keysOf_len cols (rows.take i)
    rw [List.length_take] at hkl
    have hKl : cpK.length = (keysOf cols (rows.take i)).length := by rw [← hgr.2.2.2.1, List.length_map]
    have hGl : cpG.length = (keysOf cols (rows.take i)).length := by
      have := congrArg List.length hgr.2.2.2.2.1
      unfold grI at this
      simpa using this
    obtain ⟨A9, c9, hv9, hc91, hc92, hs9⟩ := hgr.1.shape svC_length
    obtain ⟨A10, c10, hv10, hc101, hc102, hs10⟩ := hgr.2.1.shape svC_length
    rw [List.length_map] at hv9 hv10 hc91 hc101
    subst hv9
    subst hv10
    have hszq : kb + 1 ≤ wq.heap.size := by have := HS4.out; have := hkw.size; omega
    have t1 : wq.cell? ⟨w.heap.size, 1, none⟩ = some (.slice A rows.length c) := (R1.out.only hkw (by omega)).cell 1
    have hnk4 : cpK.length ≤ 400 := by omega
    obtain ⟨nK, hnK⟩ : ∃ n, cpK.length = n := ⟨_, rfl⟩
    have hGn : cpG.length = nK := by omega
    have HNK := Lib.hid (And.intro hnK (And.intro hGn hKl))
    rw [hnK] at hnk4 hc91 hgr
    rw [hGn] at hc101 hgr
    have HG := Lib.hid hgr
    rw [hnK, hGn]
    have hl9 := hs9
    clear hgr hkw hkl hKl hGl hnK hGn hc91 hc101
    by_cases hil : i < rows.length
    · have hiI : (i : Int) < (rows.length : Int) := by omega
      obtain ⟨br, orr, Ar, cr, hA, hBr, ccr, hrc1, hrc2, hrs⟩ := HIN.out.1.at_ hil
      have hro := HTR.out i hil
      have hx := Lib.hid (show rows.take (i + 1) = rows.take i ++ [rows[i]] by rw [List.take_add_one, List.getElem?_eq_getElem hil]; rfl)
      generalize rows[i] = r at *
      have hrl : (r.length : Int) = W := hro.2
      have hclr : cl < r.length := by omega
      obtain ⟨bv, ov, hAv, hBv, v0, v1⟩ := Val.at_ hrs hclr
      have hgv := Lib.hid (show getV r (cl : Int) = r[cl] by unfold getV; rw [Int.toNat_natCast, List.getD_eq_getElem?_getD, List.getElem?_eq_getElem hclr]; rfl)
      generalize r[cl] = vl at *
      obtain ⟨vn, vv⟩ := vl
      have HPK := Lib.hid (fun (z : World) (hz : Below w.heap.size w z) => pickCols_ok Ar A' cr c' r cols z (by omega) (by omega) (fun x hx => by have := HC.out x hx; omega) (hrs.on hz) (HIN.out.2.on hz))
      have hkv : ∀ x ∈ pickR cols r, vValid x = true := fun x hx => by
        obtain ⟨q, hq, rfl⟩ := List.mem_map.1 hx
        have hq2 := HC.out q hq
        have hlt : q.toNat < r.length := by omega
        unfold getV
        rw [List.getD_eq_getElem?_getD, List.getElem?_eq_getElem hlt]
        exact hro.vals _ (List.getElem_mem hlt)
      obtain ⟨key, hkey⟩ : ∃ k, pickR cols r = k := ⟨_, rfl⟩
      have hkeyl : key.length = cols.length := by rw [← hkey, pickR_length]
      rw [hkey] at HPK hkv
      obtain ⟨L, hL⟩ : ∃ n, r.length = n := ⟨_, rfl⟩
      rw [hL] at ccr HPK hrl hclr
      have CE := Lib.hid (fun (z : World) (hz : Below w.heap.size w z) => show z.cell? ⟨br, orr + i, none⟩ = some (.slice Ar L cr) ∧ z.cell? ⟨bv, ov + cl * 2, none⟩ = some (.bool vn) ∧ z.cell? ⟨bv, ov + cl * 2 + 1, none⟩ = some (.int .i64 vv) from ⟨(hz.cell (p := ⟨br, orr + i, none⟩) hBr).trans ccr, (hz.cell (p := ⟨bv, ov + cl * 2, none⟩) hBv).trans v0, (hz.cell (p := ⟨bv, ov + cl * 2 + 1, none⟩) hBv).trans v1⟩)
      have HKEY := Lib.hid (And.intro hkey (And.intro hkeyl (And.intro hkv hro)))
      have hbq := HBW.out _ HK.out
      obtain ⟨e0, _, _⟩ := CE.out _ hbq
      have hBr' : br < wq.heap.size := Nat.lt_of_lt_of_le hBr hbq.size
      have hLI : (cl : Int) < (L : Int) := by omega
      subst hA
      subst hAv
      clear ccr hrc1 hrc2 hrs hro v0 v1 hkey hkv hL hrl
      go_wp2_with fail
      refine (HPK.out _ hbq).mono ?_
      rintro e w6 ⟨v12, rfl, how12, hb6⟩
      obtain ⟨A12, c12, rfl, hc121, hc122, hs12⟩ := how12.shape valC_length
      rw [hkeyl] at how12 hc121
      have hb6q : Only (fun b => kb ≤ b) W4 w6 := HK.out.below hb6
      have HK6 := Lib.hid hb6q
      have HG6 := Lib.hid (HG.out.on hb6)
      have HO12 := Lib.hid how12
      have HS12 := Lib.hid (fun (z : World) (hz : Below w6.heap.size w6 z) => (hs12.on hz).sl)
      have HB6 := Lib.hid hb6
      have hz6 := hb6.size
      have HIX := Lib.hid (fun (z : World) (hz : Below w6.heap.size w6 z) (k : Nat) (hk : k < nK) => show ∃ (gk : Nat) (sk : SV) (rk : Row1), A9 = some ⟨gk, 0, none⟩ ∧ (kb ≤ gk ∧ gk < w6.heap.size) ∧ z.cell? ⟨gk, k, none⟩ = some (.slice sk.A rk.length sk.c) ∧ (keysOf cols (rows.take i))[k]? = some rk ∧ rk.length = cols.length ∧ Sl 2 valC z z.heap.size sk.A rk from by
        have hkc : k < cpK.length := by have := HNK.out.1; omega
        have hpos : 0 < (cpK.map (·.1)).length := by rw [List.length_map]; omega
        obtain ⟨gk, hAg, _, hg1, hg2, _, _, hcs⟩ := HG6.out.1.head svC_length hpos
        have hp := HG6.out.2.2.1.1 cpK[k] (List.mem_append_left _ (List.getElem_mem hkc))
        have hks : (keysOf cols (rows.take i))[k]? = some cpK[k].2 := by rw [← HG6.out.2.2.2.1, List.getElem?_map, List.getElem?_eq_getElem hkc]; rfl
        obtain ⟨q, _, hq⟩ := mem_keysOf.1 (List.mem_of_getElem? hks)
        refine ⟨gk, cpK[k].1, cpK[k].2, hAg, ⟨hg1, hg2⟩, ?_, hks, by rw [← hq, pickR_length], (hp.slT.2.2.sl).on hz⟩
        rw [hz.cell (p := ⟨gk, k, none⟩) hg2]
        have := hcs k (.slice cpK[k].1.A cpK[k].1.n cpK[k].1.c) (by
          have := flat_get 1 svC svC_length (cpK.map (·.1)) k cpK[k].1 0 (.slice cpK[k].1.A cpK[k].1.n cpK[k].1.c) (by rw [List.getElem?_map, List.getElem?_eq_getElem hkc]; rfl) rfl
          simpa using this)
        rw [this, hp.1])
      clear how12 hs12 hb6 hb6q e0 t1 hc121
      go_wp2
      go_loopg [13] nK (fun g kv wr => ∃ k : Nat, k ≤ nK ∧ g = nK - k ∧ kv = .int .i64 k ∧ Below w6.heap.size w6 wr ∧ ∀ j, j < k → (keysOf cols (rows.take i))[j]? ≠ some key)
      case atStart => exact ⟨0, by omega, by omega, rfl, Below.refl _ _, fun j hj => absurd hj (by omega)⟩
      case round =>
        obtain ⟨k, hk, rfl, rfl, hbk, hne⟩ := hrel
        have HBK := Lib.hid hbk
        have HNE := Lib.hid hne
        have hzk := hbk.size
        clear hbk hne
        by_cases hkn : k < nK
        · have hknI : (k : Int) < (nK : Int) := by omega
          obtain ⟨gk, sk, rk, hA9, ⟨hgk1, hgk2⟩, ck, hks, hrkl, hsk⟩ := HIX.out _ HBK.out k hkn
          have hgk3 : gk < wr.heap.size := by omega
          obtain ⟨R, hR⟩ : ∃ R, rCmp rk key = R := ⟨_, rfl⟩
          have hCM := specCompareRows_ok sk.A A12 sk.c c12 rk key wr (by unfold maxLen; omega) (by unfold maxLen; omega) hsk (HS12.out _ HBK.out) R hR
          rw [hrkl, hkeyl] at hCM
          rw [hrkl] at ck
          have HCM := Lib.hid hCM
          have hz : R = 0 ↔ rk = key := by rw [← hR]; exact rCmp_zero (by rw [hrkl, hkeyl])
          have HZ := Lib.hid hz
          have HKS := Lib.hid hks
          subst hA9
          clear hCM hsk hz hks hR hrkl
          by_cases hR0 : R = 0
          · have hrk : rk = key := HZ.out.1 hR0
            have hRI : (R != 0) = false := by simp [hR0]
            subst hrk
            subst hR0
            go_wp2_with fail
            refine HCM.out.mono ?_
            rintro e w8 ⟨rfl, hb8⟩
            have hb68 := bch HBK.out hb8
            have HX := Lib.hid (HK6.out.below hb68)
            have HGx := Lib.hid (HG6.out.on hb68)
            have hkG : k < cpG.length := by have := HNK.out.2.1; omega
            have hkne : ((k : Int) == (nK : Int)) = false := by simp; omega
            have hfin : ∀ gl, cpG[k]?.map Prod.snd = some gl → keysOf cols (rows.take i ++ [r]) = keysOf cols (rows.take i) ∧ (keysOf cols (rows.take i)).map (fun q => valG (cl : Int) (inG cols q (rows.take i ++ [r]))) = (grI cols cl (rows.take i)).set k (gl ++ [(vn, vv)]) := by
              intro gl hgl
              have hks2 : (keysOf cols (rows.take i))[k]? = some (pickR cols r) := by rw [HKS.out, HKEY.out.1]
              have h1 := valG_found (col := (cl : Int)) hks2
              rw [hgv.out] at h1
              have h2 : gl = valG (cl : Int) (inG cols (pickR cols r) (rows.take i)) := by
                rw [← List.getElem?_map, HG.out.2.2.2.2.1] at hgl
                unfold grI at hgl
                rw [List.getElem?_map, hks2] at hgl
                exact (Option.some.inj hgl).symm
              rw [h2]
              exact h1
            have hgs4 : ∀ g ∈ grI cols (cl : Int) (rows.take i), g.length ≤ 400 := fun g hg => by
              obtain ⟨q, _, rfl⟩ := List.mem_map.1 hg
              have := List.length_filter_le (fun r => decide (pickR cols r = q)) (rows.take i)
              unfold valG inG
              rw [List.length_map]
              rw [List.length_take] at this
              omega
            clear hb8 hb68
            have hpk := List.getElem?_eq_getElem hkG
            obtain ⟨⟨⟨gA, gn, gcap⟩, gl⟩, hp⟩ : ∃ p, (cpG)[k] = p := ⟨_, rfl⟩
            rw [hp] at hpk
            have hcp := HGx.out.2.2.1.1 (⟨gA, gn, gcap⟩, gl) (List.mem_append_right _ (List.mem_of_getElem? hpk))
            have hgn : gn = gl.length := hcp.1
            subst hgn
            have HFIN := Lib.hid (show keysOf cols (rows.take i ++ [r]) = keysOf cols (rows.take i) ∧ (keysOf cols (rows.take i)).map (fun q => valG (cl : Int) (inG cols q (rows.take i ++ [r]))) = (grI cols (cl : Int) (rows.take i)).set k (gl ++ [(vn, vv)]) from hfin gl (by have := congrArg (fun o => o.map Prod.snd) hpk; simpa using this))
            have hgl4 : gl.length ≤ 400 := hgs4 gl (by rw [← HGx.out.2.2.2.2.1]; exact List.mem_map.2 ⟨_, List.mem_of_getElem? hpk, rfl⟩)
            have hpos : 0 < ((cpG).map (·.1)).length := by rw [List.length_map]; omega
            obtain ⟨gb, hAg, hnn1, hg1, hg2, hty, _, hcs⟩ := HGx.out.2.1.head svC_length hpos
            subst hAg
            have gc : w8.cell? ⟨gb, k, none⟩ = some (.slice gA gl.length gcap) := hcs k _ (by
              have := flat_get 1 svC svC_length ((cpG).map (·.1)) k ⟨gA, gl.length, gcap⟩ 0 (.slice gA gl.length gcap) (by rw [List.getElem?_map, hpk]; rfl) rfl
              simpa using this)
            have HOG := Lib.hid (show Ow kb 55 2 valC w8 (.slice gA gl.length gcap) gl from hcp.2)
            have HGO := Lib.hid HGx.out.2.1
            have Hne := Lib.hid (show ∀ b, (Value.slice gA gl.length gcap).ownBlock = some b → kb ≤ b ∧ b ≠ gb from fun b hb => ⟨(HOG.out.ty b hb).1, TyAt.ne (HOG.out.ty b hb).2.2 hty (by decide)⟩)
            have SK := Lib.hid (fun (z : World) (hz : Only (fun b => (Value.slice gA gl.length gcap).ownBlock = some b) w8 z) => show z.cell? ⟨w.heap.size, 1, none⟩ = some (.slice (some ⟨br, orr, none⟩) rows.length c) ∧ z.cell? ⟨br, orr + i, none⟩ = some (.slice (some ⟨bv, ov, none⟩) L cr) ∧ z.cell? ⟨bv, ov + cl * 2, none⟩ = some (.bool vn) ∧ z.cell? ⟨bv, ov + cl * 2 + 1, none⟩ = some (.int .i64 vv) ∧ z.cell? ⟨gb, k, none⟩ = some (.slice gA gl.length gcap) from by
              have hw : Only (fun b => kb ≤ b) W4 z := HX.out.trans (hz.mono fun q _ hq => (Hne.out q hq).1)
              obtain ⟨q0, q1, q2⟩ := CE.out z (HBW.out z hw)
              exact ⟨(R1.out.only hw (by omega)).cell 1, q0, q1, q2, (only_cell hz hg2 fun h => (Hne.out gb h).2 rfl).trans gc⟩)
            have Hkx := Lib.hid (show kb ≤ (w8.heap.size) by have := HX.out.size; have := HS4.out; omega)
            have Hpk := Lib.hid hpk
            have Hkg := Lib.hid hkG
            have Hgb := Lib.hid hg1
            have Hpos := Lib.hid hpos
            have hkGI : (k : Int) < (nK : Int) := by omega
            clear hpk hp hcp hgs4 hfin hpos hg1 hty hcs gc hnn1
            go_upto_region 13 with fail
            obtain ⟨u0, hu0⟩ : ∃ z, w8.drew = z := ⟨_, rfl⟩
            have Bx0 := Lib.hid (show Below w8.heap.size w8 u0 from hu0 ▸ (Below.refl _ _).drew)
            have Hu0 := Lib.hid hu0
            clear hu0
            refine wp_region_g 17 (fun z => z.cell? ⟨w.heap.size, 1, none⟩ = some (.slice (some ⟨br, orr, none⟩) rows.length c) ∧ z.cell? ⟨br, orr + i, none⟩ = some (.slice (some ⟨bv, ov, none⟩) L cr) ∧ z.cell? ⟨bv, ov + cl * 2, none⟩ = some (.bool vn) ∧ z.cell? ⟨bv, ov + cl * 2 + 1, none⟩ = some (.int .i64 vv) ∧ z.cell? ⟨gb, k, none⟩ = some (.slice gA gl.length gcap)) (by kernel_rfl) ?_ (fun hHeld => ?_)
            · exact SK.out _ (Only.refl _).drew
            rw [Hu0.out] at hHeld ⊢
            refine takeG (i := 0) (v := ?v1) rfl (by kernel_rfl) (by kernel_rfl) (by kernel_rfl) (by kernel_rfl) (fun _ _ _ h => h) (Or.inl ⟨by rfl, ?hy1⟩) (by assumption) ?_
            case hy1 => ((intro w' hSw; (try dsimp only at hSw); go_simp) <;> with_reducible rfl)
            try simp only [Act.put, List.setIfInBounds_toArray, List.set_cons_zero, List.set_cons_succ]
            refine takeG (i := 1) (v := ?v2) rfl (by kernel_rfl) (by kernel_rfl) (by kernel_rfl) (by kernel_rfl) (fun _ _ _ h => h) (Or.inl ⟨by rfl, ?hy2⟩) (by assumption) ?_
            case hy2 => ((intro w' hSw; (try dsimp only at hSw); go_simp) <;> with_reducible rfl)
            try simp only [Act.put, List.setIfInBounds_toArray, List.set_cons_zero, List.set_cons_succ]
            refine takeG (i := 2) (v := ?v3) rfl (by kernel_rfl) (by kernel_rfl) (by kernel_rfl) (by kernel_rfl) (fun _ _ _ h => h) (Or.inl ⟨by rfl, ?hy3⟩) (by assumption) ?_
            case hy3 => ((intro w' hSw; (try dsimp only at hSw); go_simp) <;> with_reducible rfl)
            try simp only [Act.put, List.setIfInBounds_toArray, List.set_cons_zero, List.set_cons_succ]
            refine takeG (i := 3) (v := ?v4) rfl (by kernel_rfl) (by kernel_rfl) (by kernel_rfl) (by kernel_rfl) (fun _ _ _ h => h) (Or.inl ⟨by rfl, ?hy4⟩) (by assumption) ?_
            case hy4 => ((intro w' hSw; (try dsimp only at hSw); go_simp) <;> with_reducible rfl)
            try simp only [Act.put, List.setIfInBounds_toArray, List.set_cons_zero, List.set_cons_succ]
            refine takeG (i := 4) (v := ?v5) rfl (by kernel_rfl) (by kernel_rfl) (by kernel_rfl) (by kernel_rfl) (fun _ _ _ h => h) (Or.inl ⟨by rfl, ?hy5⟩) (by assumption) ?_
            case hy5 => ((intro w' hSw; (try dsimp only at hSw); go_simp) <;> with_reducible rfl)
            try simp only [Act.put, List.setIfInBounds_toArray, List.set_cons_zero, List.set_cons_succ]
            refine takeG (i := 5) (v := ?v6) rfl (by kernel_rfl) (by kernel_rfl) (by kernel_rfl) (by kernel_rfl) (fun _ _ _ h => h) (Or.inl ⟨by rfl, ?hy6⟩) (by assumption) ?_
            case hy6 => ((intro w' hSw; (try dsimp only at hSw); go_simp) <;> with_reducible rfl)
            try simp only [Act.put, List.setIfInBounds_toArray, List.set_cons_zero, List.set_cons_succ]
            refine takeG (i := 6) (v := ?v7) rfl (by kernel_rfl) (by kernel_rfl) (by kernel_rfl) (by kernel_rfl) (fun _ _ _ h => h) (Or.inl ⟨by rfl, ?hy7⟩) (by assumption) ?_
            case hy7 => ((intro w' hSw; (try dsimp only at hSw); go_simp) <;> with_reducible rfl)
            try simp only [Act.put, List.setIfInBounds_toArray, List.set_cons_zero, List.set_cons_succ]
            refine takeG (i := 7) (v := ?v8) rfl (by kernel_rfl) (by kernel_rfl) (by kernel_rfl) (by kernel_rfl) (fun _ _ _ h => h) (Or.inl ⟨by rfl, ?hy8⟩) (by assumption) ?_
            case hy8 => ((intro w' hSw; (try dsimp only at hSw); go_simp) <;> with_reducible rfl)
            try simp only [Act.put, List.setIfInBounds_toArray, List.set_cons_zero, List.set_cons_succ]
            refine takeG (i := 8) (v := ?v9) rfl (by kernel_rfl) (by kernel_rfl) (by kernel_rfl) (by kernel_rfl) (fun _ _ _ h => h) (Or.inl ⟨by rfl, ?hy9⟩) (by assumption) ?_
            case hy9 => ((intro w' hSw; (try dsimp only at hSw); go_simp) <;> with_reducible rfl)
            try simp only [Act.put, List.setIfInBounds_toArray, List.set_cons_zero, List.set_cons_succ]
            refine takeG (i := 9) (v := ?v10) rfl (by kernel_rfl) (by kernel_rfl) (by kernel_rfl) (by kernel_rfl) (fun _ _ _ h => h) (Or.inl ⟨by rfl, ?hy10⟩) (by assumption) ?_
            case hy10 => ((intro w' hSw; (try dsimp only at hSw); go_simp) <;> with_reducible rfl)
            try simp only [Act.put, List.setIfInBounds_toArray, List.set_cons_zero, List.set_cons_succ]
            refine takeG (i := 10) (v := ?v11) rfl (by kernel_rfl) (by kernel_rfl) (by kernel_rfl) (by kernel_rfl) (fun _ _ _ h => h) (Or.inl ⟨by rfl, ?hy11⟩) (by assumption) ?_
            case hy11 => ((intro w' hSw; (try dsimp only at hSw); go_simp) <;> with_reducible rfl)
            try simp only [Act.put, List.setIfInBounds_toArray, List.set_cons_zero, List.set_cons_succ]
            refine takeG (i := 11) (v := ?v12) rfl (by kernel_rfl) (by kernel_rfl) (by kernel_rfl) (by kernel_rfl) (fun _ _ _ h => h) (Or.inl ⟨by rfl, ?hy12⟩) (by assumption) ?_
            case hy12 => ((intro w' hSw; (try dsimp only at hSw); go_simp) <;> with_reducible rfl)
            try simp only [Act.put, List.setIfInBounds_toArray, List.set_cons_zero, List.set_cons_succ]
            refine takeG (i := 12) (v := ?v13) rfl (by kernel_rfl) (by kernel_rfl) (by kernel_rfl) (by kernel_rfl) (fun _ _ _ h => h) (Or.inl ⟨by rfl, ?hy13⟩) (by assumption) ?_
            case hy13 => ((intro w' hSw; (try dsimp only at hSw); go_simp) <;> with_reducible rfl)
            try simp only [Act.put, List.setIfInBounds_toArray, List.set_cons_zero, List.set_cons_succ]
            refine takeG (i := 13) (v := ?v14) rfl (by kernel_rfl) (by kernel_rfl) (by kernel_rfl) (by kernel_rfl) (fun _ _ _ h => h) (Or.inl ⟨by rfl, ?hy14⟩) (by assumption) ?_
            case hy14 => ((intro w' hSw; (try dsimp only at hSw); go_simp) <;> with_reducible rfl)
            try simp only [Act.put, List.setIfInBounds_toArray, List.set_cons_zero, List.set_cons_succ]
            refine wpAnyG_ready (rs := [14]) (by kernel_rfl) (by simp) ?_
            refine readyG rfl (fun K hK => ?_) AllReadyG.nil
            obtain ⟨u1, hu1⟩ : ∃ z, u0.alloc (.cells #[.bool vn, .int .i64 vv] 55) = z := ⟨_, rfl⟩
            have b1 : Below u0.heap.size u0 u1 := by rw [← hu1]; exact balloc (Below.refl _ _) _
            have Bx1 := Lib.hid (bch Bx0.out b1)
            have HS1 := Lib.hid (show Sl 2 valC u1 u1.heap.size (some ⟨u0.heap.size, 0, none⟩) [((vn, vv) : Val)] by rw [← hu1]; exact Row.sl' (t := 55) valC_length ((Row.new u0 _ _).of rfl))
            have HO1 := Lib.hid (HOG.out.on Bx1.out)
            have hlo1 : kb ≤ u1.heap.size := Nat.le_trans Hkx.out Bx1.out.size
            go_simp
            (try rw [hu1])
            have Hu1 := Lib.hid hu1
            clear hu1 b1
            refine hK.out _ _ ?hS15 (fun hHeld => ?_)
            case hS15 => exact fun _ => SK.out _ (only_below Bx1.out)
            replace hHeld := hHeld (by decide)
            clear hK K
            try simp only [Act.put, List.setIfInBounds_toArray, List.set_cons_zero, List.set_cons_succ]
            refine wpAnyG_ready (rs := [15]) (by kernel_rfl) (by simp) ?_
            refine readyG rfl (fun K hK => ?_) AllReadyG.nil
            refine step_app2 rfl (.tmp 64) (.tmp 73) 104 rfl kb 55 _ 2 16 valC Tryz.underlying104 zeroValG rfl (by decide) (by decide) valC_length valC_one (.slice gA gl.length gcap) gl rfl HO1.out (some ⟨u0.heap.size, 0, none⟩) 1 1 [((vn, vv) : Val)] rfl rfl HS1.out (by simp only [List.length_singleton]; omega) hlo1 ?_
            intro v2 u2 hown2 hgr2 hob2
            obtain ⟨A2, c2, rfl, hc21, hc22, _⟩ := hown2.shape valC_length
            have hln : (gl ++ [((vn, vv) : Val)]).length = gl.length + 1 := by simp
            rw [hln] at hown2 hob2 ⊢
            have hbx : Only (fun b => (Value.slice gA gl.length gcap).ownBlock = some b) w8 u2 := (only_below Bx1.out).grown hgr2 fun q e => .inl e
            have hG2 := HGO.out.apart2 hbx (fun b hb hS => by have e : some gb = some b := hb; injection e with e; subst e; exact (Hne.out _ hS).2 rfl)
            obtain ⟨gq, hAq, hnn2, _, glt, hty2, hfz, _⟩ := hG2.head svC_length Hpos.out
            clear hnn2
            cases hAq
            have fz := hfz k
            have gc2 := (SK.out _ hbx).2.2.2.2
            have HK2 := Lib.hid (And.intro hown2 (And.intro hgr2 hob2))
            have HB2 := Lib.hid (And.intro hbx (And.intro hG2 hty2))
            clear hown2 hgr2 hob2 hc21 hc22 hbx hln hG2 hty2 hfz
            refine hK.out _ _ ?hS16 (fun hHeld => ?_)
            case hS16 => exact fun _ => SK.out _ HB2.out.1
            replace hHeld := hHeld (by decide)
            clear hK K
            try simp only [Act.put, List.setIfInBounds_toArray, List.set_cons_zero, List.set_cons_succ]
            refine takeG (i := 16) (v := ?v17) rfl (by kernel_rfl) (by kernel_rfl) (by kernel_rfl) (by kernel_rfl) (fun _ _ _ h => h) (Or.inl ⟨by rfl, ?hy17⟩) (by assumption) ?_
            case hy17 => ((intro w' hSw; (try dsimp only at hSw); go_simp) <;> with_reducible rfl)
            try simp only [Act.put, List.setIfInBounds_toArray, List.set_cons_zero, List.set_cons_succ]
            refine wpAnyG_ready (rs := [17]) (by kernel_rfl) (by simp) ?_
            refine readyG rfl (fun K hK => ?_) AllReadyG.nil
            go_simp
            refine hK.out _ _ ?hS18 (fun hHeld => ?_)
            case hS18 => exact fun h => absurd rfl h
            clear hK K
            try simp only [Act.put, List.setIfInBounds_toArray, List.set_cons_zero, List.set_cons_succ]
            refine wpAnyG_done (by kernel_rfl) ?_ _
            clear gc2 fz glt
            go_wp2
            go_roundg (rows.length - (i + 1))
            case measure => omega
            case rel =>
              obtain ⟨hown2, hgr2, hob2⟩ := HK2.out
              obtain ⟨hbx, hG2, hty2⟩ := HB2.out
              have hst := hG2.put k (.slice A2 (gl.length + 1) c2)
              rw [flat_setS _ k ⟨A2, gl.length + 1, c2⟩ (by rw [List.length_map]; exact Hkg.out)] at hst
              have hcp1 := HGx.out.2.2.1.on Bx1.out
              have hix : ((cpK) ++ (cpG))[(cpK).length + k]? = some ((⟨gA, gl.length, gcap⟩, gl) : SRw) := by rw [List.getElem?_append_right (Nat.le_add_right _ _), Nat.add_sub_cancel_left]; exact Hpk.out
              have hcp2 := Cps.app hcp1 hix hgr2 (p' := (⟨A2, gl.length + 1, c2⟩, gl ++ [(vn, vv)])) ⟨by simp, hown2⟩ hob2
              rw [List.set_append_right _ _ (Nat.le_add_right _ _), Nat.add_sub_cancel_left] at hcp2
              have k3 : Only (fun b => b = gb) u2 (u2.setCell ⟨gb, k, none⟩ (.slice A2 (gl.length + 1) c2)) := Only.set (S := fun b => b = gb) (p := ⟨gb, k, none⟩) (Only.refl u2) (.inl rfl) _
              obtain ⟨hf1, hf2⟩ := HFIN.out
              refine ⟨i + 1, cpK, (cpG).set k (⟨A2, gl.length + 1, c2⟩, gl ++ [(vn, vv)]), by omega, rfl, by go_num, ⟨?_, ?_, hcp2.only k3 fun b hb => .inr ⟨104, by decide, by have hb : b = gb := hb; rw [hb]; exact hty2⟩, ?_, ?_, HGx.out.2.2.2.2.2⟩, (HX.out.trans (hbx.mono fun q _ hq => (Hne.out q hq).1)).trans (k3.mono fun q _ hq => by have hq : q = gb := hq; rw [hq]; exact Hgb.out)⟩
              · exact (HGx.out.1.apart2 hbx fun b hb hS => TyAt.ne (HGx.out.1.ty b hb).2.2 (HOG.out.ty b hS).2.2 (by decide) rfl).apart2 k3 fun b hb e => HGx.out.2.2.2.2.2 b hb (by have e : b = gb := e; rw [e]; rfl)
              · unfold Ow
                rw [List.length_map, List.length_set, List.map_set]
                rw [List.length_map] at hst
                exact hst
              · rw [hx.out, hf1]; exact HGx.out.2.2.2.1
              · rw [List.map_set, HGx.out.2.2.2.2.1, hx.out]
                show (grI cols (cl : Int) (rows.take i)).set k (gl ++ [(vn, vv)]) = (keysOf cols (rows.take i ++ [r])).map fun q => valG (cl : Int) (inG cols q (rows.take i ++ [r]))
                rw [hf1]
                exact hf2.symm
          · have hRI : (R != 0) = true := by simp [hR0]
            have hrk : rk ≠ key := fun e => hR0 (HZ.out.2 e)
            clear hR0
            go_wp2_with fail
            refine HCM.out.mono ?_
            rintro e w8 ⟨rfl, hb8⟩
            have H8 := Lib.hid (bch HBK.out hb8)
            clear hb8
            go_wp2
            go_roundg (nK - (k + 1))
            case measure => omega
            case rel => exact ⟨k + 1, by omega, rfl, by go_num, H8.out, fun j hj => by
              by_cases hjk : j = k
              · subst hjk; rw [HKS.out]; exact fun e => hrk (Option.some.inj e)
              · exact HNE.out j (by omega)⟩
        · have hkK : k = nK := by omega
          subst hkK
          have hnew : key ∉ keysOf cols (rows.take i) := fun hm => by
            obtain ⟨j, hj, hje⟩ := List.getElem_of_mem hm
            have hjk : j < k := by have h1 := HNK.out.1; have h2 := HNK.out.2.2; omega
            exact HNE.out j hjk (by rw [List.getElem?_eq_getElem hj, hje])
          have HNW := Lib.hid hnew
          have hkeyn : key.length = cols.length := hkeyl
          obtain ⟨P1, hP1⟩ : ∃ z, wr.alloc (.cells #[.slice A12 cols.length c12] 104) = z := ⟨_, rfl⟩
          have p1 : Below wr.heap.size wr P1 := by rw [← hP1]; exact balloc (Below.refl _ _) _
          have HG1 := Lib.hid (HG6.out.on (bch HBK.out p1))
          have HS1 := Lib.hid (show Sl 1 svC P1 P1.heap.size (some ⟨wr.heap.size, 0, none⟩) [(⟨A12, cols.length, c12⟩ : SV)] by rw [← hP1]; exact Row.sl' (t := 104) svC_length ((Row.new wr _ _).of rfl))
          have HBP1 := Lib.hid (bch HBK.out p1)
          have hkP1 : kb ≤ P1.heap.size := by have := p1.size; omega
          have hmK : (cpK.map (·.1)).length ≤ 400 := by rw [List.length_map, HNK.out.1]; exact hnk4
          have HP1 := Lib.hid hP1
          clear hP1 p1 hnew
          go_upto_region 12 with (at_builtin; rw [HP1.out]; refine wpList_app2 rfl (.tmp 51) (.tmp 53) 30 rfl kb 104 _ 1 24 svC Tryz.underlying30 zeroRowG rfl (by decide) (by decide) svC_length svC_one (.slice A9 k c9) (cpK.map (·.1)) rfl HG1.out.1 (some ⟨wr.heap.size, 0, none⟩) 1 1 [(⟨A12, cols.length, c12⟩ : SV)] rfl rfl HS1.out (by simp only [List.length_singleton]; omega) hkP1 ?_; intro v1 w1 hown1 hgr1 hob1)
          obtain ⟨P2, hP2⟩ : ∃ z, w1.alloc (.cells #[] 55) = z := ⟨_, rfl⟩
          obtain ⟨P3, hP3⟩ : ∃ z, P2.alloc (.cells #[.slice (some ⟨w1.heap.size, 0, none⟩) 0 0] 104) = z := ⟨_, rfl⟩
          have p2 : Below w1.heap.size w1 P2 := by rw [← hP2]; exact balloc (Below.refl _ _) _
          have p3 : Below P2.heap.size P2 P3 := by rw [← hP3]; exact balloc (Below.refl _ _) _
          have ho9 : Only (fun b => (Value.slice A9 k c9).ownBlock = some b) P1 w1 := (Only.refl P1).grown hgr1 fun q e => .inl e
          have hv10 := (HG1.out.2.1.apart2 ho9 fun b hb hS => HG1.out.2.2.2.2.2 b hS hb).on (bch p2 p3)
          have hcp1 := HG1.out.2.2.1.grown hgr1 fun b hb => ⟨104, by decide, (HG1.out.1.ty b hb).2.2⟩
          have ho12 : OwP wq.heap.size w1 (⟨A12, cols.length, c12⟩, key) := ⟨hkeyn.symm, (HO12.out.on HBP1.out).keep fun b _ hl ht => hgr1.block b hl fun e => (TyAt.ne ht (HG1.out.1.ty b e.symm).2.2 (by decide)) rfl⟩
          have hcpA := Cps.snoc HG.out.2.2.1 hcp1 (by omega) ho12
          have ho0 : OwP w1.heap.size P3 (⟨some ⟨w1.heap.size, 0, none⟩, 0, 0⟩, []) := ⟨rfl, (show Ow w1.heap.size 55 2 valC P2 (.slice (some ⟨w1.heap.size, 0, none⟩) 0 0) ([] : List Val) by rw [← hP2]; exact Ow.lit (xs := ([] : List Val)) rfl rfl (Nat.le_refl _) (by decide)).on p3⟩
          have hP1w : P1.heap.size ≤ w1.heap.size := hgr1.size
          have hcpB := Cps.snoc hcpA (hcpA.on (bch p2 p3)) (by omega) ho0
          have hap1 : ∀ b, v1.ownBlock = some b → (Value.slice A10 k c10).ownBlock ≠ some b := fun b hb e => by
            rcases hob1 with h1 | h1
            · exact HG1.out.2.2.2.2.2 b (h1 ▸ hb) e
            · have := (HG1.out.2.1.ty b e).2.1
              rw [h1] at hb
              cases hb
              omega
          have HV10 := Lib.hid hv10
          have HV9 := Lib.hid (hown1.on (bch p2 p3))
          have HCP := Lib.hid hcpB
          have HAP1 := Lib.hid hap1
          have hkX1 : Only (fun b => kb ≤ b) W4 P3 := ((HK6.out.below HBP1.out).trans (ho9.mono fun q _ hq => (HG1.out.1.ty q hq).1)).below (bch p2 p3)
          have HX1 := Lib.hid hkX1
          have HS2 := Lib.hid (show Sl 1 svC P3 P3.heap.size (some ⟨w1.heap.size + 1, 0, none⟩) [(⟨some ⟨w1.heap.size, 0, none⟩, 0, 0⟩ : SV)] by rw [show w1.heap.size + 1 = P2.heap.size by rw [← hP2]; simp, ← hP3]; exact Row.sl' (t := 104) svC_length ((Row.new P2 _ _).of rfl))
          have hkP3 : kb ≤ P3.heap.size := by have := p2.size; have := p3.size; omega
          have hmG : (cpG.map (·.1)).length ≤ 400 := by rw [List.length_map, HNK.out.2.1]; exact hnk4
          have HP2 := Lib.hid hP2
          have HP3 := Lib.hid hP3
          obtain ⟨A91, c91, hv1, hc911, hc912, _⟩ := hown1.shape svC_length
          have hl91 : (cpK.map (·.1) ++ [(⟨A12, cols.length, c12⟩ : SV)]).length = k + 1 := by rw [List.length_append, List.length_map, HNK.out.1]; rfl
          rw [hl91] at hv1
          obtain ⟨nG, hnG⟩ : ∃ n, k + 1 = n := ⟨_, rfl⟩
          rw [hnG] at hv1
          subst hv1
          have HN := Lib.hid hnG
          clear hP2 hP3 p2 p3 ho9 hv10 hcp1 ho12 hcpA ho0 hcpB hap1 hkX1 hown1 hgr1 hob1 hl91 hnG hP1w hc911
          go_upto_region 13 with (at_builtin; rw [HP2.out, HP3.out]; refine wpList_app2 rfl (.tmp 55) (.tmp 57) 30 rfl kb 104 _ 1 24 svC Tryz.underlying30 zeroRowG rfl (by decide) (by decide) svC_length svC_one (.slice A10 k c10) (cpG.map (·.1)) rfl HV10.out (some ⟨w1.heap.size + 1, 0, none⟩) 1 1 [(⟨some ⟨w1.heap.size, 0, none⟩, 0, 0⟩ : SV)] rfl rfl HS2.out (by simp only [List.length_singleton]; omega) hkP3 ?_; intro v2 w2 hown2 hgr2 hob2)
          obtain ⟨A92, c92, hv2, hc921, hc922, _⟩ := hown2.shape svC_length
          have hl92 : (cpG.map (·.1) ++ [(⟨some ⟨w1.heap.size, 0, none⟩, 0, 0⟩ : SV)]).length = nG := by rw [List.length_append, List.length_map, HNK.out.2.1]; exact HN.out
          rw [hl92] at hv2
          subst hv2
          have ho10 : Only (fun b => (Value.slice A10 k c10).ownBlock = some b) P3 w2 := (Only.refl P3).grown hgr2 fun q e => .inl e
          have HX := Lib.hid (HX1.out.trans (ho10.mono fun q _ hq => (HV10.out.ty q hq).1))
          have hcp2 := HCP.out.grown hgr2 fun b hb => ⟨104, by decide, (HV10.out.ty b hb).2.2⟩
          have HGx := Lib.hid (show GrKs kb w2 (.slice A91 nG c91) (.slice A92 nG c92) (cpK ++ [(⟨A12, cols.length, c12⟩, key)]) (cpG ++ [(⟨some ⟨w1.heap.size, 0, none⟩, 0, 0⟩, [])]) (keysOf cols (rows.take i) ++ [key]) (grI cols cl (rows.take i) ++ [[]]) from
            ⟨by rw [List.map_append]; exact HV9.out.apart2 ho10 fun b hb hS => HAP1.out b hb hS, by rw [List.map_append]; exact hown2, hcp2.perm (by
              have e1 : (cpK ++ [((⟨A12, cols.length, c12⟩, key) : SRw)]) ++ (cpG ++ [((⟨some ⟨w1.heap.size, 0, none⟩, 0, 0⟩, []) : SRw)]) = cpK ++ ([((⟨A12, cols.length, c12⟩, key) : SRw)] ++ cpG) ++ [((⟨some ⟨w1.heap.size, 0, none⟩, 0, 0⟩, []) : SRw)] := by simp
              rw [e1]
              refine List.Perm.append_right _ ?_
              rw [List.append_assoc]
              exact List.Perm.append_left _ List.perm_append_comm), by rw [List.map_append, HG1.out.2.2.2.1]; rfl, by rw [List.map_append, HG1.out.2.2.2.2.1]; rfl, fun b hb e => by
              rcases hob2 with h1 | h1
              · exact HAP1.out b hb (h1 ▸ e)
              · have := (HV9.out.ty b hb).2.1
                rw [h1] at e
                cases e
                omega⟩)
          have hkG : k < (cpG ++ [((⟨some ⟨w1.heap.size, 0, none⟩, 0, 0⟩, []) : SRw)]).length := by rw [List.length_append, HNK.out.2.1]; exact Nat.lt_succ_self _
          have hkn : k < nG := by have := HN.out; omega
          have hfin : ∀ gl, (cpG ++ [((⟨some ⟨w1.heap.size, 0, none⟩, 0, 0⟩, []) : SRw)])[k]?.map Prod.snd = some gl → keysOf cols (rows.take i ++ [r]) = keysOf cols (rows.take i) ++ [key] ∧ (keysOf cols (rows.take i) ++ [key]).map (fun q => valG (cl : Int) (inG cols q (rows.take i ++ [r]))) = (grI cols cl (rows.take i) ++ [[]]).set k (gl ++ [(vn, vv)]) := by
            intro gl hgl
            have hkl : k = (keysOf cols (rows.take i)).length := by have h1 := HNK.out.1; have h2 := HNK.out.2.2; omega
            have hgl0 : gl = [] := by
              rw [List.getElem?_append_right (by have := HNK.out.2.1; omega), HNK.out.2.1, Nat.sub_self] at hgl
              exact (Option.some.inj hgl).symm
            subst hgl0
            have h1 := valG_new (col := (cl : Int)) (l := rows.take i) (r := r) (cols := cols) (by rw [HKEY.out.1]; exact HNW.out)
            rw [HKEY.out.1, hgv.out, ← hkl] at h1
            exact h1
          have hgs4 : ∀ g ∈ grI cols (cl : Int) (rows.take i) ++ [[]], g.length ≤ 400 := fun g hg => by
            rcases List.mem_append.1 hg with hg | hg
            · obtain ⟨q, _, rfl⟩ := List.mem_map.1 hg
              have := List.length_filter_le (fun r => decide (pickR cols r = q)) (rows.take i)
              unfold valG inG
              rw [List.length_map]
              rw [List.length_take] at this
              omega
            · simp at hg; subst hg; simp
          clear hown2 hgr2 hob2 hcp2 ho10 hl92 hc921 hc922
          have hpk := List.getElem?_eq_getElem hkG
          obtain ⟨⟨⟨gA, gn, gcap⟩, gl⟩, hp⟩ : ∃ p, (cpG ++ [((⟨some ⟨w1.heap.size, 0, none⟩, 0, 0⟩, []) : SRw)])[k] = p := ⟨_, rfl⟩
          rw [hp] at hpk
          have hcp := HGx.out.2.2.1.1 (⟨gA, gn, gcap⟩, gl) (List.mem_append_right _ (List.mem_of_getElem? hpk))
          have hgn : gn = gl.length := hcp.1
          subst hgn
          have HFIN := Lib.hid (show keysOf cols (rows.take i ++ [r]) = keysOf cols (rows.take i) ++ [key] ∧ (keysOf cols (rows.take i) ++ [key]).map (fun q => valG (cl : Int) (inG cols q (rows.take i ++ [r]))) = (grI cols (cl : Int) (rows.take i) ++ [[]]).set k (gl ++ [(vn, vv)]) from hfin gl (by have := congrArg (fun o => o.map Prod.snd) hpk; simpa using this))
          have hgl4 : gl.length ≤ 400 := hgs4 gl (by rw [← HGx.out.2.2.2.2.1]; exact List.mem_map.2 ⟨_, List.mem_of_getElem? hpk, rfl⟩)
          have hpos : 0 < ((cpG ++ [((⟨some ⟨w1.heap.size, 0, none⟩, 0, 0⟩, []) : SRw)]).map (·.1)).length := by rw [List.length_map]; omega
          obtain ⟨gb, hAg, hnn1, hg1, hg2, hty, _, hcs⟩ := HGx.out.2.1.head svC_length hpos
          subst hAg
          have gc : w2.cell? ⟨gb, k, none⟩ = some (.slice gA gl.length gcap) := hcs k _ (by
            have := flat_get 1 svC svC_length ((cpG ++ [((⟨some ⟨w1.heap.size, 0, none⟩, 0, 0⟩, []) : SRw)]).map (·.1)) k ⟨gA, gl.length, gcap⟩ 0 (.slice gA gl.length gcap) (by rw [List.getElem?_map, hpk]; rfl) rfl
            simpa using this)
          have HOG := Lib.hid (show Ow kb 55 2 valC w2 (.slice gA gl.length gcap) gl from hcp.2)
          have HGO := Lib.hid HGx.out.2.1
          have Hne := Lib.hid (show ∀ b, (Value.slice gA gl.length gcap).ownBlock = some b → kb ≤ b ∧ b ≠ gb from fun b hb => ⟨(HOG.out.ty b hb).1, TyAt.ne (HOG.out.ty b hb).2.2 hty (by decide)⟩)
          have SK := Lib.hid (fun (z : World) (hz : Only (fun b => (Value.slice gA gl.length gcap).ownBlock = some b) w2 z) => show z.cell? ⟨w.heap.size, 1, none⟩ = some (.slice (some ⟨br, orr, none⟩) rows.length c) ∧ z.cell? ⟨br, orr + i, none⟩ = some (.slice (some ⟨bv, ov, none⟩) L cr) ∧ z.cell? ⟨bv, ov + cl * 2, none⟩ = some (.bool vn) ∧ z.cell? ⟨bv, ov + cl * 2 + 1, none⟩ = some (.int .i64 vv) ∧ z.cell? ⟨gb, k, none⟩ = some (.slice gA gl.length gcap) from by
            have hw : Only (fun b => kb ≤ b) W4 z := HX.out.trans (hz.mono fun q _ hq => (Hne.out q hq).1)
            obtain ⟨q0, q1, q2⟩ := CE.out z (HBW.out z hw)
            exact ⟨(R1.out.only hw (by omega)).cell 1, q0, q1, q2, (only_cell hz hg2 fun h => (Hne.out gb h).2 rfl).trans gc⟩)
          have Hkx := Lib.hid (show kb ≤ (w2.heap.size) by have := HX.out.size; have := HS4.out; omega)
          have Hpk := Lib.hid hpk
          have Hkg := Lib.hid hkG
          have Hgb := Lib.hid hg1
          have Hpos := Lib.hid hpos
          have hkGI : (k : Int) < (nG : Int) := by omega
          clear hpk hp hcp hgs4 hfin hpos hg1 hty hcs gc hnn1
          go_upto_region 13 with fail
          obtain ⟨u0, hu0⟩ : ∃ z, w2.drew = z := ⟨_, rfl⟩
          have Bx0 := Lib.hid (show Below w2.heap.size w2 u0 from hu0 ▸ (Below.refl _ _).drew)
          have Hu0 := Lib.hid hu0
          clear hu0
          refine wp_region_g 17 (fun z => z.cell? ⟨w.heap.size, 1, none⟩ = some (.slice (some ⟨br, orr, none⟩) rows.length c) ∧ z.cell? ⟨br, orr + i, none⟩ = some (.slice (some ⟨bv, ov, none⟩) L cr) ∧ z.cell? ⟨bv, ov + cl * 2, none⟩ = some (.bool vn) ∧ z.cell? ⟨bv, ov + cl * 2 + 1, none⟩ = some (.int .i64 vv) ∧ z.cell? ⟨gb, k, none⟩ = some (.slice gA gl.length gcap)) (by kernel_rfl) ?_ (fun hHeld => ?_)
          · exact SK.out _ (Only.refl _).drew
          rw [Hu0.out] at hHeld ⊢
          refine takeG (i := 0) (v := ?v19) rfl (by kernel_rfl) (by kernel_rfl) (by kernel_rfl) (by kernel_rfl) (fun _ _ _ h => h) (Or.inl ⟨by rfl, ?hy19⟩) (by assumption) ?_
          case hy19 => ((intro w' hSw; (try dsimp only at hSw); go_simp) <;> with_reducible rfl)
          try simp only [Act.put, List.setIfInBounds_toArray, List.set_cons_zero, List.set_cons_succ]
          refine takeG (i := 1) (v := ?v20) rfl (by kernel_rfl) (by kernel_rfl) (by kernel_rfl) (by kernel_rfl) (fun _ _ _ h => h) (Or.inl ⟨by rfl, ?hy20⟩) (by assumption) ?_
          case hy20 => ((intro w' hSw; (try dsimp only at hSw); go_simp) <;> with_reducible rfl)
          try simp only [Act.put, List.setIfInBounds_toArray, List.set_cons_zero, List.set_cons_succ]
          refine takeG (i := 2) (v := ?v21) rfl (by kernel_rfl) (by kernel_rfl) (by kernel_rfl) (by kernel_rfl) (fun _ _ _ h => h) (Or.inl ⟨by rfl, ?hy21⟩) (by assumption) ?_
          case hy21 => ((intro w' hSw; (try dsimp only at hSw); go_simp) <;> with_reducible rfl)
          try simp only [Act.put, List.setIfInBounds_toArray, List.set_cons_zero, List.set_cons_succ]
          refine takeG (i := 3) (v := ?v22) rfl (by kernel_rfl) (by kernel_rfl) (by kernel_rfl) (by kernel_rfl) (fun _ _ _ h => h) (Or.inl ⟨by rfl, ?hy22⟩) (by assumption) ?_
          case hy22 => ((intro w' hSw; (try dsimp only at hSw); go_simp) <;> with_reducible rfl)
          try simp only [Act.put, List.setIfInBounds_toArray, List.set_cons_zero, List.set_cons_succ]
          refine takeG (i := 4) (v := ?v23) rfl (by kernel_rfl) (by kernel_rfl) (by kernel_rfl) (by kernel_rfl) (fun _ _ _ h => h) (Or.inl ⟨by rfl, ?hy23⟩) (by assumption) ?_
          case hy23 => ((intro w' hSw; (try dsimp only at hSw); go_simp) <;> with_reducible rfl)
          try simp only [Act.put, List.setIfInBounds_toArray, List.set_cons_zero, List.set_cons_succ]
          refine takeG (i := 5) (v := ?v24) rfl (by kernel_rfl) (by kernel_rfl) (by kernel_rfl) (by kernel_rfl) (fun _ _ _ h => h) (Or.inl ⟨by rfl, ?hy24⟩) (by assumption) ?_
          case hy24 => ((intro w' hSw; (try dsimp only at hSw); go_simp) <;> with_reducible rfl)
          try simp only [Act.put, List.setIfInBounds_toArray, List.set_cons_zero, List.set_cons_succ]
          refine takeG (i := 6) (v := ?v25) rfl (by kernel_rfl) (by kernel_rfl) (by kernel_rfl) (by kernel_rfl) (fun _ _ _ h => h) (Or.inl ⟨by rfl, ?hy25⟩) (by assumption) ?_
          case hy25 => ((intro w' hSw; (try dsimp only at hSw); go_simp) <;> with_reducible rfl)
          try simp only [Act.put, List.setIfInBounds_toArray, List.set_cons_zero, List.set_cons_succ]
          refine takeG (i := 7) (v := ?v26) rfl (by kernel_rfl) (by kernel_rfl) (by kernel_rfl) (by kernel_rfl) (fun _ _ _ h => h) (Or.inl ⟨by rfl, ?hy26⟩) (by assumption) ?_
          case hy26 => ((intro w' hSw; (try dsimp only at hSw); go_simp) <;> with_reducible rfl)
          try simp only [Act.put, List.setIfInBounds_toArray, List.set_cons_zero, List.set_cons_succ]
          refine takeG (i := 8) (v := ?v27) rfl (by kernel_rfl) (by kernel_rfl) (by kernel_rfl) (by kernel_rfl) (fun _ _ _ h => h) (Or.inl ⟨by rfl, ?hy27⟩) (by assumption) ?_
          case hy27 => ((intro w' hSw; (try dsimp only at hSw); go_simp) <;> with_reducible rfl)
          try simp only [Act.put, List.setIfInBounds_toArray, List.set_cons_zero, List.set_cons_succ]
          refine takeG (i := 9) (v := ?v28) rfl (by kernel_rfl) (by kernel_rfl) (by kernel_rfl) (by kernel_rfl) (fun _ _ _ h => h) (Or.inl ⟨by rfl, ?hy28⟩) (by assumption) ?_
          case hy28 => ((intro w' hSw; (try dsimp only at hSw); go_simp) <;> with_reducible rfl)
          try simp only [Act.put, List.setIfInBounds_toArray, List.set_cons_zero, List.set_cons_succ]
          refine takeG (i := 10) (v := ?v29) rfl (by kernel_rfl) (by kernel_rfl) (by kernel_rfl) (by kernel_rfl) (fun _ _ _ h => h) (Or.inl ⟨by rfl, ?hy29⟩) (by assumption) ?_
          case hy29 => ((intro w' hSw; (try dsimp only at hSw); go_simp) <;> with_reducible rfl)
          try simp only [Act.put, List.setIfInBounds_toArray, List.set_cons_zero, List.set_cons_succ]
          refine takeG (i := 11) (v := ?v30) rfl (by kernel_rfl) (by kernel_rfl) (by kernel_rfl) (by kernel_rfl) (fun _ _ _ h => h) (Or.inl ⟨by rfl, ?hy30⟩) (by assumption) ?_
          case hy30 => ((intro w' hSw; (try dsimp only at hSw); go_simp) <;> with_reducible rfl)
          try simp only [Act.put, List.setIfInBounds_toArray, List.set_cons_zero, List.set_cons_succ]
          refine takeG (i := 12) (v := ?v31) rfl (by kernel_rfl) (by kernel_rfl) (by kernel_rfl) (by kernel_rfl) (fun _ _ _ h => h) (Or.inl ⟨by rfl, ?hy31⟩) (by assumption) ?_
          case hy31 => ((intro w' hSw; (try dsimp only at hSw); go_simp) <;> with_reducible rfl)
          try simp only [Act.put, List.setIfInBounds_toArray, List.set_cons_zero, List.set_cons_succ]
          refine takeG (i := 13) (v := ?v32) rfl (by kernel_rfl) (by kernel_rfl) (by kernel_rfl) (by kernel_rfl) (fun _ _ _ h => h) (Or.inl ⟨by rfl, ?hy32⟩) (by assumption) ?_
          case hy32 => ((intro w' hSw; (try dsimp only at hSw); go_simp) <;> with_reducible rfl)
          try simp only [Act.put, List.setIfInBounds_toArray, List.set_cons_zero, List.set_cons_succ]
          refine wpAnyG_ready (rs := [14]) (by kernel_rfl) (by simp) ?_
          refine readyG rfl (fun K hK => ?_) AllReadyG.nil
          obtain ⟨u1, hu1⟩ : ∃ z, u0.alloc (.cells #[.bool vn, .int .i64 vv] 55) = z := ⟨_, rfl⟩
          have b1 : Below u0.heap.size u0 u1 := by rw [← hu1]; exact balloc (Below.refl _ _) _
          have Bx1 := Lib.hid (bch Bx0.out b1)
          have HS1 := Lib.hid (show Sl 2 valC u1 u1.heap.size (some ⟨u0.heap.size, 0, none⟩) [((vn, vv) : Val)] by rw [← hu1]; exact Row.sl' (t := 55) valC_length ((Row.new u0 _ _).of rfl))
          have HO1 := Lib.hid (HOG.out.on Bx1.out)
          have hlo1 : kb ≤ u1.heap.size := Nat.le_trans Hkx.out Bx1.out.size
          go_simp
          (try rw [hu1])
          have Hu1 := Lib.hid hu1
          clear hu1 b1
          refine hK.out _ _ ?hS33 (fun hHeld => ?_)
          case hS33 => exact fun _ => SK.out _ (only_below Bx1.out)
          replace hHeld := hHeld (by decide)
          clear hK K
          try simp only [Act.put, List.setIfInBounds_toArray, List.set_cons_zero, List.set_cons_succ]
          refine wpAnyG_ready (rs := [15]) (by kernel_rfl) (by simp) ?_
          refine readyG rfl (fun K hK => ?_) AllReadyG.nil
          refine step_app2 rfl (.tmp 64) (.tmp 73) 104 rfl kb 55 _ 2 16 valC Tryz.underlying104 zeroValG rfl (by decide) (by decide) valC_length valC_one (.slice gA gl.length gcap) gl rfl HO1.out (some ⟨u0.heap.size, 0, none⟩) 1 1 [((vn, vv) : Val)] rfl rfl HS1.out (by simp only [List.length_singleton]; omega) hlo1 ?_
          intro v2 u2 hown2 hgr2 hob2
          obtain ⟨A2, c2, rfl, hc21, hc22, _⟩ := hown2.shape valC_length
          have hln : (gl ++ [((vn, vv) : Val)]).length = gl.length + 1 := by simp
          rw [hln] at hown2 hob2 ⊢
          have hbx : Only (fun b => (Value.slice gA gl.length gcap).ownBlock = some b) w2 u2 := (only_below Bx1.out).grown hgr2 fun q e => .inl e
          have hG2 := HGO.out.apart2 hbx (fun b hb hS => by have e : some gb = some b := hb; injection e with e; subst e; exact (Hne.out _ hS).2 rfl)
          obtain ⟨gq, hAq, hnn2, _, glt, hty2, hfz, _⟩ := hG2.head svC_length Hpos.out
          clear hnn2
          cases hAq
          have fz := hfz k
          have gc2 := (SK.out _ hbx).2.2.2.2
          have HK2 := Lib.hid (And.intro hown2 (And.intro hgr2 hob2))
          have HB2 := Lib.hid (And.intro hbx (And.intro hG2 hty2))
          clear hown2 hgr2 hob2 hc21 hc22 hbx hln hG2 hty2 hfz
          refine hK.out _ _ ?hS34 (fun hHeld => ?_)
          case hS34 => exact fun _ => SK.out _ HB2.out.1
          replace hHeld := hHeld (by decide)
          clear hK K
          try simp only [Act.put, List.setIfInBounds_toArray, List.set_cons_zero, List.set_cons_succ]
          refine takeG (i := 16) (v := ?v35) rfl (by kernel_rfl) (by kernel_rfl) (by kernel_rfl) (by kernel_rfl) (fun _ _ _ h => h) (Or.inl ⟨by rfl, ?hy35⟩) (by assumption) ?_
          case hy35 => ((intro w' hSw; (try dsimp only at hSw); go_simp) <;> with_reducible rfl)
          try simp only [Act.put, List.setIfInBounds_toArray, List.set_cons_zero, List.set_cons_succ]
          refine wpAnyG_ready (rs := [17]) (by kernel_rfl) (by simp) ?_
          refine readyG rfl (fun K hK => ?_) AllReadyG.nil
          go_simp
          refine hK.out _ _ ?hS36 (fun hHeld => ?_)
          case hS36 => exact fun h => absurd rfl h
          clear hK K
          try simp only [Act.put, List.setIfInBounds_toArray, List.set_cons_zero, List.set_cons_succ]
          refine wpAnyG_done (by kernel_rfl) ?_ _
          clear gc2 fz glt
          go_wp2
          go_roundg (rows.length - (i + 1))
          case measure => omega
          case rel =>
            obtain ⟨hown2, hgr2, hob2⟩ := HK2.out
            obtain ⟨hbx, hG2, hty2⟩ := HB2.out
            have hst := hG2.put k (.slice A2 (gl.length + 1) c2)
            rw [flat_setS _ k ⟨A2, gl.length + 1, c2⟩ (by rw [List.length_map]; exact Hkg.out)] at hst
            have hcp1 := HGx.out.2.2.1.on Bx1.out
            have hix : ((cpK ++ [((⟨A12, cols.length, c12⟩, key) : SRw)]) ++ (cpG ++ [((⟨some ⟨w1.heap.size, 0, none⟩, 0, 0⟩, []) : SRw)]))[(cpK ++ [((⟨A12, cols.length, c12⟩, key) : SRw)]).length + k]? = some ((⟨gA, gl.length, gcap⟩, gl) : SRw) := by rw [List.getElem?_append_right (Nat.le_add_right _ _), Nat.add_sub_cancel_left]; exact Hpk.out
            have hcp2 := Cps.app hcp1 hix hgr2 (p' := (⟨A2, gl.length + 1, c2⟩, gl ++ [(vn, vv)])) ⟨by simp, hown2⟩ hob2
            rw [List.set_append_right _ _ (Nat.le_add_right _ _), Nat.add_sub_cancel_left] at hcp2
            have k3 : Only (fun b => b = gb) u2 (u2.setCell ⟨gb, k, none⟩ (.slice A2 (gl.length + 1) c2)) := Only.set (S := fun b => b = gb) (p := ⟨gb, k, none⟩) (Only.refl u2) (.inl rfl) _
            obtain ⟨hf1, hf2⟩ := HFIN.out
            refine ⟨i + 1, cpK ++ [((⟨A12, cols.length, c12⟩, key) : SRw)], (cpG ++ [((⟨some ⟨w1.heap.size, 0, none⟩, 0, 0⟩, []) : SRw)]).set k (⟨A2, gl.length + 1, c2⟩, gl ++ [(vn, vv)]), by omega, rfl, by go_num, ⟨?_, ?_, hcp2.only k3 fun b hb => .inr ⟨104, by decide, by have hb : b = gb := hb; rw [hb]; exact hty2⟩, ?_, ?_, HGx.out.2.2.2.2.2⟩, (HX.out.trans (hbx.mono fun q _ hq => (Hne.out q hq).1)).trans (k3.mono fun q _ hq => by have hq : q = gb := hq; rw [hq]; exact Hgb.out)⟩
            · exact (HGx.out.1.apart2 hbx fun b hb hS => TyAt.ne (HGx.out.1.ty b hb).2.2 (HOG.out.ty b hS).2.2 (by decide) rfl).apart2 k3 fun b hb e => HGx.out.2.2.2.2.2 b hb (by have e : b = gb := e; rw [e]; rfl)
            · unfold Ow
              rw [List.length_map, List.length_set, List.map_set]
              rw [List.length_map] at hst
              exact hst
            · rw [hx.out, hf1]; exact HGx.out.2.2.2.1
            · rw [List.map_set, HGx.out.2.2.2.2.1, hx.out]
              show (grI cols (cl : Int) (rows.take i) ++ [[]]).set k (gl ++ [(vn, vv)]) = (keysOf cols (rows.take i ++ [r])).map fun q => valG (cl : Int) (inG cols q (rows.take i ++ [r]))
              rw [hf1]
              exact hf2.symm
    · have hiI : ¬ (i : Int) < (rows.length : Int) := by omega
      have hie : rows.take i = rows := List.take_of_length_le (by omega)
      have HG0 := Lib.hid (show GrKs kb wq (.slice A9 nK c9) (.slice A10 nK c10) cpK cpG (keysOf cols rows) (grI cols cl rows) from by have := HG.out; rwa [hie] at this)
      have HKN := Lib.hid (show cpK.length = nK ∧ cpG.length = nK ∧ (keysOf cols rows).length = nK from by have h1 := HNK.out; rw [hie] at h1; exact ⟨h1.1, h1.2.1, by omega⟩)
      obtain ⟨GR, hGR⟩ : ∃ l, grpRows cols cl kind rows = l := ⟨_, rfl⟩
      have hGRl : GR.length = nK := by rw [← hGR]; unfold grpRows; rw [List.length_map]; exact HKN.out.2.2
      have HGR := Lib.hid (And.intro hGR hGRl)
      rw [hGR]
      have HKe := Lib.hid (fun (z : World) (hz : Below wq.heap.size wq z) (j : Nat) (hj : j < nK) => show ∃ (gk gg : Nat) (sk sg : SV) (rk lg : Row1), A9 = some ⟨gk, 0, none⟩ ∧ A10 = some ⟨gg, 0, none⟩ ∧ (z.cell? ⟨gk, j, none⟩ = some (.slice sk.A rk.length sk.c) ∧ z.cell? ⟨gg, j, none⟩ = some (.slice sg.A lg.length sg.c)) ∧ (gk < wq.heap.size ∧ gg < wq.heap.size) ∧ Sl 2 valC z z.heap.size sk.A rk ∧ Sl 2 valC z z.heap.size sg.A lg ∧ GR[j]? = some (rk ++ [aggF kind lg]) ∧ rk.length = cols.length ∧ (∀ x ∈ lg, vValid x = true) ∧ lg.length ≤ 400 from by
        have hkc : j < cpK.length := by have := HKN.out.1; omega
        have hgc : j < cpG.length := by have := HKN.out.2.1; omega
        have hpos : 0 < (cpK.map (·.1)).length := by rw [List.length_map]; omega
        have hposg : 0 < (cpG.map (·.1)).length := by rw [List.length_map]; omega
        obtain ⟨gk, hAk, _, _, hg2, _, _, hcs⟩ := HG0.out.1.head svC_length hpos
        obtain ⟨gg, hAg, _, _, hg3, _, _, hcg⟩ := HG0.out.2.1.head svC_length hposg
        have hp := HG0.out.2.2.1.1 cpK[j] (List.mem_append_left _ (List.getElem_mem hkc))
        have hq := HG0.out.2.2.1.1 cpG[j] (List.mem_append_right _ (List.getElem_mem hgc))
        have hks : (keysOf cols rows)[j]? = some cpK[j].2 := by rw [← HG0.out.2.2.2.1, List.getElem?_map, List.getElem?_eq_getElem hkc]; rfl
        have hgs : (grI cols cl rows)[j]? = some cpG[j].2 := by rw [← HG0.out.2.2.2.2.1, List.getElem?_map, List.getElem?_eq_getElem hgc]; rfl
        have hge : cpG[j].2 = valG (cl : Int) (inG cols cpK[j].2 rows) := by
          unfold grI at hgs
          rw [List.getElem?_map, hks] at hgs
          exact (Option.some.inj hgs).symm
        obtain ⟨q, _, hqk⟩ := mem_keysOf.1 (List.mem_of_getElem? hks)
        refine ⟨gk, gg, cpK[j].1, cpG[j].1, cpK[j].2, cpG[j].2, hAk, hAg, ⟨?_, ?_⟩, ⟨hg2, hg3⟩, (hp.slT.2.2.sl).on hz, (hq.slT.2.2.sl).on hz, ?_, by rw [← hqk, pickR_length], ?_, ?_⟩
        · rw [hz.cell (p := ⟨gk, j, none⟩) hg2]
          have := hcs j (.slice cpK[j].1.A cpK[j].1.n cpK[j].1.c) (by
            have := flat_get 1 svC svC_length (cpK.map (·.1)) j cpK[j].1 0 (.slice cpK[j].1.A cpK[j].1.n cpK[j].1.c) (by rw [List.getElem?_map, List.getElem?_eq_getElem hkc]; rfl) rfl
            simpa using this)
          rw [this, hp.1]
        · rw [hz.cell (p := ⟨gg, j, none⟩) hg3]
          have := hcg j (.slice cpG[j].1.A cpG[j].1.n cpG[j].1.c) (by
            have := flat_get 1 svC svC_length (cpG.map (·.1)) j cpG[j].1 0 (.slice cpG[j].1.A cpG[j].1.n cpG[j].1.c) (by rw [List.getElem?_map, List.getElem?_eq_getElem hgc]; rfl) rfl
            simpa using this)
          rw [this, hq.1]
        · rw [← HGR.out.1]
          unfold grpRows
          rw [List.getElem?_map, hks, hge]; rfl
        · intro x hx
          rw [hge] at hx
          obtain ⟨r, hr, rfl⟩ := List.mem_map.1 hx
          obtain ⟨m, hm, rfl⟩ := List.getElem_of_mem (List.mem_filter.1 hr).1
          have hro := HTR.out m hm
          have hlt : (cl : Int).toNat < rows[m].length := by have := hro.2; omega
          unfold getV
          rw [List.getD_eq_getElem?_getD, List.getElem?_eq_getElem hlt]
          exact hro.vals _ (List.getElem_mem hlt)
        · rw [hge]
          unfold valG inG
          rw [List.length_map]
          exact Nat.le_trans (List.length_filter_le _ _) hr4)
      obtain ⟨Y0, hY0⟩ : ∃ z, wq.alloc (.cells #[] 104) = z := ⟨_, rfl⟩
      have HOy := Lib.hid (show Ow wq.heap.size 104 1 svC Y0 (.slice (some ⟨wq.heap.size, 0, none⟩) 0 0) ([] : List SV) by rw [← hY0]; exact Ow.lit (xs := ([] : List SV)) rfl rfl (Nat.le_refl _) (by decide))
      have HBy := Lib.hid (show Below wq.heap.size wq Y0 by rw [← hY0]; exact balloc (Below.refl _ _) _)
      have HY0 := Lib.hid hY0
      clear hie hGR hGRl hY0
      go_upto_region 15 with fail
      rw [HY0.out]
      go_wp2
      go_loopg [14, 15] nK (fun g ov jv wr => ∃ (j : Nat) (svs : List SV), j ≤ nK ∧ g = nK - j ∧ jv = .int .i64 j ∧ Ow wq.heap.size 104 1 svC wr ov svs ∧ RowsT 55 2 valC wq.heap.size wr svs (GR.take j) ∧ Below wq.heap.size wq wr)
      case atStart => exact ⟨0, [], by omega, by omega, rfl, HOy.out, RowsT.nil, HBy.out⟩
      case round =>
        obtain ⟨j, svs, hj, rfl, rfl, how, hrt, hbr⟩ := hrel
        have HR := Lib.hid (And.intro how (And.intro hrt hbr))
        obtain ⟨A14, c14, rfl, hc141, hc142, hs14⟩ := how.shape svC_length
        have hsl := hrt.1
        rw [List.length_take] at hsl
        have hsv4 : svs.length ≤ 400 := by omega
        have hszr : wq.heap.size ≤ wr.heap.size := hbr.size
        have HSL := Lib.hid (And.intro hsl (And.intro hs14 (And.intro hc141 hc142)))
        clear how hrt hbr hsl hs14 hc141 hc142
        by_cases hjn : j < nK
        · have hjI : (j : Int) < (nK : Int) := by omega
          obtain ⟨gk, gg, sk, sg, rk, lg, hA9, hA10, ⟨k9, k10⟩, ⟨hg9, hg10⟩, hsk, hsg, hgr, hrkl, hlv, hl4⟩ := HKe.out _ HR.out.2.2 j hjn
          have hka := HKD.out
          obtain ⟨⟨an, av⟩, hva⟩ : ∃ v, aggF kind lg = v := ⟨_, rfl⟩
          rw [hva] at hgr
          obtain ⟨nL, hnL⟩ : ∃ n, cols.length + 1 = n := ⟨_, rfl⟩
          have SK := Lib.hid (fun (z : World) (hz : Below wr.heap.size wr z) => show z.cell? ⟨gk, j, none⟩ = some (.slice sk.A cols.length sk.c) ∧ z.cell? ⟨gg, j, none⟩ = some (.slice sg.A lg.length sg.c) from ⟨by rw [hz.cell (p := ⟨gk, j, none⟩) (by show gk < wr.heap.size; omega), k9, hrkl], by rw [hz.cell (p := ⟨gg, j, none⟩) (by show gg < wr.heap.size; omega), k10]⟩)
          have HAG := Lib.hid (fun (z : World) (hz : Below wr.heap.size wr z) => by
            have := specAggregate1_ok sg.A sg.c lg kind z (by omega) hlv (hsg.on hz)
            rw [hva] at this
            unfold vAgg at this
            exact this)
          have HCC := Lib.hid (fun (z : World) (hz : Below wr.heap.size wr z) (B : Option Addr) (hB : Sl 2 valC z z.heap.size B [((an, av) : Val)]) => by
            have := grConcat_ok sk.A B sk.c 1 rk [((an, av) : Val)] z (by omega) (by simp) (hsk.on hz) hB
            rw [hrkl] at this
            exact this)
          have hgt : GR.take (j + 1) = GR.take j ++ [rk ++ [(an, av)]] := by rw [List.take_add_one, hgr]; rfl
          have hrl : (rk ++ [((an, av) : Val)]).length = nL := by rw [List.length_append, hrkl]; exact hnL
          have HRL := Lib.hid (And.intro hgt hrl)
          have HNL := Lib.hid hnL
          subst hA9
          subst hA10
          clear hsk hsg hgr hrkl hlv hva hnL hgt hrl k9 k10
          go_upto_region 18 with fail
          obtain ⟨u0, hu0⟩ : ∃ z, wr.drew = z := ⟨_, rfl⟩
          have Bx0 := Lib.hid (show Below wr.heap.size wr u0 from hu0 ▸ (Below.refl _ _).drew)
          have Hu0 := Lib.hid hu0
          clear hu0
          refine wp_region_g 15 (fun z => z.cell? ⟨gk, j, none⟩ = some (.slice sk.A cols.length sk.c) ∧ z.cell? ⟨gg, j, none⟩ = some (.slice sg.A lg.length sg.c)) (by kernel_rfl) ?_ (fun hHeld => ?_)
          · exact SK.out _ (Below.refl _ _).drew
          rw [Hu0.out] at hHeld ⊢
          refine takeG (i := 0) (v := ?v37) rfl (by kernel_rfl) (by kernel_rfl) (by kernel_rfl) (by kernel_rfl) (fun _ _ _ h => h) (Or.inl ⟨by rfl, ?hy37⟩) (by assumption) ?_
          case hy37 => ((intro w' hSw; (try dsimp only at hSw); go_simp) <;> with_reducible rfl)
          try simp only [Act.put, List.setIfInBounds_toArray, List.set_cons_zero, List.set_cons_succ]
          refine takeG (i := 1) (v := ?v38) rfl (by kernel_rfl) (by kernel_rfl) (by kernel_rfl) (by kernel_rfl) (fun _ _ _ h => h) (Or.inl ⟨by rfl, ?hy38⟩) (by assumption) ?_
          case hy38 => ((intro w' hSw; (try dsimp only at hSw); go_simp) <;> with_reducible rfl)
          try simp only [Act.put, List.setIfInBounds_toArray, List.set_cons_zero, List.set_cons_succ]
          refine takeG (i := 2) (v := ?v39) rfl (by kernel_rfl) (by kernel_rfl) (by kernel_rfl) (by kernel_rfl) (fun _ _ _ h => h) (Or.inl ⟨by rfl, ?hy39⟩) (by assumption) ?_
          case hy39 => ((intro w' hSw; (try dsimp only at hSw); go_simp) <;> with_reducible rfl)
          try simp only [Act.put, List.setIfInBounds_toArray, List.set_cons_zero, List.set_cons_succ]
          refine takeG (i := 3) (v := ?v40) rfl (by kernel_rfl) (by kernel_rfl) (by kernel_rfl) (by kernel_rfl) (fun _ _ _ h => h) (Or.inl ⟨by rfl, ?hy40⟩) (by assumption) ?_
          case hy40 => ((intro w' hSw; (try dsimp only at hSw); go_simp) <;> with_reducible rfl)
          try simp only [Act.put, List.setIfInBounds_toArray, List.set_cons_zero, List.set_cons_succ]
          refine takeG (i := 4) (v := ?v41) rfl (by kernel_rfl) (by kernel_rfl) (by kernel_rfl) (by kernel_rfl) (fun _ _ _ h => h) (Or.inl ⟨by rfl, ?hy41⟩) (by assumption) ?_
          case hy41 => ((intro w' hSw; (try dsimp only at hSw); go_simp) <;> with_reducible rfl)
          try simp only [Act.put, List.setIfInBounds_toArray, List.set_cons_zero, List.set_cons_succ]
          refine takeG (i := 5) (v := ?v42) rfl (by kernel_rfl) (by kernel_rfl) (by kernel_rfl) (by kernel_rfl) (fun _ _ _ h => h) (Or.inl ⟨by rfl, ?hy42⟩) (by assumption) ?_
          case hy42 => ((intro w' hSw; (try dsimp only at hSw); go_simp) <;> with_reducible rfl)
          try simp only [Act.put, List.setIfInBounds_toArray, List.set_cons_zero, List.set_cons_succ]
          refine takeG (i := 6) (v := ?v43) rfl (by kernel_rfl) (by kernel_rfl) (by kernel_rfl) (by kernel_rfl) (fun _ _ _ h => h) (Or.inl ⟨by rfl, ?hy43⟩) (by assumption) ?_
          case hy43 => ((intro w' hSw; (try dsimp only at hSw); go_simp) <;> with_reducible rfl)
          try simp only [Act.put, List.setIfInBounds_toArray, List.set_cons_zero, List.set_cons_succ]
          refine takeG (i := 7) (v := ?v44) rfl (by kernel_rfl) (by kernel_rfl) (by kernel_rfl) (by kernel_rfl) (fun _ _ _ h => h) (Or.inl ⟨by rfl, ?hy44⟩) (by assumption) ?_
          case hy44 => ((intro w' hSw; (try dsimp only at hSw); go_simp) <;> with_reducible rfl)
          try simp only [Act.put, List.setIfInBounds_toArray, List.set_cons_zero, List.set_cons_succ]
          refine takeG (i := 8) (v := ?v45) rfl (by kernel_rfl) (by kernel_rfl) (by kernel_rfl) (by kernel_rfl) (fun _ _ _ h => h) (Or.inl ⟨by rfl, ?hy45⟩) (by assumption) ?_
          case hy45 => ((intro w' hSw; (try dsimp only at hSw); go_simp) <;> with_reducible rfl)
          try simp only [Act.put, List.setIfInBounds_toArray, List.set_cons_zero, List.set_cons_succ]
          refine takeG (i := 9) (v := ?v46) rfl (by kernel_rfl) (by kernel_rfl) (by kernel_rfl) (by kernel_rfl) (fun _ _ _ h => h) (Or.inl ⟨by rfl, ?hy46⟩) (by assumption) ?_
          case hy46 => ((intro w' hSw; (try dsimp only at hSw); go_simp) <;> with_reducible rfl)
          try simp only [Act.put, List.setIfInBounds_toArray, List.set_cons_zero, List.set_cons_succ]
          refine wpAnyG_ready (rs := [10]) (by kernel_rfl) (by simp) ?_
          refine readyG rfl (fun K hK => ?_) AllReadyG.nil
          go_simp
          go_at_call 133
          refine (HAG.out u0 Bx0.out).mono ?_
          rintro e x1 ⟨rfl, hb⟩
          have Bx1 := Lib.hid (bch Bx0.out hb)
          clear hb
          refine hK.out _ _ ?hS47 (fun hHeld => ?_)
          case hS47 => exact fun _ => SK.out _ Bx1.out
          replace hHeld := hHeld (by decide)
          clear hK K
          try simp only [Act.put, List.setIfInBounds_toArray, List.set_cons_zero, List.set_cons_succ]
          refine wpAnyG_ready (rs := [11]) (by kernel_rfl) (by simp) ?_
          refine readyG rfl (fun K hK => ?_) AllReadyG.nil
          obtain ⟨x2, hx2⟩ : ∃ z, x1.alloc (.cells #[.bool an, .int .i64 av] 55) = z := ⟨_, rfl⟩
          have b2 : Below x1.heap.size x1 x2 := by rw [← hx2]; exact balloc (Below.refl _ _) _
          have HS2 := Lib.hid (show Sl 2 valC x2 x2.heap.size (some ⟨x1.heap.size, 0, none⟩) [((an, av) : Val)] by rw [← hx2]; exact Row.sl' (t := 55) valC_length ((Row.new x1 _ _).of rfl))
          have Bx2 := Lib.hid (bch Bx1.out b2)
          go_simp
          (try rw [hx2])
          have Hx2 := Lib.hid hx2
          clear hx2 b2
          refine hK.out _ _ ?hS48 (fun hHeld => ?_)
          case hS48 => exact fun _ => SK.out _ Bx2.out
          replace hHeld := hHeld (by decide)
          clear hK K
          try simp only [Act.put, List.setIfInBounds_toArray, List.set_cons_zero, List.set_cons_succ]
          refine wpAnyG_ready (rs := [12]) (by kernel_rfl) (by simp) ?_
          refine readyG rfl (fun K hK => ?_) AllReadyG.nil
          have HC1 := Lib.hid (HCC.out x2 Bx2.out (some ⟨x1.heap.size, 0, none⟩) HS2.out)
          simp only [List.length_singleton] at HC1
          go_simp
          go_at_call 66
          refine HC1.out.mono ?_
          rintro e x3 ⟨v3, rfl, how3, hb3⟩
          obtain ⟨A3, c3, rfl, hc31, hc32, hs3⟩ := how3.shape valC_length
          rw [HRL.out.2] at how3 hc31 ⊢
          have HS3 := Lib.hid (And.intro hc31 (And.intro hc32 hs3))
          have Bx3 := Lib.hid (bch Bx2.out hb3)
          clear hb3 how3 hc31 hc32 hs3 HC1
          refine hK.out _ _ ?hS49 (fun hHeld => ?_)
          case hS49 => exact fun _ => SK.out _ Bx3.out
          replace hHeld := hHeld (by decide)
          clear hK K
          try simp only [Act.put, List.setIfInBounds_toArray, List.set_cons_zero, List.set_cons_succ]
          refine wpAnyG_ready (rs := [13]) (by kernel_rfl) (by simp) ?_
          refine readyG rfl (fun K hK => ?_) AllReadyG.nil
          obtain ⟨x4, hx4⟩ : ∃ z, x3.alloc (.cells #[.slice A3 nL c3] 104) = z := ⟨_, rfl⟩
          have b4 : Below x3.heap.size x3 x4 := by rw [← hx4]; exact balloc (Below.refl _ _) _
          have HS4' := Lib.hid (show Sl 1 svC x4 x4.heap.size (some ⟨x3.heap.size, 0, none⟩) [(⟨A3, nL, c3⟩ : SV)] by rw [← hx4]; exact Row.sl' (t := 104) svC_length ((Row.new x3 _ _).of rfl))
          have HT4 := Lib.hid (HS3.out.2.2.on b4)
          have Bx4 := Lib.hid (bch Bx3.out b4)
          have HO4 := Lib.hid (HR.out.1.on Bx4.out)
          have hlo4 : wq.heap.size ≤ x4.heap.size := Nat.le_trans hszr Bx4.out.size
          have hlo2 : wq.heap.size ≤ x2.heap.size := Nat.le_trans hszr Bx2.out.size
          go_simp
          (try rw [hx4])
          have Hx4 := Lib.hid hx4
          clear hx4 b4
          refine hK.out _ _ ?hS50 (fun hHeld => ?_)
          case hS50 => exact fun _ => SK.out _ Bx4.out
          replace hHeld := hHeld (by decide)
          clear hK K
          try simp only [Act.put, List.setIfInBounds_toArray, List.set_cons_zero, List.set_cons_succ]
          refine wpAnyG_ready (rs := [14]) (by kernel_rfl) (by simp) ?_
          refine readyG rfl (fun K hK => ?_) AllReadyG.nil
          refine step_app2 rfl (.tmp 83) (.tmp 96) 30 rfl wq.heap.size 104 _ 1 24 svC Tryz.underlying30 zeroRowG rfl (by decide) (by decide) svC_length svC_one (.slice A14 svs.length c14) svs rfl HO4.out (some ⟨x3.heap.size, 0, none⟩) 1 1 [(⟨A3, nL, c3⟩ : SV)] rfl rfl HS4'.out (by simp only [List.length_singleton]; omega) hlo4 ?_
          intro v5 x5 how5 hgr5 hob5
          have HQ5 := Lib.hid (And.intro how5 hgr5)
          have hs5 : ∀ b, b < wq.heap.size → x5.heap[b]? = wr.heap[b]? := fun b hb => (hgr5.block b (by omega) fun e => by have := (HO4.out.ty b e.symm).1; omega).trans (Bx4.out.block b (by omega))
          have SK5 := Lib.hid (show (fun z : World => z.cell? ⟨gk, j, none⟩ = some (.slice sk.A cols.length sk.c) ∧ z.cell? ⟨gg, j, none⟩ = some (.slice sg.A lg.length sg.c)) x5 from by
            obtain ⟨q9, q10⟩ := SK.out _ (Below.refl _ _)
            have e9 := hs5 gk hg9
            have e10 := hs5 gg hg10
            exact ⟨by rw [← q9]; simp only [World.cell?, e9], by rw [← q10]; simp only [World.cell?, e10]⟩)
          clear how5 hgr5 hob5 hs5
          refine hK.out _ _ ?hS51 (fun hHeld => ?_)
          case hS51 => exact fun _ => SK5.out
          replace hHeld := hHeld (by decide)
          clear hK K
          try simp only [Act.put, List.setIfInBounds_toArray, List.set_cons_zero, List.set_cons_succ]
          refine wpAnyG_ready (rs := [15]) (by kernel_rfl) (by simp) ?_
          refine readyG rfl (fun K hK => ?_) AllReadyG.nil
          go_simp
          refine hK.out _ _ ?hS52 (fun hHeld => ?_)
          case hS52 => exact fun h => absurd rfl h
          clear hK K
          try simp only [Act.put, List.setIfInBounds_toArray, List.set_cons_zero, List.set_cons_succ]
          refine wpAnyG_done (by kernel_rfl) ?_ _
          go_wp2
          go_roundg (nK - (j + 1))
          case measure => omega
          case rel =>
            obtain ⟨how5, hgr5⟩ := HQ5.out
            have hrow : ∀ q, (Value.slice A14 svs.length c14).ownBlock = some q → wq.heap.size ≤ q ∧ TyAt x4 q 104 := fun q hq => ⟨(HO4.out.ty q hq).1, (HO4.out.ty q hq).2.2⟩
            refine ⟨j + 1, svs ++ [⟨A3, nL, c3⟩], by omega, rfl, by go_num, how5, ?_, (bch HR.out.2.2 Bx4.out).grown hgr5 hlo4 fun q hq => (hrow q hq).1⟩
            rw [HRL.out.1]
            exact ((HR.out.2.1.on Bx4.out).grown hgr5 fun q hq => .inr ⟨104, by decide, (hrow q hq).2⟩).snoc HRL.out.2.symm (by rw [HRL.out.2]; exact HS3.out.1) HS3.out.2.1 ((HT4.out.low hlo2).grown hgr5 fun q hq => .inr ⟨104, by decide, (hrow q hq).2⟩)
        · have hjI : ¬ (j : Int) < (nK : Int) := by omega
          have hje : GR.take j = GR := List.take_of_length_le (by have := HGR.out.2; omega)
          have hlen : svs.length = GR.length := by have := HSL.out.1; have := HGR.out.2; omega
          have hwr6 : IntKind.i64.wrap ((cols.length : Int) + 1) = (cols.length : Int) + 1 := IntWalk.i64_in _ (by omega)
          have HT := Lib.hid (show Calls Tryz.prog 67 #[.int .i64 ((cols.length : Int) + 1), .slice A14 svs.length c14] wr (TofRes 0 ((cols.length : Int) + 1) GR wr) from by
            have hr := HR.out.2.1
            rw [hje] at hr
            rw [hlen]
            exact tableOf_ok 0 _ A14 c14 svs GR wr (Nat.zero_le _) (by have := HGR.out.2; omega) (fun r hr => by
              rw [← HGR.out.1] at hr
              obtain ⟨k, hk, rfl⟩ := List.mem_map.1 hr
              obtain ⟨q, _, hq⟩ := mem_keysOf.1 hk
              unfold grpRow
              rw [List.length_append, ← hq, pickR_length]
              simp
              omega) HSL.out.2.1.sl (hr.low (Nat.zero_le _)))
          have HX := Lib.hid (HK.out.below HR.out.2.2)
          clear hje hlen
          go_wp2_with fail
          refine HT.out.mono ?_
          rintro e w1 ⟨v1, sv1, out, rfl, hout, how1, hrt1, hb1⟩
          obtain ⟨A1, c1, rfl, _, _, _⟩ := how1.shape svC_length
          have hx1 := HX.out.below hb1
          have r2 := R2.out.only hx1 (by omega)
          have f0 := r2.frozen 0
          have f1 := r2.frozen 1
          have l2 := r2.lt
          have g0 : w1.cell? ⟨ob, 0, none⟩ = some (.int .i64 0) := r2.cell 0
          have g1 : w1.cell? ⟨ob, 1, none⟩ = some (.slice none 0 0) := r2.cell 1
          rw [← HGR.out.1] at hout
          have HF := Lib.hid (And.intro hout (And.intro how1 (And.intro hrt1 (And.intro hx1 r2))))
          generalize sv1.length = nn at *
          clear hout how1 hrt1 hb1 r2 hx1
          go_wp2
          refine bodyPost_ret (resGrp (b := ob) _ rfl _ (v0 := .int .i64 ((cols.length : Int) + 1)) (v1 := .slice A1 nn c1) (by simp [go_sem, g0, g1, l2]) (by simp [go_sem, g0, g1, l2])) rfl ?_
          obtain ⟨hout, how1, hrt1, hx1, r2⟩ := HF.out
          have hS0 := (Only.set (S := fun i => i = ob) (p := ⟨ob, 0, none⟩) (Only.refl w1) (.inl rfl) (.int .i64 ((cols.length : Int) + 1))).set (p := ⟨ob, 1, none⟩) (.inl rfl) (.slice A1 nn c1)
          refine ⟨_, sv1, out, rfl, hout, (how1.only hS0 fun q hq => .inr ⟨32, by decide, by subst hq; exact r2.ty⟩).low (by have := (HBW.out _ HX.out).size; omega), hrt1.only hS0 fun q hq => .inr ⟨32, by decide, by subst hq; exact r2.ty⟩, ((HBW.out _ hx1).setCell (p := ⟨ob, 0, none⟩) (by show w.heap.size ≤ ob; omega) _).setCell (p := ⟨ob, 1, none⟩) (by show w.heap.size ≤ ob; omega) _⟩
end Go.Proofs.YtlhonhacehgooaaGreat
