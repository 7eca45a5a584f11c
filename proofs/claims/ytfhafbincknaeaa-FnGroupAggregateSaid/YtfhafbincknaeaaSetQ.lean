/-
  Plain law: how often a row occurs in the difference and in the intersection; the difference is a part of the table. And drawn tables read.
-/
import Derived.Test.YtfhafbincknaeaaProg
import Derived.Test.YtfhafbincknaeaaExc
import Derived.Test.YtfhafbincknaeaaTwo
import Derived.Test.YtfhafbincknaeaaDraT
namespace Go.Proofs.Ytfhafbincknaeaa
open Go.RowKit Go.Qo
set_option linter.unusedVariables false
set_option linter.unusedSimpArgs false

theorem cnt_perm {l l' : List Row1} (h : l.Perm l') (x : Row1) : cnt l x = cnt l' x := (h.filter _).length_eq
theorem cnt_sub {l l' : List Row1} (h : l.Sublist l') (x : Row1) : cnt l x ≤ cnt l' x := (h.filter _).length_le
theorem keep_sub (b : Bool) (xs ys : List Row1) : (((merged xs ys).filter fun r => r.2 == b).map (·.1)).Sublist xs := by
  have h := (List.filter_sublist (l := merged xs ys) (p := fun r => r.2 == b)).map (·.1)
  rwa [merged_fst] at h
theorem tabOk_of {W : Int} {xs rows out : List Row1} (hx : TabOk W xs) (hs : ∀ r ∈ rows, RowOk W r) (hl : rows.length ≤ 400) (hp : out.Perm rows) (ho : out.Pairwise (fun a b => rCmp a b ≤ 0)) : TabOk W out := by
  refine ⟨hx.1, hx.2.1, by rw [hp.length_eq]; exact hl, fun r hr => hs r (hp.mem_iff.1 hr), fun i a b ha hb => ?_⟩
  have h1 := (List.getElem?_eq_some_iff.1 ha)
  have h2 := (List.getElem?_eq_some_iff.1 hb)
  obtain ⟨h1, rfl⟩ := h1
  obtain ⟨h2, rfl⟩ := h2
  exact List.pairwise_iff_getElem.1 ho i (i + 1) h1 h2 (by omega)
theorem tabC_ok {W W1 : Int} {xs rows out : List Row1} (hx : TabOk W xs) (hs : rows.Sublist xs) (h : TabC true W rows W1 out) : W1 = W ∧ out.Perm rows ∧ TabOk W out := by
  rcases h with ⟨h, _⟩ | ⟨_, rfl, h⟩
  · cases h
  · have hl : rows.length ≤ 400 := Nat.le_trans hs.length_le hx.2.2.1
    rw [if_pos hl] at h
    exact ⟨rfl, h.1, tabOk_of hx (fun r hr => tabRows1 hx r (hs.subset hr)) hl h.1 h.2⟩
theorem tabC_ok2 {W W1 : Int} {xs rows out : List Row1} (hx : TabOk W xs) (hs : ∀ r ∈ rows, RowOk W r) (hl : rows.length ≤ 400) (h : TabC true W rows W1 out) : W1 = W ∧ out.Perm rows ∧ TabOk W out := by
  rcases h with ⟨h, _⟩ | ⟨_, rfl, h⟩
  · cases h
  · rw [if_pos hl] at h
    exact ⟨rfl, h.1, tabOk_of hx hs hl h.1 h.2⟩
theorem cnt_bag {W : Int} (common : Bool) {xs ys : List Row1} (hx : ∀ r ∈ xs, RowOk W r) {z : Row1} (hz : RowOk W z) : cnt (bagR common xs ys) z = if common then min (cnt xs z) (cnt ys z) else cnt xs z - cnt ys z := by
  suffices H : ∀ n, n ≤ xs.length → ∀ z, RowOk W z → cnt (bagR common (xs.take n) ys) z = if common then min (cnt (xs.take n) z) (cnt ys z) else cnt (xs.take n) z - cnt ys z by
    have := H xs.length (Nat.le_refl _) z hz
    rwa [List.take_length] at this
  intro n
  induction n with
  | zero => intro _ z _; simp [bagR, bagL, cnt_nil']
  | succ n ih =>
    intro hn z hz
    have ih := ih (by omega)
    obtain ⟨x, hxn⟩ : ∃ x, xs[n]? = some x := ⟨_, List.getElem?_eq_getElem (by omega)⟩
    have hxo := hx x (List.mem_of_getElem? hxn)
    have ihx := ih x hxo
    have ihz := ih z hz
    rw [List.take_add_one, hxn]
    simp only [Option.toList_some]
    rw [bagR_snoc, cnt_append, cnt_cons, cnt_nil']
    have hxx : rCmp x z = 0 → x = z := (hxo.zero hz).1
    cases common with
    | false =>
      simp only [Bool.false_and, Bool.not_false, Bool.true_and, Bool.false_or, Bool.false_eq_true, if_false] at ihx ihz ⊢
      by_cases h : cnt ys x ≤ cnt (xs.take n) x
      · rw [if_pos (by simpa using h), cnt_append, cnt_cons, cnt_nil', ihz]
        by_cases hxz : rCmp x z = 0
        · have := hxx hxz; subst this; rw [if_pos hxz]; omega
        · rw [if_neg hxz]; omega
      · rw [if_neg (by simpa using h), ihz]
        by_cases hxz : rCmp x z = 0
        · have := hxx hxz; subst this; rw [if_pos hxz]; omega
        · rw [if_neg hxz]; omega
    | true =>
      simp only [Bool.true_and, Bool.not_true, Bool.false_and, Bool.or_false, if_true] at ihx ihz ⊢
      by_cases h : cnt (bagR true (xs.take n) ys) x < cnt ys x
      · rw [if_pos (by simpa using h), cnt_append, cnt_cons, cnt_nil', ihz]
        by_cases hxz : rCmp x z = 0
        · have := hxx hxz; subst this; rw [if_pos hxz]; omega
        · rw [if_neg hxz]; omega
      · rw [if_neg (by simpa using h), ihz]
        by_cases hxz : rCmp x z = 0
        · have := hxx hxz; subst this; rw [if_pos hxz]; omega
        · rw [if_neg hxz]; omega
theorem keep_nil {xs ys : List Row1} : (((merged xs ys).filter fun r => r.2 == false).map (·.1)) = [] ↔ (merged xs ys).all (·.2) = true := by
  rw [List.map_eq_nil_iff, List.filter_eq_nil_iff, List.all_eq_true]
  constructor
  · intro h x hx
    have := h x hx
    cases hb : x.2
    · simp [hb] at this
    · rfl
  · intro h x hx
    simp [h x hx]
/-- A drawn table, read. -/
theorem DrTab.read {lo : Nat} {w : World} {W : Int} {v : Value} {svs : List SV} {rows : List Row1} (h : DrTab lo w W v svs rows) :
    ∃ A c, v = .slice A rows.length c ∧ rows.length ≤ c ∧ c ≤ maxLen ∧ Sl 1 svC w w.heap.size A svs ∧ RowsT 44 2 valC 0 w svs rows ∧ rows.length ≤ 16 ∧ (∀ r ∈ rows, r.length ≤ 16) := by
  obtain ⟨_, h2, h3, h4, h5⟩ := h
  obtain ⟨A, c, rfl, h6, h7, h8⟩ := h4.shape svC_length
  have hl := h5.1
  exact ⟨A, c, by rw [hl], by omega, h7, h8.sl, h5.low (Nat.zero_le _), h2, h3⟩
theorem cnt_count {W : Int} {l : List Row1} (h : ∀ r ∈ l, RowOk W r) {z : Row1} (hz : RowOk W z) : cnt l z = l.count z := by
  unfold cnt
  rw [List.count_eq_length_filter]
  congr 1
  refine List.filter_congr fun x hx => ?_
  rw [Bool.eq_iff_iff]
  simp only [beq_iff_eq]
  exact (h x hx).zero hz
theorem cnt_eq {W : Int} {l l' : List Row1} (h : TabOk W l) (h' : TabOk W l') (hc : ∀ z, RowOk W z → cnt l z = cnt l' z) : l = l' := by
  refine srt_unique (W := W) h.srt.1 (List.perm_iff_count.2 fun z => ?_) h.srt.2 h'.srt.2
  by_cases hz : RowOk W z
  · rw [← cnt_count h.srt.1 hz, ← cnt_count h'.srt.1 hz]
    exact hc z hz
  · rw [List.count_eq_zero.2 fun hm => hz (h.srt.1 z hm), List.count_eq_zero.2 fun hm => hz (h'.srt.1 z hm)]
theorem Ow.cap {lo : Nat} {w : World} {A : Option Addr} {n c : Nat} {svs : List SV} (h : Ow lo 42 1 svC w (.slice A n c) svs) : n ≤ c ∧ c ≤ maxLen := by
  obtain ⟨A2, c2, e, h1, h2, _⟩ := h.shape svC_length
  injection e with e1 e2 e3
  subst e2
  subst e3
  exact ⟨h1, h2⟩
theorem TabRes.read2 {q : Bool} {W : Int} {rows : List Row1} {w w' : World} {e : Ending} (h : TabRes q W rows w e w') : ∃ (W1 : Int) (A : Option Addr) (c : Nat) (out : List Row1), e = .returned (.tuple #[.agg #[.int .i64 W1, .slice A out.length c], .bool q]) ∧ TabC q W rows W1 out ∧ Rws w' w'.heap.size A out ∧ out.length ≤ c ∧ c ≤ maxLen ∧ Below w.heap.size w w' := by
  obtain ⟨W1, A, c, cp, rfl, h1, h2, h3, h4⟩ := TabRes.read h
  have hc := Ow.cap h2
  have hl : cp.length = (cp.map (·.2)).length := by rw [List.length_map]
  exact ⟨W1, A, c, cp.map (·.2), by rw [← hl], h1, rws_cp h2 h3, by rw [← hl]; exact hc.1, hc.2, h4⟩
theorem SpecTab.read2 {q : Bool} {W : Int} {rows : List Row1} {w w' : World} {e : Ending} (h : SpecTab q W rows w e w') : ∃ (W1 : Int) (A : Option Addr) (c : Nat) (out : List Row1), e = .returned (.tuple #[.agg #[.int .i64 W1, .slice A out.length c], .bool q]) ∧ TabD q W rows W1 out ∧ Rws w' w'.heap.size A out ∧ out.length ≤ c ∧ c ≤ maxLen ∧ Below w.heap.size w w' := by
  obtain ⟨W1, A, c, svs, out, rfl, h1, h2, h3, h4⟩ := SpecTab.read h
  have hc := Ow.cap h2
  exact ⟨W1, A, c, out, rfl, h1, rws_sv h2 h3, hc.1, hc.2, h4⟩
end Go.Proofs.Ytfhafbincknaeaa
