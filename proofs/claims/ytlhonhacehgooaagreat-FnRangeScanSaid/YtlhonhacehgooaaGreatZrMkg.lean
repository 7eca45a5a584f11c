/-
  Several texts in one (Mark MarkT Hel Two EqL MjF AnyT DraT SetQ DraJ).
-/
import Derived.Test.YtlhonhacehgooaaGreatProg
import Derived.Test.YtlhonhacehgooaaGreatZrPln
import Derived.Test.YtlhonhacehgooaaGreatZrRwt
import Derived.Test.YtlhonhacehgooaaGreatZrCol
import Derived.Test.YtlhonhacehgooaaGreatZrMjg
import Derived.Test.YtlhonhacehgooaaGreatZrTbg
import Derived.Deep.DeepCutAuto
import Derived.Test.YtlhonhacehgooaaGreatZrExc
/-
  Contracts of the functions that mark a result's memory and look whether the marks are still held: rows of values, numbers.
-/
namespace Go.Proofs.YtlhonhacehgooaaGreat
open Go.RowKit Go.Qo
set_option linter.unusedVariables false
set_option linter.unusedSimpArgs false

theorem set_mid {α : Type} (xs ys : List α) (y : α) (i : Nat) (hl : xs.length = i) (hi : i < ys.length) : (xs ++ ys.drop i).set i y = (xs ++ [y]) ++ ys.drop (i + 1) := by
  rw [List.set_append_right _ _ (by omega), hl, Nat.sub_self, List.drop_eq_getElem_cons hi, List.set_cons_zero, List.append_assoc, List.singleton_append]

/-- The block of a slice value, if it has one. -/
def OwnB (v : Value) : Nat → Prop := fun i => v.ownBlock = some i

end Go.Proofs.YtlhonhacehgooaaGreat

/-
  Contracts: marks of tables of the call's own.
-/
namespace Go.Proofs.YtlhonhacehgooaaGreat
open Go.RowKit Go.Qo
set_option linter.unusedVariables false
set_option linter.unusedSimpArgs false

theorem Row.ow {α : Type} {sz : Nat} {enc : α → List Value} (he : ∀ x, (enc x).length = sz) {w : World} {lo b : Nat} {t : TypeId} {xs : List α} (h : Row w b t (xs.flatMap enc)) (hlo : lo ≤ b) (hm : xs.length ≤ maxLen) :
    Ow lo t sz enc w (.slice (some ⟨b, 0, none⟩) xs.length xs.length) xs :=
  ⟨flat_length sz enc he xs, .inr ⟨b, xs.length, _, rfl, hlo, h, Nat.le_refl _, hm, by simp [flat_length sz enc he xs], by simp; rw [List.take_of_length_le (by rw [flat_length sz enc he xs]; omega)]⟩⟩

end Go.Proofs.YtlhonhacehgooaaGreat

/-
  Contracts: marks of tables of the program's making, and whether they are still held.
-/
namespace Go.Proofs.YtlhonhacehgooaaGreat
open Go.RowKit Go.Qo
set_option linter.unusedVariables false
set_option linter.unusedSimpArgs false

theorem Ow.apart {α : Type} {lo : Nat} {e : TypeId} {sz : Nat} {enc : α → List Value} {w w' : World} {v : Value} {xs : List α} {S : Nat → Prop} (h : Ow lo e sz enc w v xs) (k : Only S w w') (hS : ∀ b, v.ownBlock = some b → ¬ S b) : Ow lo e sz enc w' v xs := by
  refine ⟨h.1, ?_⟩
  rcases h.2 with h2 | ⟨g, cap, cur, hv, hg, hh, r⟩
  · exact .inl h2
  · exact .inr ⟨g, cap, cur, hv, hg, (k.block g (Array.getElem?_eq_some_iff.1 hh).1 (hS g (by rw [hv]; rfl))).trans hh, r⟩
/-- One row is written anew. -/
theorem Cps.put {lo : Nat} {z z' : World} {cp : List SRw} {i : Nat} {p : SRw} {ys : Row1} (h : Cps lo z cp) (hi : cp[i]? = some p) (hk : Only (OwnB (.slice p.1.A p.1.n p.1.c)) z z') (hp : OwP lo z' (p.1, ys)) : Cps lo z' (cp.set i (p.1, ys)) := by
  have hil := (List.getElem?_eq_some_iff.1 hi).1
  have hie := (List.getElem?_eq_some_iff.1 hi).2
  refine ⟨fun q hq => ?_, ?_⟩
  · obtain ⟨j, hj, rfl⟩ := List.getElem_of_mem hq
    rw [List.length_set] at hj
    rw [List.getElem_set]
    split
    · exact hp
    · rename_i hne
      have h1 := h.1 cp[j] (List.getElem_mem hj)
      refine ⟨h1.1, Ow.apart h1.2 hk fun b hb hc => ?_⟩
      have hpw := List.pairwise_iff_getElem.1 h.2
      rcases Nat.lt_or_gt_of_ne hne with hlt | hlt
      · exact hpw i j hil hj hlt b (by rw [hie]; exact hc) hb
      · exact hpw j i hj hil hlt b hb (by rw [hie]; exact hc)
  · have e : (cp.set i (p.1, ys)).map (·.1) = cp.map (·.1) := by
      rw [List.map_set]
      apply List.ext_getElem?
      intro j
      rw [List.getElem?_set]
      split
      · rename_i h1
        subst h1
        rw [List.getElem?_map, hi]
        simp [hil]
      · rfl
    have key : ∀ l : List SRw, l.Pairwise Apart ↔ (l.map (·.1)).Pairwise fun s t => ∀ b, svB s = some b → svB t ≠ some b := fun l => by rw [List.pairwise_map]; rfl
    rw [key, e, ← key]
    exact h.2

end Go.Proofs.YtlhonhacehgooaaGreat

/-
  What laws about two tables share: the reference's table and the program's are the same; tables of the call's own read as rows.
-/
namespace Go.Proofs.YtlhonhacehgooaaGreat
open Go.RowKit Go.Qo
set_option linter.unusedVariables false
set_option linter.unusedSimpArgs false

theorem tab_same {q : Bool} {W W1 W2 : Int} {rs ri out out' : List Row1} (hv : q = true → rs.Perm ri ∧ ∀ r ∈ rs, RowOk W r) (h : TabD q W rs W1 out) (h' : TabC q W ri W2 out') : W2 = W1 ∧ out' = out := by
  rcases h with ⟨hq, rfl, rfl⟩ | ⟨hq, rfl, h1⟩
  · rcases h' with ⟨_, rfl, rfl⟩ | ⟨hq', _, _⟩
    · exact ⟨rfl, rfl⟩
    · rw [hq] at hq'; cases hq'
  · rcases h' with ⟨hq', _, _⟩ | ⟨_, rfl, h2⟩
    · rw [hq] at hq'; cases hq'
    · obtain ⟨hp, hr⟩ := hv hq
      refine ⟨rfl, ?_⟩
      by_cases hl : rs.length ≤ 400
      · rw [if_pos hl] at h1
        rw [if_pos (hp.length_eq ▸ hl)] at h2
        have hp1 := h1.perm
        exact srt_unique (W := W2) (fun r h3 => hr r ((h2.1.trans hp.symm).mem_iff.1 h3)) ((h2.1.trans hp.symm).trans hp1.symm) h2.2 (h1.srt hr)
      · rw [if_neg hl] at h1
        rw [if_neg (hp.length_eq ▸ hl)] at h2
        rw [h1, h2]
theorem tabC_bd {q : Bool} {W W2 : Int} {ri out : List Row1} (hv : q = true → ∀ r ∈ ri, RowOk W r) (h : TabC q W ri W2 out) : out.length ≤ 400 ∧ ∀ r ∈ out, r.length ≤ 16 := by
  rcases h with ⟨hq, rfl, rfl⟩ | ⟨hq, rfl, h1⟩
  · exact ⟨by simp, fun r h => by simp at h⟩
  · by_cases hl : ri.length ≤ 400
    · rw [if_pos hl] at h1
      refine ⟨by rw [h1.1.length_eq]; exact hl, fun r hr => ?_⟩
      have := rowValid_len (hv hq r (h1.1.mem_iff.1 hr)).1
      omega
    · rw [if_neg hl] at h1
      subst h1
      exact ⟨by simp, fun r h => by simp at h⟩
theorem OwnRs.sv {w : World} {B0 b : Nat} {bs : List Nat} {rows : List Row1} {tO tI : TypeId} (h : OwnRs valC tO tI w B0 b bs rows []) (hm : ∀ r ∈ rows, r.length ≤ maxLen) :
    ∃ svs, Sl 1 svC w w.heap.size (some ⟨b, 0, none⟩) svs ∧ RowsT tI 2 valC 0 w svs rows := by
  refine ⟨List.zipWith rowSV bs rows, Row.sl (t := tO) (more := []) svC_length h.outer, by rw [List.length_zipWith, h.len, Nat.min_self], fun i s xs h1 h2 => ?_⟩
  rw [List.getElem?_zipWith, h2] at h1
  cases hc : bs[i]? with
  | none => rw [hc] at h1; simp at h1
  | some c =>
    rw [hc] at h1
    simp only [Option.some.injEq] at h1
    subst h1
    exact ⟨rfl, Nat.le_refl _, hm xs (List.mem_of_getElem? h2), Row.slT' valC_length (h.inner i c xs hc h2) (Nat.zero_le _)⟩
theorem belT {B b : Nat} {a z : World} (h : Below B a z) (hb : B ≤ b) (u u' : Value) : Below B a ((z.setCell ⟨b, 0, none⟩ u).setCell ⟨b, 1, none⟩ u') := (h.setCell hb _).setCell hb _
theorem onlyT (w : World) (b : Nat) (u u' : Value) : Only (fun i => i = b) w ((w.setCell ⟨b, 0, none⟩ u).setCell ⟨b, 1, none⟩ u') :=
  (Only.set (S := fun i => i = b) (p := ⟨b, 0, none⟩) (Only.refl w) (.inl rfl) u).set (p := ⟨b, 1, none⟩) (.inl rfl) u'
theorem Rws.below {B : Nat} {A : Option Addr} {w w' : World} {out : List Row1} (h : Rws w B A out) (hb : Below B w w') : Rws w' B A out := by
  obtain ⟨svs, h1, h2, h3⟩ := h
  exact ⟨svs, h1, h2.below hb, fun i s xs ha hc => by
    obtain ⟨k1, k2, k3, k4⟩ := h3 i s xs ha hc
    exact ⟨k1, k2, k3, k4.below hb⟩⟩
theorem Rws.more {B B' : Nat} {A : Option Addr} {w : World} {out : List Row1} (h : Rws w B A out) (hB : B ≤ B') : Rws w B' A out := by
  obtain ⟨svs, h1, h2, h3⟩ := h
  exact ⟨svs, h1, h2.more hB, fun i s xs ha hc => by
    obtain ⟨k1, k2, k3, k4⟩ := h3 i s xs ha hc
    exact ⟨k1, k2, k3, k4.more hB⟩⟩
/-- The reference's table: its width, its rows. -/
theorem SpecTab.read {q : Bool} {W : Int} {rows : List Row1} {w w' : World} {e : Ending} (h : SpecTab q W rows w e w') : ∃ (W1 : Int) (A : Option Addr) (c : Nat) (svs : List SV) (out : List Row1), e = .returned (.tuple #[.agg #[.int .i64 W1, .slice A out.length c], .bool q]) ∧ TabD q W rows W1 out ∧ Ow w.heap.size 104 1 svC w' (.slice A out.length c) svs ∧ RowsT 55 2 valC 0 w' svs out ∧ Below w.heap.size w w' := by
  obtain ⟨W1, v, svs, out, rfl, h1, h2, h3, h4⟩ := h
  obtain ⟨A, c, rfl, _, _, _⟩ := h2.shape svC_length
  have hl := h3.1
  rw [hl] at h2 ⊢
  exact ⟨W1, A, c, svs, out, rfl, h1, h2, h3, h4⟩
theorem TabRes.read {q : Bool} {W : Int} {rows : List Row1} {w w' : World} {e : Ending} (h : TabRes q W rows w e w') : ∃ (W1 : Int) (A : Option Addr) (c : Nat) (cp : List SRw), e = .returned (.tuple #[.agg #[.int .i64 W1, .slice A cp.length c], .bool q]) ∧ TabC q W rows W1 (cp.map (·.2)) ∧ Ow w.heap.size 104 1 svC w' (.slice A cp.length c) (cp.map (·.1)) ∧ Cps w.heap.size w' cp ∧ Below w.heap.size w w' := by
  obtain ⟨W1, v, cp, rfl, h1, h2, h3, h4⟩ := h
  obtain ⟨A, c, rfl, _, _, _⟩ := h2.shape svC_length
  rw [List.length_map] at h2 ⊢
  exact ⟨W1, A, c, cp, rfl, h1, h2, h3, h4⟩
theorem rws_cp {lo lo' : Nat} {w : World} {A : Option Addr} {c : Nat} {cp : List SRw} (h : Ow lo' 104 1 svC w (.slice A cp.length c) (cp.map (·.1))) (h' : Cps lo w cp) : Rws w w.heap.size A (cp.map (·.2)) := by
  obtain ⟨A2, c2, e, _, _, h2⟩ := h.shape svC_length
  injection e with e1 e2 e3
  subst e1
  exact sls_of' h2.sl h'.rows
theorem rws_sv {lo' : Nat} {w : World} {A : Option Addr} {c : Nat} {svs : List SV} {out : List Row1} (h : Ow lo' 104 1 svC w (.slice A out.length c) svs) (h' : RowsT 55 2 valC 0 w svs out) : Rws w w.heap.size A out := by
  obtain ⟨A2, c2, e, _, _, h2⟩ := h.shape svC_length
  injection e with e1 e2 e3
  subst e1
  exact sls_of' h2.sl h'
end Go.Proofs.YtlhonhacehgooaaGreat

/-
  Contracts of equalRows, equalBags, equalTables: the statements' own.
-/
namespace Go.Proofs.YtlhonhacehgooaaGreat
open Go.RowKit Go.Qo
set_option linter.unusedVariables false
set_option linter.unusedSimpArgs false

set_option maxHeartbeats 400000 in
theorem equalRows_ok (A A' : Option Addr) (c c' : Nat) (xs ys : List Val) (w : World) (hn : xs.length ≤ maxLen) (hn' : ys.length ≤ maxLen) (h : Sl 2 valC w w.heap.size A xs) (h' : Sl 2 valC w w.heap.size A' ys) :
    Calls Tryz.prog 122 #[.slice A xs.length c, .slice A' ys.length c'] w fun e w' => e = .returned (.bool (decide (xs = ys))) ∧ Below w.heap.size w w' := by
  unfold maxLen at hn hn'
  by_cases hl : xs.length = ys.length
  · have hl' := Lib.hid hl
    have hle : xs.length ≤ ys.length := by omega
    have hne : ((xs.length : Int) != (ys.length : Int)) = false := by simp [hl]
    clear hl
    go_enter Tryz.func122, Tryz.ntmps122
    go_wp2
    go_loopg [5] (xs.length) (fun g i wr => ∃ k : Nat, k ≤ xs.length ∧ g = xs.length - k ∧ i = .int .i64 k ∧ Below w.heap.size w wr ∧ xs.take k = ys.take k)
    case atStart => exact ⟨0, by omega, by omega, rfl, Below.refl _ _, rfl⟩
    case round =>
      obtain ⟨k, hk, rfl, rfl, hb, hp⟩ := hrel
      have Hp := Lib.hid hp
      clear hp
      by_cases hlt : k < xs.length
      · obtain ⟨b, off, rfl, hB, c1, c2⟩ := Val.at_ (h.below hb) hlt
        obtain ⟨b', off', rfl, hB', c1', c2'⟩ := Val.at_ (h'.below hb) (i := k) (by omega)
        have hx := Lib.hid (List.getElem?_eq_getElem hlt)
        have hy := Lib.hid (List.getElem?_eq_getElem (show k < ys.length by omega))
        generalize xs[k] = x at *
        generalize ys[k] = y at *
        have hlt' : k < ys.length := by omega
        have hg := eqgVal
        by_cases hxy : x = y
        · have hneq := neqVal (x := x) (y := y) false (by simp [hxy])
          have Hxy := Lib.hid hxy
          clear hxy
          go_wp2
          go_quiet (fail)
          go_wp2
          go_roundg (xs.length - (k + 1))
          case measure => omega
          case rel => exact ⟨k + 1, by omega, rfl, by go_num, bdrewN hb _, take_eq_succ Hp.out hx.out (Hxy.out ▸ hy.out)⟩
        · have hneq := neqVal (x := x) (y := y) true (by simp [hxy])
          have Hxy := Lib.hid hxy
          clear hxy
          go_wp2
          go_quiet (fail)
          go_wp2
          go_ret
          exact ⟨ret_bool (decide_eq_false (ne_of_at hx.out hy.out Hxy.out)).symm, bdrewN hb _⟩
      · go_wp2
        go_ret
        exact ⟨ret_bool (decide_eq_true (eq_of_take Hp.out (by omega) (by have := hl'.out; omega))).symm, hb⟩
  · go_enter Tryz.func122, Tryz.ntmps122
    go_wp2
    go_ret
    exact ⟨ret_bool (decide_eq_false fun he => hl (by rw [he])).symm, Below.refl _ _⟩

set_option maxHeartbeats 400000 in
theorem equalBags_ok (A A' : Option Addr) (c c' : Nat) (xs ys : List Row1) (w : World) (hn : xs.length ≤ maxLen) (hn' : ys.length ≤ maxLen) (h : Rws w w.heap.size A xs) (h' : Rws w w.heap.size A' ys) :
    Calls Tryz.prog 68 #[.slice A xs.length c, .slice A' ys.length c'] w fun e w' => e = .returned (.bool (decide (xs = ys))) ∧ Below w.heap.size w w' := by
  unfold maxLen at hn hn'
  by_cases hl : xs.length = ys.length
  · have hl' := Lib.hid hl
    have hle : xs.length ≤ ys.length := by omega
    have hne : ((xs.length : Int) != (ys.length : Int)) = false := by simp [hl]
    clear hl
    go_enter Tryz.func68, Tryz.ntmps68
    go_wp2
    go_loopg [5] (xs.length) (fun g i wr => ∃ k : Nat, k ≤ xs.length ∧ g = xs.length - k ∧ i = .int .i64 k ∧ Below w.heap.size w wr ∧ xs.take k = ys.take k)
    case atStart => exact ⟨0, by omega, by omega, rfl, Below.refl _ _, rfl⟩
    case round =>
      obtain ⟨k, hk, rfl, rfl, hb, hp⟩ := hrel
      have Hp := Lib.hid hp
      clear hp
      by_cases hlt : k < xs.length
      · obtain ⟨b, off, A1, C1, rfl, hB, c1, hc1, hm1, s1⟩ := (h.on hb).at_ hlt
        obtain ⟨b', off', A2, C2, rfl, hB', c2, hc2, hm2, s2⟩ := (h'.on hb).at_ (i := k) (by omega)
        have hx := Lib.hid (List.getElem?_eq_getElem hlt)
        have hy := Lib.hid (List.getElem?_eq_getElem (show k < ys.length by omega))
        generalize xs[k] = x at *
        generalize ys[k] = y at *
        have d1 := fun z : Aft wr.heap.size wr => z.cell (by omega) c1
        have d2 := fun z : Aft wr.heap.size wr => z.cell (by omega) c2
        have hlt' : k < ys.length := by omega
        obtain ⟨r, hr⟩ : ∃ r, decide (x = y) = r := ⟨_, rfl⟩
        have key := fun z : Aft wr.heap.size wr => equalRows_ok A1 A2 C1 C2 x y z.v (by omega) (by omega) (s1.on z.h) (s2.on z.h)
        rw [hr] at key
        have Hk := Lib.hid key
        have Hr := Lib.hid hr
        clear key hr s1 s2 hc1 hm1 hc2 hm2
        go_wp2
        refine wp_region_aft wr.heap.size (by kernel_rfl) (by kernel_rfl) ?_
        repeat (go_big_quiet_step ((go_at_call 122; exact Calls.aft (Nat.le_refl _) (Hk.out _))))
        refine wpQuiet_nil ?_
        intro _ hw'
        obtain ⟨⟨w1, hb1⟩, rfl⟩ := hw'
        cases r
        · go_wp2
          go_ret
          exact ⟨ret_bool (decide_eq_false (ne_of_at hx.out hy.out (of_decide_eq_false Hr.out))).symm, bch hb hb1⟩
        · go_wp2
          go_roundg (xs.length - (k + 1))
          case measure => omega
          case rel => exact ⟨k + 1, by omega, rfl, by go_num, bch hb hb1, take_eq_succ Hp.out hx.out (of_decide_eq_true Hr.out ▸ hy.out)⟩
      · go_wp2
        go_ret
        exact ⟨ret_bool (decide_eq_true (eq_of_take Hp.out (by omega) (by have := hl'.out; omega))).symm, hb⟩
  · go_enter Tryz.func68, Tryz.ntmps68
    go_wp2
    go_ret
    exact ⟨ret_bool (decide_eq_false fun he => hl (by rw [he])).symm, Below.refl _ _⟩

set_option maxHeartbeats 400000 in
theorem equalTables_ok (W W' : Int) (A A' : Option Addr) (c c' : Nat) (xs ys : List Row1) (w : World) (hn : xs.length ≤ maxLen) (hn' : ys.length ≤ maxLen) (h : Rws w w.heap.size A xs) (h' : Rws w w.heap.size A' ys) (r : Bool) (hr : r = true ↔ (W = W' ∧ xs = ys)) :
    Calls Tryz.prog 26 #[.agg #[.int .i64 W, .slice A xs.length c], .agg #[.int .i64 W', .slice A' ys.length c']] w fun e w' => e = .returned (.bool r) ∧ Below w.heap.size w w' := by
  have Hr := Lib.hid hr
  obtain ⟨d, hd⟩ : ∃ d, decide (xs = ys) = d := ⟨_, rfl⟩
  have Hk := Lib.hid (fun (z : World) (hz : Below w.heap.size w z) => equalBags_ok A A' c c' xs ys z hn hn' (h.on hz) (h'.on hz))
  rw [hd] at Hk
  have Hd := Lib.hid hd
  clear hr h h' hd
  by_cases hW : W = W'
  · subst hW
    have hrd : r = d := by
      cases d
      · exact bfalse Hr.out fun ht => of_decide_eq_false Hd.out ht.2
      · exact btrue Hr.out ⟨rfl, of_decide_eq_true Hd.out⟩
    subst hrd
    cases r
    all_goals
      go_enter Tryz.func26, Tryz.ntmps26
      go_wp2_with (go_at_call 68; refine (Hk.out _ (balloc (balloc (Below.refl _ _) _) _)).mono ?_; rintro e w1 ⟨rfl, hb1⟩)
      go_ret
      exact ⟨rfl, bbox2 (by assumption)⟩
  · have hf : r = false := bfalse Hr.out fun ht => hW ht.1
    subst hf
    have hwb : (W == W') = false := by simp [hW]
    clear hW
    go_enter Tryz.func26, Tryz.ntmps26
    go_wp2
    go_ret
    exact ⟨rfl, balloc (balloc (Below.refl _ _) _) _⟩

end Go.Proofs.YtlhonhacehgooaaGreat

/-
  How many rows a collected table has.
-/
namespace Go.Proofs.YtlhonhacehgooaaGreat
open Go.RowKit Go.Qo
set_option linter.unusedVariables false

end Go.Proofs.YtlhonhacehgooaaGreat

/-
  Contract of the drawing of a table that may be no valid one: anyTable.
-/
namespace Go.Proofs.YtlhonhacehgooaaGreat
open Go.RowKit Go.Qo
set_option linter.unusedVariables false
set_option linter.unusedSimpArgs false

/-- A drawn table, valid or not. -/
def AnyTab (most : Nat) (b p : Nat) (w : World) (e : Ending) (w' : World) : Prop :=
  ∃ (W : Int) (v : Value) (svs : List SV) (rows : List Row1), e = .returned (.agg #[.int .i64 W, v]) ∧ W ≤ 16 ∧ rows.length ≤ most + 1 ∧ (∀ r ∈ rows, r.length ≤ 16) ∧ Ow w.heap.size 104 1 svC w' v svs ∧ RowsT 55 2 valC w.heap.size w' svs rows ∧ But b w w' ∧ Rd w' b p

theorem anyFin {most b p p' : Nat} {w wz : World} {W' : Int} {v : Value} {svs : List SV} {rows : List Row1} (hlt : b < w.heap.size) (hb : But b w wz) (hO : Ow w.heap.size 104 1 svC wz v svs) (hR : RowsT 55 2 valC w.heap.size wz svs rows) (hRd : Rd wz b p') (hp : p' ≤ p)
    (hT : TyAt wz w.heap.size 32) (hW : W' ≤ 16) (hl : rows.length ≤ most + 1) (hr : ∀ r ∈ rows, r.length ≤ 16) : AnyTab most b p w (.returned (.agg #[.int .i64 W', v])) ((wz.setCell ⟨w.heap.size, 0, none⟩ (.int .i64 W')).setCell ⟨w.heap.size, 1, none⟩ v) := by
  have hS0 := (Only.set (S := fun i => i = w.heap.size) (p := ⟨w.heap.size, 0, none⟩) (Only.refl wz) (.inl rfl) (.int .i64 W')).set (p := ⟨w.heap.size, 1, none⟩) (.inl rfl) v
  refine ⟨W', v, svs, rows, rfl, hW, hl, hr, hO.only hS0 fun k hk => .inr ⟨32, by decide, by subst hk; exact hT⟩, hR.only hS0 fun k hk => .inr ⟨32, by decide, by subst hk; exact hT⟩, ?_, ?_⟩
  · exact (hb.set (p := ⟨_, _, none⟩) (.inr (Nat.le_refl _)) _).set (p := ⟨_, _, none⟩) (.inr (Nat.le_refl _)) _
  · exact ((hRd.set (a := ⟨_, _, none⟩) hlt _).set (a := ⟨_, _, none⟩) hlt _).mono hp

set_option maxRecDepth 20000 in
set_option maxHeartbeats 2000000 in
theorem anyTable_ok (b p : Nat) (W most : Int) (w : World) (h : Rd w b p) (hp : p + 40000 ≤ 1099511627776) (hW : W ≤ 6) (hW1 : 1 ≤ W) (hm0 : 0 ≤ most) (hm : most ≤ 16) :
    Calls Tryz.prog 70 #[.pointer (some ⟨b, 0, none⟩), .int .i64 W, .int .i64 most] w (AnyTab most.toNat b (p + 17000) w) := by
  have hlt := h.lt
  have HT := Lib.hid (randomTable_ok b p W most _ (h.on (balloc (Below.refl _ w) (.cells #[.int .i64 0, .slice none 0 0] 32))) (by omega) (by omega) hm0 (by omega))
  clear h
  go_enter Tryz.func70, Tryz.ntmps70
  go_wp2_with fail
  refine HT.out.mono ?_
  rintro e w1 ⟨v1, svs, rows0, rows, rfl, hrl, hrv, hbt, how1, hrt1, hb1, hR1⟩
  obtain ⟨A1, c1, rfl, hc11, hc12, hs1⟩ := how1.shape svC_length
  have hz1 := hb1.size
  rw [World.size_alloc] at hz1
  have hrw : rows.length ≤ most.toNat := by
    have h1 := hbt.perm.length_eq
    omega
  have hrr : ∀ r ∈ rows, r.length ≤ 16 := fun r hr => by
    have h2 := (hrv r (hbt.perm.mem_iff.1 hr)).1
    omega
  have RB := Lib.hid (((Row.new w 32 #[.int .i64 0, .slice none 0 0]).only hb1 (by omega)).alloc (.cells #[.int .i64 W, .slice A1 svs.length c1] 32))
  have R7 := Lib.hid (Row.new w1 32 #[.int .i64 W, .slice A1 svs.length c1])
  have H0 := Lib.hid (((Only.refl (S := fun k => k = b) w).alloc (.cells #[.int .i64 0, .slice none 0 0] 32)).trans hb1 |>.alloc (.cells #[.int .i64 W, .slice A1 svs.length c1] 32))
  have HO := Lib.hid (((how1.on (balloc (Below.refl _ _) (.cells #[.int .i64 W, .slice A1 svs.length c1] 32))).low (show w.heap.size ≤ (w.alloc (.cells #[.int .i64 0, .slice none 0 0] 32)).heap.size by simp)))
  have HRT := Lib.hid (((hrt1.on (balloc (Below.refl _ _) (.cells #[.int .i64 W, .slice A1 svs.length c1] 32))).low (show w.heap.size ≤ (w.alloc (.cells #[.int .i64 0, .slice none 0 0] 32)).heap.size by simp)))
  have HP := Lib.hid (pick_ok b (p + 16001) 20 _ (hR1.on (balloc (Below.refl _ w1) (.cells #[.int .i64 W, .slice A1 svs.length c1] 32))) (by omega))
  have HLN := Lib.hid (And.intro hrw hrr)
  have hsl : svs.length = rows.length := hrt1.1
  have hsv : svs.length ≤ 16 := by omega
  have HSL := Lib.hid hsl
  clear how1 hrt1 hbt hrv hrl hb1 hR1 hs1 hrw hrr hsl
  go_wp2_with fail
  refine HP.out.mono ?_
  rintro e w2 ⟨r, rfl, hr, hb2, hsz2, hR2⟩
  have hbl : b < w1.heap.size := by omega
  have B2 := Lib.hid (H0.out.trans hb2)
  have RB2 := Lib.hid (RB.out.only hb2 (by omega))
  have R72 := Lib.hid (R7.out.only hb2 (by omega))
  have HO2 := Lib.hid (HO.out.only hb2 (by intro k hk; left; omega))
  have HRT2 := Lib.hid (HRT.out.only hb2 (by intro k hk; left; omega))
  have HR2 := Lib.hid hR2
  rw [World.size_alloc] at hsz2
  have hz2 : w1.heap.size + 1 = w2.heap.size := hsz2
  clear hb2 hR2 hr hsz2
  have q0 := RB2.out.lt
  have q1 := RB2.out.frozen 0
  have q2 := RB2.out.frozen 1
  have q3 : w2.cell? ⟨w.heap.size, 0, none⟩ = some (.int .i64 0) := RB2.out.cell 0
  have q4 : w2.cell? ⟨w.heap.size, 1, none⟩ = some (.slice none 0 0) := RB2.out.cell 1
  have p0 := R72.out.lt
  have p1 := R72.out.frozen 0
  have p2 := R72.out.frozen 1
  have p3 : w2.cell? ⟨w1.heap.size, 0, none⟩ = some (.int .i64 W) := R72.out.cell 0
  have p4 : w2.cell? ⟨w1.heap.size, 1, none⟩ = some (.slice A1 svs.length c1) := R72.out.cell 1
  have hne : ¬ (w1.heap.size = w.heap.size) := by omega
  have hne' : ¬ (w.heap.size = w1.heap.size) := by omega
  by_cases h0 : r = 0
  · subst h0
    have HO3 := Lib.hid (one_ok b (p + 16001 + 1) (some ⟨w2.heap.size, 0, none⟩) 3 [0, 7, 2] _ (HR2.out.on (balloc (Below.refl _ _) _)) (by omega) (by decide) (by decide) (ints5 w2 [0, 7, 2] 3) (by rintro a ha; cases ha; exact (show w2.heap.size ≠ b by omega)))
    go_wp2_with fail
    refine HO3.out.mono ?_
    rintro e w3 ⟨k, rfl, hk, hb3, _, hR3⟩
    have hk16 : k ≤ 16 := by simp at hk; omega
    have RB3 := (RB2.out.alloc (.cells ([0, 7, 2].map (Value.int .i64)).toArray 3)).only hb3 (by omega)
    have R73 := (R72.out.alloc (.cells ([0, 7, 2].map (Value.int .i64)).toArray 3)).only hb3 (by omega)
    have HRB3 := Lib.hid RB3
    have HR73 := Lib.hid R73
    have HO4 := Lib.hid (((HO2.out.on (balloc (Below.refl _ _) (.cells ([0, 7, 2].map (Value.int .i64)).toArray 3)))).only hb3 (by intro k hk; left; omega))
    have HRT4 := Lib.hid (((HRT2.out.on (balloc (Below.refl _ _) (.cells ([0, 7, 2].map (Value.int .i64)).toArray 3)))).only hb3 (by intro k hk; left; omega))
    have B3 := Lib.hid ((B2.out.alloc (.cells ([0, 7, 2].map (Value.int .i64)).toArray 3)).trans hb3)
    have HR3 := Lib.hid hR3
    clear q0 q1 q2 q3 q4 p0 p1 p2 p3 p4 hb3 hR3 hk
    have q0 := RB3.lt
    have q1 := RB3.frozen 0
    have q2 := RB3.frozen 1
    have q3 : w3.cell? ⟨w.heap.size, 0, none⟩ = some (.int .i64 0) := RB3.cell 0
    have q4 : w3.cell? ⟨w.heap.size, 1, none⟩ = some (.slice none 0 0) := RB3.cell 1
    have p0 := R73.lt
    have p1 := R73.frozen 0
    have p2 := R73.frozen 1
    have p3 : w3.cell? ⟨w1.heap.size, 0, none⟩ = some (.int .i64 W) := R73.cell 0
    have p4 : w3.cell? ⟨w1.heap.size, 1, none⟩ = some (.slice A1 svs.length c1) := R73.cell 1
    clear RB3 R73
    go_wp2
    have hS1 := Only.set (S := fun i => i = w1.heap.size) (p := ⟨w1.heap.size, 0, none⟩) (Only.refl w3) (.inl rfl) (.int .i64 k)
    refine bodyPost_ret (v := .agg #[.int .i64 k, .slice A1 svs.length c1]) (by simp [results, Tryz.results70, go_sem, q0, q1, q2, q3, q4, p0, p1, p2, p3, p4, hne, hne']) rfl (anyFin (svs := svs) (rows := rows) (p' := p + 16001 + 1 + 1) hlt ?_ ?_ ?_ ?_ (by omega) ?_ hk16 (by have := HLN.out.1; omega) HLN.out.2)
    · exact B3.out.set (p := ⟨w1.heap.size, 0, none⟩) (.inr (show w.heap.size ≤ w1.heap.size by omega)) _
    · exact HO4.out.only hS1 fun i hi => .inr ⟨32, by decide, by subst hi; exact HR73.out.ty⟩
    · exact HRT4.out.only hS1 fun i hi => .inr ⟨32, by decide, by subst hi; exact HR73.out.ty⟩
    · exact HR3.out.set (a := ⟨w1.heap.size, 0, none⟩) hbl _
    · exact (HRB3.out.far (p := ⟨w1.heap.size, 0, none⟩) hne' _).ty
  · by_cases h1 : r = 1
    · subst h1
      rcases Nat.eq_zero_or_pos svs.length with hz | hz
      · have hz0 : ¬ ((0 : Int) < (svs.length : Int)) := by omega
        have hzz := Lib.hid hz
        clear hz
        go_wp2
        exact bodyPost_ret (v := .agg #[.int .i64 W, .slice A1 svs.length c1]) (by simp [results, Tryz.results70, go_sem, q0, q1, q2, q3, q4]) rfl (anyFin hlt B2.out HO2.out HRT2.out HR2.out (by omega) RB2.out.ty (by omega) (by have := HLN.out.1; omega) HLN.out.2)
      · have hz0 : ((0 : Int) < (svs.length : Int)) := by omega
        obtain ⟨g, hA, _, hg, hgl, hgT, hgf, hgc⟩ := HO2.out.head svC_length hz
        subst hA
        have hzr : 0 < rows.length := by have := HSL.out; omega
        obtain ⟨s, hs⟩ : ∃ s, svs[0]? = some s := ⟨_, List.getElem?_eq_getElem hz⟩
        obtain ⟨x0, hx0⟩ : ∃ x, rows[0]? = some x := ⟨_, List.getElem?_eq_getElem hzr⟩
        obtain ⟨hsn, hsc, hscm, hsT⟩ := HRT2.out.2 0 s x0 hs hx0
        have hx16 : x0.length ≤ 16 := HLN.out.2 x0 (List.mem_of_getElem? hx0)
        have hc0 : w2.cell? ⟨g, 0, none⟩ = some (.slice s.A x0.length s.c) := by
          rw [← hsn]
          refine hgc 0 _ ?_
          exact flat_get 1 svC svC_length svs 0 s 0 _ hs rfl
        have hgf0 := hgf 0
        have HC := Lib.hid (copyRow_ok s.A s.c x0 w2.drew (by omega) (hsT.sl))
        have H2F := Lib.hid (And.intro hsn (And.intro hsc (And.intro hscm (And.intro hs hx0))))
        clear hgc hgf hgT hsT hsn hsc hscm hs hx0
        go_wp2
        go_region_law (first
          | (go_simp; go_at_call 120; refine HC.out.mono ?_; rintro e w3 ⟨v3, rfl, how3, hb3'⟩; have hb3 : Below w2.heap.size w2 w3 := (Below.refl _ w2).drew.trans hb3'; clear hb3'; obtain ⟨A3, c3, rfl, hc31, hc32, hs3⟩ := how3.shape valC_length; have b3c : ∀ b o, b < w2.heap.size → w3.cell? ⟨b, o, none⟩ = w2.cell? ⟨b, o, none⟩ := (fun b o h => hb3.cell (p := ⟨b, o, none⟩) h); have b3f : ∀ b o, b < w2.heap.size → w3.frozen? ⟨b, o, none⟩ = w2.frozen? ⟨b, o, none⟩ := (fun b o h => hb3.frozen (p := ⟨b, o, none⟩) h); have HOx := Lib.hid ((HO2.out.on hb3).on (balloc (Below.refl _ _) (.cells #[.slice A3 x0.length c3] 104))); have HSx := Lib.hid (Row.sl' (w := w3.alloc (.cells #[.slice A3 x0.length c3] 104)) (t := 104) (xs := [(⟨A3, x0.length, c3⟩ : SV)]) svC_length ((Row.new w3 _ _).of rfl)); have hz3 : w2.heap.size ≤ w3.heap.size := hb3.size; have hsz4 : w.heap.size ≤ (w3.alloc (.cells #[.slice A3 x0.length c3] 104)).heap.size := (by simp; omega); have HB3 := Lib.hid hb3; have HR73 := Lib.hid ((R72.out.on hb3).alloc (.cells #[.slice A3 x0.length c3] 104)); have HRB3 := Lib.hid ((RB2.out.on hb3).alloc (.cells #[.slice A3 x0.length c3] 104)); have HX3 := Lib.hid (And.intro hs3 (And.intro hc31 hc32)); have b3c0 := (b3c w1.heap.size 0 p0).trans p3; have b3c1 := (b3c w1.heap.size 1 p0).trans p4; have b3f1 := (b3f w1.heap.size 1 p0).trans p2; have b3g := (b3c g 0 hgl).trans hc0; have b3l : w1.heap.size < w3.heap.size := (by omega); have b3k : w.heap.size < w3.heap.size := (by omega); have b3m : g < w3.heap.size := (by omega); clear b3c b3f hb3 how3 hs3 hc31 hc32)
          | (refine step_app rfl (.tmp 27) (.tmp 33) 30 rfl w.heap.size 104 _ 1 24 svC Tryz.underlying30 zeroRow rfl (by decide) (by decide) svC_length svC_one _ svs rfl HOx.out (some ⟨w3.heap.size, 0, none⟩) 1 1 [(⟨A3, x0.length, c3⟩ : SV)] rfl rfl HSx.out (by simp <;> omega) hsz4 ?_; intro v4 w4 how4 hgr4; obtain ⟨A4, c4, rfl, _, _, _⟩ := how4.shape svC_length; have R74 := HR73.out.keep (hgr4.block _ HR73.out.lt fun e => (TyAt.ne (HOx.out.ty _ e.symm).2.2 HR73.out.ty (by decide)) rfl); have RB4 := HRB3.out.keep (hgr4.block _ HRB3.out.lt fun e => (TyAt.ne (HOx.out.ty _ e.symm).2.2 HRB3.out.ty (by decide)) rfl); have s0 := R74.cell 0; have s1 := R74.cell 1; have s2 := R74.frozen 1; have s3 := RB4.cell 0; have s4 := RB4.cell 1; have s5 := RB4.frozen 0; have s6 := RB4.frozen 1; have s7 := R74.lt; have s8 := RB4.lt; have Hw4 := Lib.hid (And.intro how4 (And.intro hgr4 (And.intro R74 RB4))); clear how4 hgr4 R74 RB4))
        all_goals (
          go_wp2
          obtain ⟨how4, hgr4, R74, RB4⟩ := Hw4.out
          obtain ⟨hs3, hc31, hc32⟩ := HX3.out
          have hrow : ∀ q, Value.ownBlock _ = some q → w.heap.size ≤ q ∧ TyAt _ q 104 := fun q hq => ⟨(HOx.out.ty q hq).1, (HOx.out.ty q hq).2.2⟩
          have how4' : Ow w.heap.size 104 1 svC w4 (.slice A4 (svs.length + 1) c4) (svs ++ [⟨A3, x0.length, c3⟩]) := by rw [List.length_append] at how4; exact how4
          have hS1 := Only.set (S := fun i => i = w1.heap.size) (p := ⟨w1.heap.size, 1, none⟩) (Only.refl w4) (.inl rfl) (.slice A4 (svs.length + 1) c4)
          have hS2 := balloc (Below.refl _ w3) (.cells #[.slice A3 x0.length c3] 104)
          have hX4 := ((HRT2.out.on HB3.out).on hS2).grown hgr4 fun q hq => .inr ⟨_, by decide, (hrow q hq).2⟩
          have hs4 := ((hs3.on hS2).grown hgr4 fun q hq => .inr ⟨_, by decide, (hrow q hq).2⟩).low (show w.heap.size ≤ w2.drew.heap.size from by show w.heap.size ≤ w2.heap.size; omega)
          exact bodyPost_ret (v := .agg #[.int .i64 W, .slice A4 (svs.length + 1) c4]) (by simp [results, Tryz.results70, go_sem, s0, s1, s2, s3, s4, s5, s6, s7, s8, hne, hne']) rfl (anyFin (svs := svs ++ [⟨A3, x0.length, c3⟩]) (rows := rows ++ [x0]) (p' := p + 16001 + 1) hlt
            ((((B2.out.below HB3.out).alloc _).grown hgr4 fun q hq => .inr (hrow q hq).1).set (p := ⟨w1.heap.size, 1, none⟩) (.inr (show w.heap.size ≤ w1.heap.size by omega)) _)
            (how4'.only hS1 fun i hi => .inr ⟨32, by decide, by subst hi; exact R74.ty⟩)
            ((hX4.snoc rfl hc31 hc32 hs4).only hS1 fun i hi => .inr ⟨32, by decide, by subst hi; exact R74.ty⟩)
            ((((HR2.out.on HB3.out).on hS2).grown hgr4 fun q hq => by have := (hrow q hq).1; omega).set (a := ⟨w1.heap.size, 1, none⟩) (show b < w1.heap.size from hbl) _)
            (by omega)
            (RB4.far (p := ⟨w1.heap.size, 1, none⟩) hne' _).ty (by omega) (by have := HLN.out.1; simp; omega)
            (fun r hr => by
              rcases List.mem_append.1 hr with h1 | h1
              · exact HLN.out.2 r h1
              · simp only [List.mem_singleton] at h1
                subst h1
                exact hx16)))
    · by_cases h2 : r = 2
      · subst h2
        rcases Nat.eq_zero_or_pos svs.length with hz | hz
        · have hz0 : ¬ ((0 : Int) < (svs.length : Int)) := by omega
          have hzz := Lib.hid hz
          clear hz
          go_wp2
          exact bodyPost_ret (v := .agg #[.int .i64 W, .slice A1 svs.length c1]) (by simp [results, Tryz.results70, go_sem, q0, q1, q2, q3, q4]) rfl (anyFin hlt B2.out HO2.out HRT2.out HR2.out (by omega) RB2.out.ty (by omega) (by have := HLN.out.1; omega) HLN.out.2)
        · have hz0 : ((0 : Int) < (svs.length : Int)) := by omega
          obtain ⟨g, hA, _, hg, hgl, hgT, hgf, hgc⟩ := HO2.out.head svC_length hz
          subst hA
          have hHT := Lib.hid hgT
          have HAR := Lib.hid (anyRow_ok b (p + 16001 + 1) W w2.drew (HR2.out.on (Below.refl _ _).drew) (by omega) (by omega) hW1)
          obtain ⟨y0, hy0⟩ : ∃ y, w2.cell? ⟨g, 0, none⟩ = some y := ⟨_, hgc 0 _ (List.getElem?_eq_getElem (by rw [flat_length 1 svC svC_length]; omega))⟩
          have hgf0 := hgf 0
          clear hgf hgc hgT
          go_wp2
          go_region_law (first
            | (go_simp; go_at_call 124; refine HAR.out.mono ?_; rintro e w3 ⟨vb, ys, rfl, hyl, hyv, howb, hbb', hRb⟩; have hbb : But b w2 w3 := (Only.refl w2).drew.trans hbb'; clear hbb'; obtain ⟨Ab, cb, rfl, hcb1, hcb2, hsb⟩ := howb.shape valC_length; have hz3 : w2.heap.size ≤ w3.heap.size := hbb.size; have hob := HO2.out.only hbb (by intro k hk; left; omega); obtain ⟨g', hA', _, _, hgl3, _, hgf3, hgc3⟩ := hob.head svC_length hz; cases hA'; obtain ⟨y3, hy3⟩ : ∃ y, w3.cell? ⟨g, 0, none⟩ = some y := ⟨_, hgc3 0 _ (List.getElem?_eq_getElem (by rw [flat_length 1 svC svC_length]; omega))⟩; have hgf30 := hgf3 0; have hr7 := R72.out.only hbb (by omega); have hrb := RB2.out.only hbb (by omega); have s0 := hr7.cell 0; have s1 : w3.cell? ⟨w1.heap.size, 1, none⟩ = some (.slice (some ⟨g, 0, none⟩) svs.length c1) := hr7.cell 1; have s3 := hrb.cell 0; have s4 := hrb.cell 1; have s5 := hrb.frozen 0; have s6 := hrb.frozen 1; have s7 := hr7.lt; have s8 := hrb.lt; have HW3 := Lib.hid (And.intro hob (And.intro hr7 (And.intro hrb (And.intro hbb hRb)))); have HX3 := Lib.hid (And.intro hsb (And.intro hcb1 (And.intro hcb2 hyl))); clear hgf3 hgc3 hob hr7 hrb hbb hRb hsb hcb1 hcb2 hyl hyv howb))
          all_goals (
            have hgw : ¬ (g = w.heap.size) := fun e => (TyAt.ne hHT.out RB2.out.ty (by decide)) (by omega)
            have hgw' : ¬ (w.heap.size = g) := by omega
            have hg1 : ¬ (g = w1.heap.size) := fun e => (TyAt.ne hHT.out R72.out.ty (by decide)) e
            have hg1' : ¬ (w1.heap.size = g) := by omega
            go_wp2
            obtain ⟨how3, R73, RB3, hbb, hRb⟩ := HW3.out
            obtain ⟨hsb, hcb1, hcb2, hyl⟩ := HX3.out
            obtain ⟨_, _, hty3⟩ := how3.ty g rfl
            have hp3 := how3.put 0 (.slice Ab ys.length cb)
            rw [flat_setS svs 0 ⟨Ab, ys.length, cb⟩ hz] at hp3
            have how4 : Ow w.heap.size 104 1 svC (w3.setCell ⟨g, 0, none⟩ (.slice Ab ys.length cb)) (.slice (some ⟨g, 0, none⟩) svs.length c1) (svs.set 0 ⟨Ab, ys.length, cb⟩) := by unfold Ow; rw [List.length_set]; exact hp3
            have hS1 := Only.set (S := fun i => i = g) (p := ⟨g, 0, none⟩) (Only.refl w3) (.inl rfl) (.slice Ab ys.length cb)
            have hX4 := HRT2.out.only hbb (by intro k hk; left; omega)
            have hsb' := hsb.low (show w.heap.size ≤ w2.drew.heap.size from by show w.heap.size ≤ w2.heap.size; omega)
            exact bodyPost_ret (v := .agg #[.int .i64 W, .slice (some ⟨g, 0, none⟩) svs.length c1]) (by simp [results, Tryz.results70, go_sem, s0, s1, s3, s4, s5, s6, s7, s8, hne, hne', hgw, hgw', hg1, hg1']) rfl (anyFin (svs := svs.set 0 ⟨Ab, ys.length, cb⟩) (rows := rows.set 0 ys) (p' := p + 16001 + 1 + 72) hlt
              ((B2.out.trans hbb).set (p := ⟨g, 0, none⟩) (.inr (show w.heap.size ≤ g by omega)) _)
              how4
              ((hX4.only hS1 fun i hi => .inr ⟨104, by decide, by subst hi; exact hty3⟩).set rfl hcb1 hcb2 (hsb'.only hS1 fun i hi => .inr ⟨104, by decide, by subst hi; exact hty3⟩))
              (hRb.set (a := ⟨g, 0, none⟩) (show b < g by omega) _)
              (by omega)
              (RB3.far (p := ⟨g, 0, none⟩) hgw' _).ty (by omega) (by have := HLN.out.1; simp; omega)
              (fun r hr => by
                rcases List.mem_or_eq_of_mem_set hr with h | h
                · exact HLN.out.2 r h
                · subst h; exact hyl)))
      · go_wp2
        exact bodyPost_ret (v := .agg #[.int .i64 W, .slice A1 svs.length c1]) (by simp [results, Tryz.results70, go_sem, q0, q1, q2, q3, q4]) rfl (anyFin hlt B2.out HO2.out HRT2.out HR2.out (by omega) RB2.out.ty (by omega) (by have := HLN.out.1; omega) HLN.out.2)

end Go.Proofs.YtlhonhacehgooaaGreat

/-
  Contracts of the drawing of two tables.
-/
namespace Go.Proofs.YtlhonhacehgooaaGreat
open Go.RowKit Go.Qo
set_option linter.unusedVariables false
set_option linter.unusedSimpArgs false

/-- A drawn table's value v in w, its memory from lo on. -/
def DrTab (lo : Nat) (w : World) (W : Int) (v : Value) (svs : List SV) (rows : List Row1) : Prop :=
  W ≤ 16 ∧ rows.length ≤ 16 ∧ (∀ r ∈ rows, r.length ≤ 16) ∧ Ow lo 104 1 svC w v svs ∧ RowsT 55 2 valC lo w svs rows
theorem DrTab.low {lo lo' : Nat} {w : World} {W : Int} {v : Value} {svs : List SV} {rows : List Row1} (h : DrTab lo w W v svs rows) (hl : lo' ≤ lo) : DrTab lo' w W v svs rows := ⟨h.1, h.2.1, h.2.2.1, h.2.2.2.1.low hl, h.2.2.2.2.low hl⟩
theorem DrTab.on {lo : Nat} {w w' : World} {W : Int} {v : Value} {svs : List SV} {rows : List Row1} (h : DrTab lo w W v svs rows) (hb : Below w.heap.size w w') : DrTab lo w' W v svs rows := ⟨h.1, h.2.1, h.2.2.1, h.2.2.2.1.on hb, h.2.2.2.2.on hb⟩
theorem DrTab.only {lo : Nat} {w w' : World} {S : Nat → Prop} {W : Int} {v : Value} {svs : List SV} {rows : List Row1} (h : DrTab lo w W v svs rows) (hb : Only S w w') (hS : ∀ k, S k → k < lo ∨ TyAt w k 32) : DrTab lo w' W v svs rows :=
  ⟨h.1, h.2.1, h.2.2.1, h.2.2.2.1.only hb fun k hk => (hS k hk).imp id fun ht => ⟨_, by decide, ht⟩, h.2.2.2.2.only hb fun k hk => (hS k hk).imp id fun ht => ⟨_, by decide, ht⟩⟩
theorem DrTab.sl {lo : Nat} {w : World} {W : Int} {A : Option Addr} {n c : Nat} {svs : List SV} {rows : List Row1} (h : DrTab lo w W (.slice A n c) svs rows) : Sl 1 svC w w.heap.size A svs := by
  obtain ⟨A2, c2, e, _, _, h2⟩ := h.2.2.2.1.shape svC_length
  injection e with e1 e2 e3
  subst e1
  exact h2.sl
end Go.Proofs.YtlhonhacehgooaaGreat

/-
  Plain law: how often a row occurs in the difference and in the intersection; the difference is a part of the table. And drawn tables read.
-/
namespace Go.Proofs.YtlhonhacehgooaaGreat
open Go.RowKit Go.Qo
set_option linter.unusedVariables false
set_option linter.unusedSimpArgs false

theorem cnt_perm {l l' : List Row1} (h : l.Perm l') (x : Row1) : cnt l x = cnt l' x := (h.filter _).length_eq
theorem cnt_sub {l l' : List Row1} (h : l.Sublist l') (x : Row1) : cnt l x ≤ cnt l' x := (h.filter _).length_le
theorem tabOk_of {W : Int} {xs rows out : List Row1} (hx : TabOk W xs) (hs : ∀ r ∈ rows, RowOk W r) (hl : rows.length ≤ 400) (hp : out.Perm rows) (ho : out.Pairwise (fun a b => rCmp a b ≤ 0)) : TabOk W out := by
  refine ⟨hx.1, hx.2.1, by rw [hp.length_eq]; exact hl, fun r hr => hs r (hp.mem_iff.1 hr), fun i a b ha hb => ?_⟩
  have h1 := (List.getElem?_eq_some_iff.1 ha)
  have h2 := (List.getElem?_eq_some_iff.1 hb)
  obtain ⟨h1, rfl⟩ := h1
  obtain ⟨h2, rfl⟩ := h2
  exact List.pairwise_iff_getElem.1 ho i (i + 1) h1 h2 (by omega)
theorem tabC_ok {W W1 : Int} {xs rows out : List Row1} (hx : TabOk W xs) (hs : rows.Sublist xs) (h : TabC true W rows W1 out) : W1 = W ∧ out.Perm rows ∧ TabOk W out := by
  rcases h with ⟨h, _⟩ | ⟨_, rfl, h⟩
  · cases h
  · have hl : rows.length ≤ 400 := Nat.le_trans hs.length_le hx.2.2.1
    rw [if_pos hl] at h
    exact ⟨rfl, h.1, tabOk_of hx (fun r hr => tabRows1 hx r (hs.subset hr)) hl h.1 h.2⟩
/-- A drawn table, read. -/
theorem DrTab.read {lo : Nat} {w : World} {W : Int} {v : Value} {svs : List SV} {rows : List Row1} (h : DrTab lo w W v svs rows) :
    ∃ A c, v = .slice A rows.length c ∧ rows.length ≤ c ∧ c ≤ maxLen ∧ Sl 1 svC w w.heap.size A svs ∧ RowsT 55 2 valC 0 w svs rows ∧ rows.length ≤ 16 ∧ (∀ r ∈ rows, r.length ≤ 16) := by
  obtain ⟨_, h2, h3, h4, h5⟩ := h
  obtain ⟨A, c, rfl, h6, h7, h8⟩ := h4.shape svC_length
  have hl := h5.1
  exact ⟨A, c, by rw [hl], by omega, h7, h8.sl, h5.low (Nat.zero_le _), h2, h3⟩
theorem Ow.cap {lo : Nat} {w : World} {A : Option Addr} {n c : Nat} {svs : List SV} (h : Ow lo 104 1 svC w (.slice A n c) svs) : n ≤ c ∧ c ≤ maxLen := by
  obtain ⟨A2, c2, e, h1, h2, _⟩ := h.shape svC_length
  injection e with e1 e2 e3
  subst e2
  subst e3
  exact ⟨h1, h2⟩
theorem TabRes.read2 {q : Bool} {W : Int} {rows : List Row1} {w w' : World} {e : Ending} (h : TabRes q W rows w e w') : ∃ (W1 : Int) (A : Option Addr) (c : Nat) (out : List Row1), e = .returned (.tuple #[.agg #[.int .i64 W1, .slice A out.length c], .bool q]) ∧ TabC q W rows W1 out ∧ Rws w' w'.heap.size A out ∧ out.length ≤ c ∧ c ≤ maxLen ∧ Below w.heap.size w w' := by
  obtain ⟨W1, A, c, cp, rfl, h1, h2, h3, h4⟩ := TabRes.read h
  have hc := Ow.cap h2
  have hl : cp.length = (cp.map (·.2)).length := by rw [List.length_map]
  exact ⟨W1, A, c, cp.map (·.2), by rw [← hl], h1, rws_cp h2 h3, by rw [← hl]; exact hc.1, hc.2, h4⟩
theorem SpecTab.read2 {q : Bool} {W : Int} {rows : List Row1} {w w' : World} {e : Ending} (h : SpecTab q W rows w e w') : ∃ (W1 : Int) (A : Option Addr) (c : Nat) (out : List Row1), e = .returned (.tuple #[.agg #[.int .i64 W1, .slice A out.length c], .bool q]) ∧ TabD q W rows W1 out ∧ Rws w' w'.heap.size A out ∧ out.length ≤ c ∧ c ≤ maxLen ∧ Below w.heap.size w w' := by
  obtain ⟨W1, A, c, svs, out, rfl, h1, h2, h3, h4⟩ := SpecTab.read h
  have hc := Ow.cap h2
  exact ⟨W1, A, c, out, rfl, h1, rws_sv h2 h3, hc.1, hc.2, h4⟩
end Go.Proofs.YtlhonhacehgooaaGreat

/-
  Contracts of the drawing of two tables and two columns: joined and what hands it on.
-/
namespace Go.Proofs.YtlhonhacehgooaaGreat
open Go.RowKit Go.Qo
set_option linter.unusedVariables false
set_option linter.unusedSimpArgs false

end Go.Proofs.YtlhonhacehgooaaGreat
