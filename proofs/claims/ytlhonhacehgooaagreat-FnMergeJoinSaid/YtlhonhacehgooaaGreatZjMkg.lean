/-
  Several texts in one (Mark MarkT Hel Two EqL MjF AnyT DraT SetQ DraJ).
-/
import Derived.Test.YtlhonhacehgooaaGreatProg
import Derived.Test.YtlhonhacehgooaaGreatZjPln
import Derived.Test.YtlhonhacehgooaaGreatZjRwt
import Derived.Test.YtlhonhacehgooaaGreatZjCol
import Derived.Test.YtlhonhacehgooaaGreatZjMjg
import Derived.Test.YtlhonhacehgooaaGreatZjTbg
import Derived.Deep.DeepCutAuto
import Derived.Test.YtlhonhacehgooaaGreatZjExc
/-
  Contracts of the functions that mark a result's memory and look whether the marks are still held: rows of values, numbers.
-/
namespace Go.Proofs.YtlhonhacehgooaaGreat
open Go.RowKit Go.Qo
set_option linter.unusedVariables false
set_option linter.unusedSimpArgs false

theorem set_mid {α : Type} (xs ys : List α) (y : α) (i : Nat) (hl : xs.length = i) (hi : i < ys.length) : (xs ++ ys.drop i).set i y = (xs ++ [y]) ++ ys.drop (i + 1) := by
  rw [List.set_append_right _ _ (by omega), hl, Nat.sub_self, List.drop_eq_getElem_cons hi, List.set_cons_zero, List.append_assoc, List.singleton_append]

/-- The block of a slice value, if it has one. -/
def OwnB (v : Value) : Nat → Prop := fun i => v.ownBlock = some i

end Go.Proofs.YtlhonhacehgooaaGreat

/-
  Contracts: marks of tables of the call's own.
-/
namespace Go.Proofs.YtlhonhacehgooaaGreat
open Go.RowKit Go.Qo
set_option linter.unusedVariables false
set_option linter.unusedSimpArgs false

theorem Row.ow {α : Type} {sz : Nat} {enc : α → List Value} (he : ∀ x, (enc x).length = sz) {w : World} {lo b : Nat} {t : TypeId} {xs : List α} (h : Row w b t (xs.flatMap enc)) (hlo : lo ≤ b) (hm : xs.length ≤ maxLen) :
    Ow lo t sz enc w (.slice (some ⟨b, 0, none⟩) xs.length xs.length) xs :=
  ⟨flat_length sz enc he xs, .inr ⟨b, xs.length, _, rfl, hlo, h, Nat.le_refl _, hm, by simp [flat_length sz enc he xs], by simp; rw [List.take_of_length_le (by rw [flat_length sz enc he xs]; omega)]⟩⟩

end Go.Proofs.YtlhonhacehgooaaGreat

/-
  Contracts: marks of tables of the program's making, and whether they are still held.
-/
namespace Go.Proofs.YtlhonhacehgooaaGreat
open Go.RowKit Go.Qo
set_option linter.unusedVariables false
set_option linter.unusedSimpArgs false

theorem Ow.apart {α : Type} {lo : Nat} {e : TypeId} {sz : Nat} {enc : α → List Value} {w w' : World} {v : Value} {xs : List α} {S : Nat → Prop} (h : Ow lo e sz enc w v xs) (k : Only S w w') (hS : ∀ b, v.ownBlock = some b → ¬ S b) : Ow lo e sz enc w' v xs := by
  refine ⟨h.1, ?_⟩
  rcases h.2 with h2 | ⟨g, cap, cur, hv, hg, hh, r⟩
  · exact .inl h2
  · exact .inr ⟨g, cap, cur, hv, hg, (k.block g (Array.getElem?_eq_some_iff.1 hh).1 (hS g (by rw [hv]; rfl))).trans hh, r⟩
/-- One row is written anew. -/
theorem Cps.put {lo : Nat} {z z' : World} {cp : List SRw} {i : Nat} {p : SRw} {ys : Row1} (h : Cps lo z cp) (hi : cp[i]? = some p) (hk : Only (OwnB (.slice p.1.A p.1.n p.1.c)) z z') (hp : OwP lo z' (p.1, ys)) : Cps lo z' (cp.set i (p.1, ys)) := by
  have hil := (List.getElem?_eq_some_iff.1 hi).1
  have hie := (List.getElem?_eq_some_iff.1 hi).2
  refine ⟨fun q hq => ?_, ?_⟩
  · obtain ⟨j, hj, rfl⟩ := List.getElem_of_mem hq
    rw [List.length_set] at hj
    rw [List.getElem_set]
    split
    · exact hp
    · rename_i hne
      have h1 := h.1 cp[j] (List.getElem_mem hj)
      refine ⟨h1.1, Ow.apart h1.2 hk fun b hb hc => ?_⟩
      have hpw := List.pairwise_iff_getElem.1 h.2
      rcases Nat.lt_or_gt_of_ne hne with hlt | hlt
      · exact hpw i j hil hj hlt b (by rw [hie]; exact hc) hb
      · exact hpw j i hj hil hlt b hb (by rw [hie]; exact hc)
  · have e : (cp.set i (p.1, ys)).map (·.1) = cp.map (·.1) := by
      rw [List.map_set]
      apply List.ext_getElem?
      intro j
      rw [List.getElem?_set]
      split
      · rename_i h1
        subst h1
        rw [List.getElem?_map, hi]
        simp [hil]
      · rfl
    have key : ∀ l : List SRw, l.Pairwise Apart ↔ (l.map (·.1)).Pairwise fun s t => ∀ b, svB s = some b → svB t ≠ some b := fun l => by rw [List.pairwise_map]; rfl
    rw [key, e, ← key]
    exact h.2

end Go.Proofs.YtlhonhacehgooaaGreat

/-
  What laws about two tables share: the reference's table and the program's are the same; tables of the call's own read as rows.
-/
namespace Go.Proofs.YtlhonhacehgooaaGreat
open Go.RowKit Go.Qo
set_option linter.unusedVariables false
set_option linter.unusedSimpArgs false

theorem tab_same {q : Bool} {W W1 W2 : Int} {rs ri out out' : List Row1} (hv : q = true → rs.Perm ri ∧ ∀ r ∈ rs, RowOk W r) (h : TabD q W rs W1 out) (h' : TabC q W ri W2 out') : W2 = W1 ∧ out' = out := by
  rcases h with ⟨hq, rfl, rfl⟩ | ⟨hq, rfl, h1⟩
  · rcases h' with ⟨_, rfl, rfl⟩ | ⟨hq', _, _⟩
    · exact ⟨rfl, rfl⟩
    · rw [hq] at hq'; cases hq'
  · rcases h' with ⟨hq', _, _⟩ | ⟨_, rfl, h2⟩
    · rw [hq] at hq'; cases hq'
    · obtain ⟨hp, hr⟩ := hv hq
      refine ⟨rfl, ?_⟩
      by_cases hl : rs.length ≤ 400
      · rw [if_pos hl] at h1
        rw [if_pos (hp.length_eq ▸ hl)] at h2
        have hp1 := h1.perm
        exact srt_unique (W := W2) (fun r h3 => hr r ((h2.1.trans hp.symm).mem_iff.1 h3)) ((h2.1.trans hp.symm).trans hp1.symm) h2.2 (h1.srt hr)
      · rw [if_neg hl] at h1
        rw [if_neg (hp.length_eq ▸ hl)] at h2
        rw [h1, h2]
theorem tabC_bd {q : Bool} {W W2 : Int} {ri out : List Row1} (hv : q = true → ∀ r ∈ ri, RowOk W r) (h : TabC q W ri W2 out) : out.length ≤ 400 ∧ ∀ r ∈ out, r.length ≤ 16 := by
  rcases h with ⟨hq, rfl, rfl⟩ | ⟨hq, rfl, h1⟩
  · exact ⟨by simp, fun r h => by simp at h⟩
  · by_cases hl : ri.length ≤ 400
    · rw [if_pos hl] at h1
      refine ⟨by rw [h1.1.length_eq]; exact hl, fun r hr => ?_⟩
      have := rowValid_len (hv hq r (h1.1.mem_iff.1 hr)).1
      omega
    · rw [if_neg hl] at h1
      subst h1
      exact ⟨by simp, fun r h => by simp at h⟩
theorem OwnRs.sv {w : World} {B0 b : Nat} {bs : List Nat} {rows : List Row1} {tO tI : TypeId} (h : OwnRs valC tO tI w B0 b bs rows []) (hm : ∀ r ∈ rows, r.length ≤ maxLen) :
    ∃ svs, Sl 1 svC w w.heap.size (some ⟨b, 0, none⟩) svs ∧ RowsT tI 2 valC 0 w svs rows := by
  refine ⟨List.zipWith rowSV bs rows, Row.sl (t := tO) (more := []) svC_length h.outer, by rw [List.length_zipWith, h.len, Nat.min_self], fun i s xs h1 h2 => ?_⟩
  rw [List.getElem?_zipWith, h2] at h1
  cases hc : bs[i]? with
  | none => rw [hc] at h1; simp at h1
  | some c =>
    rw [hc] at h1
    simp only [Option.some.injEq] at h1
    subst h1
    exact ⟨rfl, Nat.le_refl _, hm xs (List.mem_of_getElem? h2), Row.slT' valC_length (h.inner i c xs hc h2) (Nat.zero_le _)⟩
theorem belT {B b : Nat} {a z : World} (h : Below B a z) (hb : B ≤ b) (u u' : Value) : Below B a ((z.setCell ⟨b, 0, none⟩ u).setCell ⟨b, 1, none⟩ u') := (h.setCell hb _).setCell hb _
theorem onlyT (w : World) (b : Nat) (u u' : Value) : Only (fun i => i = b) w ((w.setCell ⟨b, 0, none⟩ u).setCell ⟨b, 1, none⟩ u') :=
  (Only.set (S := fun i => i = b) (p := ⟨b, 0, none⟩) (Only.refl w) (.inl rfl) u).set (p := ⟨b, 1, none⟩) (.inl rfl) u'
theorem Rws.below {B : Nat} {A : Option Addr} {w w' : World} {out : List Row1} (h : Rws w B A out) (hb : Below B w w') : Rws w' B A out := by
  obtain ⟨svs, h1, h2, h3⟩ := h
  exact ⟨svs, h1, h2.below hb, fun i s xs ha hc => by
    obtain ⟨k1, k2, k3, k4⟩ := h3 i s xs ha hc
    exact ⟨k1, k2, k3, k4.below hb⟩⟩
theorem Rws.more {B B' : Nat} {A : Option Addr} {w : World} {out : List Row1} (h : Rws w B A out) (hB : B ≤ B') : Rws w B' A out := by
  obtain ⟨svs, h1, h2, h3⟩ := h
  exact ⟨svs, h1, h2.more hB, fun i s xs ha hc => by
    obtain ⟨k1, k2, k3, k4⟩ := h3 i s xs ha hc
    exact ⟨k1, k2, k3, k4.more hB⟩⟩
/-- The reference's table: its width, its rows. -/
theorem SpecTab.read {q : Bool} {W : Int} {rows : List Row1} {w w' : World} {e : Ending} (h : SpecTab q W rows w e w') : ∃ (W1 : Int) (A : Option Addr) (c : Nat) (svs : List SV) (out : List Row1), e = .returned (.tuple #[.agg #[.int .i64 W1, .slice A out.length c], .bool q]) ∧ TabD q W rows W1 out ∧ Ow w.heap.size 104 1 svC w' (.slice A out.length c) svs ∧ RowsT 55 2 valC 0 w' svs out ∧ Below w.heap.size w w' := by
  obtain ⟨W1, v, svs, out, rfl, h1, h2, h3, h4⟩ := h
  obtain ⟨A, c, rfl, _, _, _⟩ := h2.shape svC_length
  have hl := h3.1
  rw [hl] at h2 ⊢
  exact ⟨W1, A, c, svs, out, rfl, h1, h2, h3, h4⟩
theorem TabRes.read {q : Bool} {W : Int} {rows : List Row1} {w w' : World} {e : Ending} (h : TabRes q W rows w e w') : ∃ (W1 : Int) (A : Option Addr) (c : Nat) (cp : List SRw), e = .returned (.tuple #[.agg #[.int .i64 W1, .slice A cp.length c], .bool q]) ∧ TabC q W rows W1 (cp.map (·.2)) ∧ Ow w.heap.size 104 1 svC w' (.slice A cp.length c) (cp.map (·.1)) ∧ Cps w.heap.size w' cp ∧ Below w.heap.size w w' := by
  obtain ⟨W1, v, cp, rfl, h1, h2, h3, h4⟩ := h
  obtain ⟨A, c, rfl, _, _, _⟩ := h2.shape svC_length
  rw [List.length_map] at h2 ⊢
  exact ⟨W1, A, c, cp, rfl, h1, h2, h3, h4⟩
theorem rws_cp {lo lo' : Nat} {w : World} {A : Option Addr} {c : Nat} {cp : List SRw} (h : Ow lo' 104 1 svC w (.slice A cp.length c) (cp.map (·.1))) (h' : Cps lo w cp) : Rws w w.heap.size A (cp.map (·.2)) := by
  obtain ⟨A2, c2, e, _, _, h2⟩ := h.shape svC_length
  injection e with e1 e2 e3
  subst e1
  exact sls_of' h2.sl h'.rows
theorem rws_sv {lo' : Nat} {w : World} {A : Option Addr} {c : Nat} {svs : List SV} {out : List Row1} (h : Ow lo' 104 1 svC w (.slice A out.length c) svs) (h' : RowsT 55 2 valC 0 w svs out) : Rws w w.heap.size A out := by
  obtain ⟨A2, c2, e, _, _, h2⟩ := h.shape svC_length
  injection e with e1 e2 e3
  subst e1
  exact sls_of' h2.sl h'
end Go.Proofs.YtlhonhacehgooaaGreat

/-
  Contracts of equalRows, equalBags, equalTables: the statements' own.
-/
namespace Go.Proofs.YtlhonhacehgooaaGreat
open Go.RowKit Go.Qo
set_option linter.unusedVariables false
set_option linter.unusedSimpArgs false

set_option maxHeartbeats 400000 in
theorem equalRows_ok (A A' : Option Addr) (c c' : Nat) (xs ys : List Val) (w : World) (hn : xs.length ≤ maxLen) (hn' : ys.length ≤ maxLen) (h : Sl 2 valC w w.heap.size A xs) (h' : Sl 2 valC w w.heap.size A' ys) :
    Calls Tryz.prog 122 #[.slice A xs.length c, .slice A' ys.length c'] w fun e w' => e = .returned (.bool (decide (xs = ys))) ∧ Below w.heap.size w w' := by
  unfold maxLen at hn hn'
  by_cases hl : xs.length = ys.length
  · have hl' := Lib.hid hl
    have hle : xs.length ≤ ys.length := by omega
    have hne : ((xs.length : Int) != (ys.length : Int)) = false := by simp [hl]
    clear hl
    go_enter Tryz.func122, Tryz.ntmps122
    go_wp2
    go_loopg [5] (xs.length) (fun g i wr => ∃ k : Nat, k ≤ xs.length ∧ g = xs.length - k ∧ i = .int .i64 k ∧ Below w.heap.size w wr ∧ xs.take k = ys.take k)
    case atStart => exact ⟨0, by omega, by omega, rfl, Below.refl _ _, rfl⟩
    case round =>
      obtain ⟨k, hk, rfl, rfl, hb, hp⟩ := hrel
      have Hp := Lib.hid hp
      clear hp
      by_cases hlt : k < xs.length
      · obtain ⟨b, off, rfl, hB, c1, c2⟩ := Val.at_ (h.below hb) hlt
        obtain ⟨b', off', rfl, hB', c1', c2'⟩ := Val.at_ (h'.below hb) (i := k) (by omega)
        have hx := Lib.hid (List.getElem?_eq_getElem hlt)
        have hy := Lib.hid (List.getElem?_eq_getElem (show k < ys.length by omega))
        generalize xs[k] = x at *
        generalize ys[k] = y at *
        have hlt' : k < ys.length := by omega
        have hg := eqgVal
        by_cases hxy : x = y
        · have hneq := neqVal (x := x) (y := y) false (by simp [hxy])
          have Hxy := Lib.hid hxy
          clear hxy
          go_wp2
          go_quiet (fail)
          go_wp2
          go_roundg (xs.length - (k + 1))
          case measure => omega
          case rel => exact ⟨k + 1, by omega, rfl, by go_num, bdrewN hb _, take_eq_succ Hp.out hx.out (Hxy.out ▸ hy.out)⟩
        · have hneq := neqVal (x := x) (y := y) true (by simp [hxy])
          have Hxy := Lib.hid hxy
          clear hxy
          go_wp2
          go_quiet (fail)
          go_wp2
          go_ret
          exact ⟨ret_bool (decide_eq_false (ne_of_at hx.out hy.out Hxy.out)).symm, bdrewN hb _⟩
      · go_wp2
        go_ret
        exact ⟨ret_bool (decide_eq_true (eq_of_take Hp.out (by omega) (by have := hl'.out; omega))).symm, hb⟩
  · go_enter Tryz.func122, Tryz.ntmps122
    go_wp2
    go_ret
    exact ⟨ret_bool (decide_eq_false fun he => hl (by rw [he])).symm, Below.refl _ _⟩

set_option maxHeartbeats 400000 in
theorem equalBags_ok (A A' : Option Addr) (c c' : Nat) (xs ys : List Row1) (w : World) (hn : xs.length ≤ maxLen) (hn' : ys.length ≤ maxLen) (h : Rws w w.heap.size A xs) (h' : Rws w w.heap.size A' ys) :
    Calls Tryz.prog 68 #[.slice A xs.length c, .slice A' ys.length c'] w fun e w' => e = .returned (.bool (decide (xs = ys))) ∧ Below w.heap.size w w' := by
  unfold maxLen at hn hn'
  by_cases hl : xs.length = ys.length
  · have hl' := Lib.hid hl
    have hle : xs.length ≤ ys.length := by omega
    have hne : ((xs.length : Int) != (ys.length : Int)) = false := by simp [hl]
    clear hl
    go_enter Tryz.func68, Tryz.ntmps68
    go_wp2
    go_loopg [5] (xs.length) (fun g i wr => ∃ k : Nat, k ≤ xs.length ∧ g = xs.length - k ∧ i = .int .i64 k ∧ Below w.heap.size w wr ∧ xs.take k = ys.take k)
    case atStart => exact ⟨0, by omega, by omega, rfl, Below.refl _ _, rfl⟩
    case round =>
      obtain ⟨k, hk, rfl, rfl, hb, hp⟩ := hrel
      have Hp := Lib.hid hp
      clear hp
      by_cases hlt : k < xs.length
      · obtain ⟨b, off, A1, C1, rfl, hB, c1, hc1, hm1, s1⟩ := (h.on hb).at_ hlt
        obtain ⟨b', off', A2, C2, rfl, hB', c2, hc2, hm2, s2⟩ := (h'.on hb).at_ (i := k) (by omega)
        have hx := Lib.hid (List.getElem?_eq_getElem hlt)
        have hy := Lib.hid (List.getElem?_eq_getElem (show k < ys.length by omega))
        generalize xs[k] = x at *
        generalize ys[k] = y at *
        have d1 := fun z : Aft wr.heap.size wr => z.cell (by omega) c1
        have d2 := fun z : Aft wr.heap.size wr => z.cell (by omega) c2
        have hlt' : k < ys.length := by omega
        obtain ⟨r, hr⟩ : ∃ r, decide (x = y) = r := ⟨_, rfl⟩
        have key := fun z : Aft wr.heap.size wr => equalRows_ok A1 A2 C1 C2 x y z.v (by omega) (by omega) (s1.on z.h) (s2.on z.h)
        rw [hr] at key
        have Hk := Lib.hid key
        have Hr := Lib.hid hr
        clear key hr s1 s2 hc1 hm1 hc2 hm2
        go_wp2
        refine wp_region_aft wr.heap.size (by kernel_rfl) (by kernel_rfl) ?_
        repeat (go_big_quiet_step ((go_at_call 122; exact Calls.aft (Nat.le_refl _) (Hk.out _))))
        refine wpQuiet_nil ?_
        intro _ hw'
        obtain ⟨⟨w1, hb1⟩, rfl⟩ := hw'
        cases r
        · go_wp2
          go_ret
          exact ⟨ret_bool (decide_eq_false (ne_of_at hx.out hy.out (of_decide_eq_false Hr.out))).symm, bch hb hb1⟩
        · go_wp2
          go_roundg (xs.length - (k + 1))
          case measure => omega
          case rel => exact ⟨k + 1, by omega, rfl, by go_num, bch hb hb1, take_eq_succ Hp.out hx.out (of_decide_eq_true Hr.out ▸ hy.out)⟩
      · go_wp2
        go_ret
        exact ⟨ret_bool (decide_eq_true (eq_of_take Hp.out (by omega) (by have := hl'.out; omega))).symm, hb⟩
  · go_enter Tryz.func68, Tryz.ntmps68
    go_wp2
    go_ret
    exact ⟨ret_bool (decide_eq_false fun he => hl (by rw [he])).symm, Below.refl _ _⟩

set_option maxHeartbeats 400000 in
theorem equalTables_ok (W W' : Int) (A A' : Option Addr) (c c' : Nat) (xs ys : List Row1) (w : World) (hn : xs.length ≤ maxLen) (hn' : ys.length ≤ maxLen) (h : Rws w w.heap.size A xs) (h' : Rws w w.heap.size A' ys) (r : Bool) (hr : r = true ↔ (W = W' ∧ xs = ys)) :
    Calls Tryz.prog 26 #[.agg #[.int .i64 W, .slice A xs.length c], .agg #[.int .i64 W', .slice A' ys.length c']] w fun e w' => e = .returned (.bool r) ∧ Below w.heap.size w w' := by
  have Hr := Lib.hid hr
  obtain ⟨d, hd⟩ : ∃ d, decide (xs = ys) = d := ⟨_, rfl⟩
  have Hk := Lib.hid (fun (z : World) (hz : Below w.heap.size w z) => equalBags_ok A A' c c' xs ys z hn hn' (h.on hz) (h'.on hz))
  rw [hd] at Hk
  have Hd := Lib.hid hd
  clear hr h h' hd
  by_cases hW : W = W'
  · subst hW
    have hrd : r = d := by
      cases d
      · exact bfalse Hr.out fun ht => of_decide_eq_false Hd.out ht.2
      · exact btrue Hr.out ⟨rfl, of_decide_eq_true Hd.out⟩
    subst hrd
    cases r
    all_goals
      go_enter Tryz.func26, Tryz.ntmps26
      go_wp2_with (go_at_call 68; refine (Hk.out _ (balloc (balloc (Below.refl _ _) _) _)).mono ?_; rintro e w1 ⟨rfl, hb1⟩)
      go_ret
      exact ⟨rfl, bbox2 (by assumption)⟩
  · have hf : r = false := bfalse Hr.out fun ht => hW ht.1
    subst hf
    have hwb : (W == W') = false := by simp [hW]
    clear hW
    go_enter Tryz.func26, Tryz.ntmps26
    go_wp2
    go_ret
    exact ⟨rfl, balloc (balloc (Below.refl _ _) _) _⟩

end Go.Proofs.YtlhonhacehgooaaGreat

/-
  How many rows a collected table has.
-/
namespace Go.Proofs.YtlhonhacehgooaaGreat
open Go.RowKit Go.Qo
set_option linter.unusedVariables false

theorem tabC_len {W W1 : Int} {rows out : List Row1} (h : TabC true W rows W1 out) : W1 = W ∧ out.length = (if rows.length ≤ 400 then rows.length else 0) ∧ ∀ r ∈ out, r ∈ rows := by
  rcases h with ⟨hq, _, _⟩ | ⟨_, hW, h⟩
  · cases hq
  · refine ⟨hW, ?_⟩
    split at h
    · rename_i hl
      rw [if_pos hl]
      exact ⟨h.1.length_eq, fun r hr => h.1.mem_iff.1 hr⟩
    · rename_i hl
      rw [if_neg hl]
      subst h
      simp
end Go.Proofs.YtlhonhacehgooaaGreat

/-
  Contract of the drawing of a table that may be no valid one: anyTable.
-/
namespace Go.Proofs.YtlhonhacehgooaaGreat
open Go.RowKit Go.Qo
set_option linter.unusedVariables false
set_option linter.unusedSimpArgs false

/-- A drawn table, valid or not. -/
def AnyTab (most : Nat) (b p : Nat) (w : World) (e : Ending) (w' : World) : Prop :=
  ∃ (W : Int) (v : Value) (svs : List SV) (rows : List Row1), e = .returned (.agg #[.int .i64 W, v]) ∧ W ≤ 16 ∧ rows.length ≤ most + 1 ∧ (∀ r ∈ rows, r.length ≤ 16) ∧ Ow w.heap.size 104 1 svC w' v svs ∧ RowsT 55 2 valC w.heap.size w' svs rows ∧ But b w w' ∧ Rd w' b p

theorem anyFin {most b p p' : Nat} {w wz : World} {W' : Int} {v : Value} {svs : List SV} {rows : List Row1} (hlt : b < w.heap.size) (hb : But b w wz) (hO : Ow w.heap.size 104 1 svC wz v svs) (hR : RowsT 55 2 valC w.heap.size wz svs rows) (hRd : Rd wz b p') (hp : p' ≤ p)
    (hT : TyAt wz w.heap.size 32) (hW : W' ≤ 16) (hl : rows.length ≤ most + 1) (hr : ∀ r ∈ rows, r.length ≤ 16) : AnyTab most b p w (.returned (.agg #[.int .i64 W', v])) ((wz.setCell ⟨w.heap.size, 0, none⟩ (.int .i64 W')).setCell ⟨w.heap.size, 1, none⟩ v) := by
  have hS0 := (Only.set (S := fun i => i = w.heap.size) (p := ⟨w.heap.size, 0, none⟩) (Only.refl wz) (.inl rfl) (.int .i64 W')).set (p := ⟨w.heap.size, 1, none⟩) (.inl rfl) v
  refine ⟨W', v, svs, rows, rfl, hW, hl, hr, hO.only hS0 fun k hk => .inr ⟨32, by decide, by subst hk; exact hT⟩, hR.only hS0 fun k hk => .inr ⟨32, by decide, by subst hk; exact hT⟩, ?_, ?_⟩
  · exact (hb.set (p := ⟨_, _, none⟩) (.inr (Nat.le_refl _)) _).set (p := ⟨_, _, none⟩) (.inr (Nat.le_refl _)) _
  · exact ((hRd.set (a := ⟨_, _, none⟩) hlt _).set (a := ⟨_, _, none⟩) hlt _).mono hp

set_option maxRecDepth 20000 in
set_option maxHeartbeats 2000000 in
theorem anyTable_ok (b p : Nat) (W most : Int) (w : World) (h : Rd w b p) (hp : p + 40000 ≤ 1099511627776) (hW : W ≤ 6) (hW1 : 1 ≤ W) (hm0 : 0 ≤ most) (hm : most ≤ 16) :
    Calls Tryz.prog 70 #[.pointer (some ⟨b, 0, none⟩), .int .i64 W, .int .i64 most] w (AnyTab most.toNat b (p + 17000) w) := by
  have hlt := h.lt
  have HT := Lib.hid (randomTable_ok b p W most _ (h.on (balloc (Below.refl _ w) (.cells #[.int .i64 0, .slice none 0 0] 32))) (by omega) (by omega) hm0 (by omega))
  clear h
  go_enter Tryz.func70, Tryz.ntmps70
  go_wp2_with fail
  refine HT.out.mono ?_
  rintro e w1 ⟨v1, svs, rows0, rows, rfl, hrl, hrv, hbt, how1, hrt1, hb1, hR1⟩
  obtain ⟨A1, c1, rfl, hc11, hc12, hs1⟩ := how1.shape svC_length
  have hz1 := hb1.size
  rw [World.size_alloc] at hz1
  have hrw : rows.length ≤ most.toNat := by
    have h1 := hbt.perm.length_eq
    omega
  have hrr : ∀ r ∈ rows, r.length ≤ 16 := fun r hr => by
    have h2 := (hrv r (hbt.perm.mem_iff.1 hr)).1
    omega
  have RB := Lib.hid (((Row.new w 32 #[.int .i64 0, .slice none 0 0]).only hb1 (by omega)).alloc (.cells #[.int .i64 W, .slice A1 svs.length c1] 32))
  have R7 := Lib.hid (Row.new w1 32 #[.int .i64 W, .slice A1 svs.length c1])
  have H0 := Lib.hid (((Only.refl (S := fun k => k = b) w).alloc (.cells #[.int .i64 0, .slice none 0 0] 32)).trans hb1 |>.alloc (.cells #[.int .i64 W, .slice A1 svs.length c1] 32))
  have HO := Lib.hid (((how1.on (balloc (Below.refl _ _) (.cells #[.int .i64 W, .slice A1 svs.length c1] 32))).low (show w.heap.size ≤ (w.alloc (.cells #[.int .i64 0, .slice none 0 0] 32)).heap.size by simp)))
  have HRT := Lib.hid (((hrt1.on (balloc (Below.refl _ _) (.cells #[.int .i64 W, .slice A1 svs.length c1] 32))).low (show w.heap.size ≤ (w.alloc (.cells #[.int .i64 0, .slice none 0 0] 32)).heap.size by simp)))
  have HP := Lib.hid (pick_ok b (p + 16001) 20 _ (hR1.on (balloc (Below.refl _ w1) (.cells #[.int .i64 W, .slice A1 svs.length c1] 32))) (by omega))
  have HLN := Lib.hid (And.intro hrw hrr)
  have hsl : svs.length = rows.length := hrt1.1
  have hsv : svs.length ≤ 16 := by omega
  have HSL := Lib.hid hsl
  clear how1 hrt1 hbt hrv hrl hb1 hR1 hs1 hrw hrr hsl
  go_wp2_with fail
  refine HP.out.mono ?_
  rintro e w2 ⟨r, rfl, hr, hb2, hsz2, hR2⟩
  have hbl : b < w1.heap.size := by omega
  have B2 := Lib.hid (H0.out.trans hb2)
  have RB2 := Lib.hid (RB.out.only hb2 (by omega))
  have R72 := Lib.hid (R7.out.only hb2 (by omega))
  have HO2 := Lib.hid (HO.out.only hb2 (by intro k hk; left; omega))
  have HRT2 := Lib.hid (HRT.out.only hb2 (by intro k hk; left; omega))
  have HR2 := Lib.hid hR2
  rw [World.size_alloc] at hsz2
  have hz2 : w1.heap.size + 1 = w2.heap.size := hsz2
  clear hb2 hR2 hr hsz2
  have q0 := RB2.out.lt
  have q1 := RB2.out.frozen 0
  have q2 := RB2.out.frozen 1
  have q3 : w2.cell? ⟨w.heap.size, 0, none⟩ = some (.int .i64 0) := RB2.out.cell 0
  have q4 : w2.cell? ⟨w.heap.size, 1, none⟩ = some (.slice none 0 0) := RB2.out.cell 1
  have p0 := R72.out.lt
  have p1 := R72.out.frozen 0
  have p2 := R72.out.frozen 1
  have p3 : w2.cell? ⟨w1.heap.size, 0, none⟩ = some (.int .i64 W) := R72.out.cell 0
  have p4 : w2.cell? ⟨w1.heap.size, 1, none⟩ = some (.slice A1 svs.length c1) := R72.out.cell 1
  have hne : ¬ (w1.heap.size = w.heap.size) := by omega
  have hne' : ¬ (w.heap.size = w1.heap.size) := by omega
  by_cases h0 : r = 0
  · subst h0
    have HO3 := Lib.hid (one_ok b (p + 16001 + 1) (some ⟨w2.heap.size, 0, none⟩) 3 [0, 7, 2] _ (HR2.out.on (balloc (Below.refl _ _) _)) (by omega) (by decide) (by decide) (ints5 w2 [0, 7, 2] 3) (by rintro a ha; cases ha; exact (show w2.heap.size ≠ b by omega)))
    go_wp2_with fail
    refine HO3.out.mono ?_
    rintro e w3 ⟨k, rfl, hk, hb3, _, hR3⟩
    have hk16 : k ≤ 16 := by simp at hk; omega
    have RB3 := (RB2.out.alloc (.cells ([0, 7, 2].map (Value.int .i64)).toArray 3)).only hb3 (by omega)
    have R73 := (R72.out.alloc (.cells ([0, 7, 2].map (Value.int .i64)).toArray 3)).only hb3 (by omega)
    have HRB3 := Lib.hid RB3
    have HR73 := Lib.hid R73
    have HO4 := Lib.hid (((HO2.out.on (balloc (Below.refl _ _) (.cells ([0, 7, 2].map (Value.int .i64)).toArray 3)))).only hb3 (by intro k hk; left; omega))
    have HRT4 := Lib.hid (((HRT2.out.on (balloc (Below.refl _ _) (.cells ([0, 7, 2].map (Value.int .i64)).toArray 3)))).only hb3 (by intro k hk; left; omega))
    have B3 := Lib.hid ((B2.out.alloc (.cells ([0, 7, 2].map (Value.int .i64)).toArray 3)).trans hb3)
    have HR3 := Lib.hid hR3
    clear q0 q1 q2 q3 q4 p0 p1 p2 p3 p4 hb3 hR3 hk
    have q0 := RB3.lt
    have q1 := RB3.frozen 0
    have q2 := RB3.frozen 1
    have q3 : w3.cell? ⟨w.heap.size, 0, none⟩ = some (.int .i64 0) := RB3.cell 0
    have q4 : w3.cell? ⟨w.heap.size, 1, none⟩ = some (.slice none 0 0) := RB3.cell 1
    have p0 := R73.lt
    have p1 := R73.frozen 0
    have p2 := R73.frozen 1
    have p3 : w3.cell? ⟨w1.heap.size, 0, none⟩ = some (.int .i64 W) := R73.cell 0
    have p4 : w3.cell? ⟨w1.heap.size, 1, none⟩ = some (.slice A1 svs.length c1) := R73.cell 1
    clear RB3 R73
    go_wp2
    have hS1 := Only.set (S := fun i => i = w1.heap.size) (p := ⟨w1.heap.size, 0, none⟩) (Only.refl w3) (.inl rfl) (.int .i64 k)
    refine bodyPost_ret (v := .agg #[.int .i64 k, .slice A1 svs.length c1]) (by simp [results, Tryz.results70, go_sem, q0, q1, q2, q3, q4, p0, p1, p2, p3, p4, hne, hne']) rfl (anyFin (svs := svs) (rows := rows) (p' := p + 16001 + 1 + 1) hlt ?_ ?_ ?_ ?_ (by omega) ?_ hk16 (by have := HLN.out.1; omega) HLN.out.2)
    · exact B3.out.set (p := ⟨w1.heap.size, 0, none⟩) (.inr (show w.heap.size ≤ w1.heap.size by omega)) _
    · exact HO4.out.only hS1 fun i hi => .inr ⟨32, by decide, by subst hi; exact HR73.out.ty⟩
    · exact HRT4.out.only hS1 fun i hi => .inr ⟨32, by decide, by subst hi; exact HR73.out.ty⟩
    · exact HR3.out.set (a := ⟨w1.heap.size, 0, none⟩) hbl _
    · exact (HRB3.out.far (p := ⟨w1.heap.size, 0, none⟩) hne' _).ty
  · by_cases h1 : r = 1
    · subst h1
      rcases Nat.eq_zero_or_pos svs.length with hz | hz
      · have hz0 : ¬ ((0 : Int) < (svs.length : Int)) := by omega
        have hzz := Lib.hid hz
        clear hz
        go_wp2
        exact bodyPost_ret (v := .agg #[.int .i64 W, .slice A1 svs.length c1]) (by simp [results, Tryz.results70, go_sem, q0, q1, q2, q3, q4]) rfl (anyFin hlt B2.out HO2.out HRT2.out HR2.out (by omega) RB2.out.ty (by omega) (by have := HLN.out.1; omega) HLN.out.2)
      · have hz0 : ((0 : Int) < (svs.length : Int)) := by omega
        obtain ⟨g, hA, _, hg, hgl, hgT, hgf, hgc⟩ := HO2.out.head svC_length hz
        subst hA
        have hzr : 0 < rows.length := by have := HSL.out; omega
        obtain ⟨s, hs⟩ : ∃ s, svs[0]? = some s := ⟨_, List.getElem?_eq_getElem hz⟩
        obtain ⟨x0, hx0⟩ : ∃ x, rows[0]? = some x := ⟨_, List.getElem?_eq_getElem hzr⟩
        obtain ⟨hsn, hsc, hscm, hsT⟩ := HRT2.out.2 0 s x0 hs hx0
        have hx16 : x0.length ≤ 16 := HLN.out.2 x0 (List.mem_of_getElem? hx0)
        have hc0 : w2.cell? ⟨g, 0, none⟩ = some (.slice s.A x0.length s.c) := by
          rw [← hsn]
          refine hgc 0 _ ?_
          exact flat_get 1 svC svC_length svs 0 s 0 _ hs rfl
        have hgf0 := hgf 0
        have HC := Lib.hid (copyRow_ok s.A s.c x0 w2.drew (by omega) (hsT.sl))
        have H2F := Lib.hid (And.intro hsn (And.intro hsc (And.intro hscm (And.intro hs hx0))))
        clear hgc hgf hgT hsT hsn hsc hscm hs hx0
        go_wp2
        go_region_law (first
          | (go_simp; go_at_call 120; refine HC.out.mono ?_; rintro e w3 ⟨v3, rfl, how3, hb3'⟩; have hb3 : Below w2.heap.size w2 w3 := (Below.refl _ w2).drew.trans hb3'; clear hb3'; obtain ⟨A3, c3, rfl, hc31, hc32, hs3⟩ := how3.shape valC_length; have b3c : ∀ b o, b < w2.heap.size → w3.cell? ⟨b, o, none⟩ = w2.cell? ⟨b, o, none⟩ := (fun b o h => hb3.cell (p := ⟨b, o, none⟩) h); have b3f : ∀ b o, b < w2.heap.size → w3.frozen? ⟨b, o, none⟩ = w2.frozen? ⟨b, o, none⟩ := (fun b o h => hb3.frozen (p := ⟨b, o, none⟩) h); have HOx := Lib.hid ((HO2.out.on hb3).on (balloc (Below.refl _ _) (.cells #[.slice A3 x0.length c3] 104))); have HSx := Lib.hid (Row.sl' (w := w3.alloc (.cells #[.slice A3 x0.length c3] 104)) (t := 104) (xs := [(⟨A3, x0.length, c3⟩ : SV)]) svC_length ((Row.new w3 _ _).of rfl)); have hz3 : w2.heap.size ≤ w3.heap.size := hb3.size; have hsz4 : w.heap.size ≤ (w3.alloc (.cells #[.slice A3 x0.length c3] 104)).heap.size := (by simp; omega); have HB3 := Lib.hid hb3; have HR73 := Lib.hid ((R72.out.on hb3).alloc (.cells #[.slice A3 x0.length c3] 104)); have HRB3 := Lib.hid ((RB2.out.on hb3).alloc (.cells #[.slice A3 x0.length c3] 104)); have HX3 := Lib.hid (And.intro hs3 (And.intro hc31 hc32)); have b3c0 := (b3c w1.heap.size 0 p0).trans p3; have b3c1 := (b3c w1.heap.size 1 p0).trans p4; have b3f1 := (b3f w1.heap.size 1 p0).trans p2; have b3g := (b3c g 0 hgl).trans hc0; have b3l : w1.heap.size < w3.heap.size := (by omega); have b3k : w.heap.size < w3.heap.size := (by omega); have b3m : g < w3.heap.size := (by omega); clear b3c b3f hb3 how3 hs3 hc31 hc32)
          | (refine step_app rfl (.tmp 27) (.tmp 33) 30 rfl w.heap.size 104 _ 1 24 svC Tryz.underlying30 zeroRow rfl (by decide) (by decide) svC_length svC_one _ svs rfl HOx.out (some ⟨w3.heap.size, 0, none⟩) 1 1 [(⟨A3, x0.length, c3⟩ : SV)] rfl rfl HSx.out (by simp <;> omega) hsz4 ?_; intro v4 w4 how4 hgr4; obtain ⟨A4, c4, rfl, _, _, _⟩ := how4.shape svC_length; have R74 := HR73.out.keep (hgr4.block _ HR73.out.lt fun e => (TyAt.ne (HOx.out.ty _ e.symm).2.2 HR73.out.ty (by decide)) rfl); have RB4 := HRB3.out.keep (hgr4.block _ HRB3.out.lt fun e => (TyAt.ne (HOx.out.ty _ e.symm).2.2 HRB3.out.ty (by decide)) rfl); have s0 := R74.cell 0; have s1 := R74.cell 1; have s2 := R74.frozen 1; have s3 := RB4.cell 0; have s4 := RB4.cell 1; have s5 := RB4.frozen 0; have s6 := RB4.frozen 1; have s7 := R74.lt; have s8 := RB4.lt; have Hw4 := Lib.hid (And.intro how4 (And.intro hgr4 (And.intro R74 RB4))); clear how4 hgr4 R74 RB4))
        all_goals (
          go_wp2
          obtain ⟨how4, hgr4, R74, RB4⟩ := Hw4.out
          obtain ⟨hs3, hc31, hc32⟩ := HX3.out
          have hrow : ∀ q, Value.ownBlock _ = some q → w.heap.size ≤ q ∧ TyAt _ q 104 := fun q hq => ⟨(HOx.out.ty q hq).1, (HOx.out.ty q hq).2.2⟩
          have how4' : Ow w.heap.size 104 1 svC w4 (.slice A4 (svs.length + 1) c4) (svs ++ [⟨A3, x0.length, c3⟩]) := by rw [List.length_append] at how4; exact how4
          have hS1 := Only.set (S := fun i => i = w1.heap.size) (p := ⟨w1.heap.size, 1, none⟩) (Only.refl w4) (.inl rfl) (.slice A4 (svs.length + 1) c4)
          have hS2 := balloc (Below.refl _ w3) (.cells #[.slice A3 x0.length c3] 104)
          have hX4 := ((HRT2.out.on HB3.out).on hS2).grown hgr4 fun q hq => .inr ⟨_, by decide, (hrow q hq).2⟩
          have hs4 := ((hs3.on hS2).grown hgr4 fun q hq => .inr ⟨_, by decide, (hrow q hq).2⟩).low (show w.heap.size ≤ w2.drew.heap.size from by show w.heap.size ≤ w2.heap.size; omega)
          exact bodyPost_ret (v := .agg #[.int .i64 W, .slice A4 (svs.length + 1) c4]) (by simp [results, Tryz.results70, go_sem, s0, s1, s2, s3, s4, s5, s6, s7, s8, hne, hne']) rfl (anyFin (svs := svs ++ [⟨A3, x0.length, c3⟩]) (rows := rows ++ [x0]) (p' := p + 16001 + 1) hlt
            ((((B2.out.below HB3.out).alloc _).grown hgr4 fun q hq => .inr (hrow q hq).1).set (p := ⟨w1.heap.size, 1, none⟩) (.inr (show w.heap.size ≤ w1.heap.size by omega)) _)
            (how4'.only hS1 fun i hi => .inr ⟨32, by decide, by subst hi; exact R74.ty⟩)
            ((hX4.snoc rfl hc31 hc32 hs4).only hS1 fun i hi => .inr ⟨32, by decide, by subst hi; exact R74.ty⟩)
            ((((HR2.out.on HB3.out).on hS2).grown hgr4 fun q hq => by have := (hrow q hq).1; omega).set (a := ⟨w1.heap.size, 1, none⟩) (show b < w1.heap.size from hbl) _)
            (by omega)
            (RB4.far (p := ⟨w1.heap.size, 1, none⟩) hne' _).ty (by omega) (by have := HLN.out.1; simp; omega)
            (fun r hr => by
              rcases List.mem_append.1 hr with h1 | h1
              · exact HLN.out.2 r h1
              · simp only [List.mem_singleton] at h1
                subst h1
                exact hx16)))
    · by_cases h2 : r = 2
      · subst h2
        rcases Nat.eq_zero_or_pos svs.length with hz | hz
        · have hz0 : ¬ ((0 : Int) < (svs.length : Int)) := by omega
          have hzz := Lib.hid hz
          clear hz
          go_wp2
          exact bodyPost_ret (v := .agg #[.int .i64 W, .slice A1 svs.length c1]) (by simp [results, Tryz.results70, go_sem, q0, q1, q2, q3, q4]) rfl (anyFin hlt B2.out HO2.out HRT2.out HR2.out (by omega) RB2.out.ty (by omega) (by have := HLN.out.1; omega) HLN.out.2)
        · have hz0 : ((0 : Int) < (svs.length : Int)) := by omega
          obtain ⟨g, hA, _, hg, hgl, hgT, hgf, hgc⟩ := HO2.out.head svC_length hz
          subst hA
          have hHT := Lib.hid hgT
          have HAR := Lib.hid (anyRow_ok b (p + 16001 + 1) W w2.drew (HR2.out.on (Below.refl _ _).drew) (by omega) (by omega) hW1)
          obtain ⟨y0, hy0⟩ : ∃ y, w2.cell? ⟨g, 0, none⟩ = some y := ⟨_, hgc 0 _ (List.getElem?_eq_getElem (by rw [flat_length 1 svC svC_length]; omega))⟩
          have hgf0 := hgf 0
          clear hgf hgc hgT
          go_wp2
          go_region_law (first
            | (go_simp; go_at_call 124; refine HAR.out.mono ?_; rintro e w3 ⟨vb, ys, rfl, hyl, hyv, howb, hbb', hRb⟩; have hbb : But b w2 w3 := (Only.refl w2).drew.trans hbb'; clear hbb'; obtain ⟨Ab, cb, rfl, hcb1, hcb2, hsb⟩ := howb.shape valC_length; have hz3 : w2.heap.size ≤ w3.heap.size := hbb.size; have hob := HO2.out.only hbb (by intro k hk; left; omega); obtain ⟨g', hA', _, _, hgl3, _, hgf3, hgc3⟩ := hob.head svC_length hz; cases hA'; obtain ⟨y3, hy3⟩ : ∃ y, w3.cell? ⟨g, 0, none⟩ = some y := ⟨_, hgc3 0 _ (List.getElem?_eq_getElem (by rw [flat_length 1 svC svC_length]; omega))⟩; have hgf30 := hgf3 0; have hr7 := R72.out.only hbb (by omega); have hrb := RB2.out.only hbb (by omega); have s0 := hr7.cell 0; have s1 : w3.cell? ⟨w1.heap.size, 1, none⟩ = some (.slice (some ⟨g, 0, none⟩) svs.length c1) := hr7.cell 1; have s3 := hrb.cell 0; have s4 := hrb.cell 1; have s5 := hrb.frozen 0; have s6 := hrb.frozen 1; have s7 := hr7.lt; have s8 := hrb.lt; have HW3 := Lib.hid (And.intro hob (And.intro hr7 (And.intro hrb (And.intro hbb hRb)))); have HX3 := Lib.hid (And.intro hsb (And.intro hcb1 (And.intro hcb2 hyl))); clear hgf3 hgc3 hob hr7 hrb hbb hRb hsb hcb1 hcb2 hyl hyv howb))
          all_goals (
            have hgw : ¬ (g = w.heap.size) := fun e => (TyAt.ne hHT.out RB2.out.ty (by decide)) (by omega)
            have hgw' : ¬ (w.heap.size = g) := by omega
            have hg1 : ¬ (g = w1.heap.size) := fun e => (TyAt.ne hHT.out R72.out.ty (by decide)) e
            have hg1' : ¬ (w1.heap.size = g) := by omega
            go_wp2
            obtain ⟨how3, R73, RB3, hbb, hRb⟩ := HW3.out
            obtain ⟨hsb, hcb1, hcb2, hyl⟩ := HX3.out
            obtain ⟨_, _, hty3⟩ := how3.ty g rfl
            have hp3 := how3.put 0 (.slice Ab ys.length cb)
            rw [flat_setS svs 0 ⟨Ab, ys.length, cb⟩ hz] at hp3
            have how4 : Ow w.heap.size 104 1 svC (w3.setCell ⟨g, 0, none⟩ (.slice Ab ys.length cb)) (.slice (some ⟨g, 0, none⟩) svs.length c1) (svs.set 0 ⟨Ab, ys.length, cb⟩) := by unfold Ow; rw [List.length_set]; exact hp3
            have hS1 := Only.set (S := fun i => i = g) (p := ⟨g, 0, none⟩) (Only.refl w3) (.inl rfl) (.slice Ab ys.length cb)
            have hX4 := HRT2.out.only hbb (by intro k hk; left; omega)
            have hsb' := hsb.low (show w.heap.size ≤ w2.drew.heap.size from by show w.heap.size ≤ w2.heap.size; omega)
            exact bodyPost_ret (v := .agg #[.int .i64 W, .slice (some ⟨g, 0, none⟩) svs.length c1]) (by simp [results, Tryz.results70, go_sem, s0, s1, s3, s4, s5, s6, s7, s8, hne, hne', hgw, hgw', hg1, hg1']) rfl (anyFin (svs := svs.set 0 ⟨Ab, ys.length, cb⟩) (rows := rows.set 0 ys) (p' := p + 16001 + 1 + 72) hlt
              ((B2.out.trans hbb).set (p := ⟨g, 0, none⟩) (.inr (show w.heap.size ≤ g by omega)) _)
              how4
              ((hX4.only hS1 fun i hi => .inr ⟨104, by decide, by subst hi; exact hty3⟩).set rfl hcb1 hcb2 (hsb'.only hS1 fun i hi => .inr ⟨104, by decide, by subst hi; exact hty3⟩))
              (hRb.set (a := ⟨g, 0, none⟩) (show b < g by omega) _)
              (by omega)
              (RB3.far (p := ⟨g, 0, none⟩) hgw' _).ty (by omega) (by have := HLN.out.1; simp; omega)
              (fun r hr => by
                rcases List.mem_or_eq_of_mem_set hr with h | h
                · exact HLN.out.2 r h
                · subst h; exact hyl)))
      · go_wp2
        exact bodyPost_ret (v := .agg #[.int .i64 W, .slice A1 svs.length c1]) (by simp [results, Tryz.results70, go_sem, q0, q1, q2, q3, q4]) rfl (anyFin hlt B2.out HO2.out HRT2.out HR2.out (by omega) RB2.out.ty (by omega) (by have := HLN.out.1; omega) HLN.out.2)

end Go.Proofs.YtlhonhacehgooaaGreat

/-
  Contracts of the drawing of two tables.
-/
namespace Go.Proofs.YtlhonhacehgooaaGreat
open Go.RowKit Go.Qo
set_option linter.unusedVariables false
set_option linter.unusedSimpArgs false

/-- A drawn table's value v in w, its memory from lo on. -/
def DrTab (lo : Nat) (w : World) (W : Int) (v : Value) (svs : List SV) (rows : List Row1) : Prop :=
  W ≤ 16 ∧ rows.length ≤ 16 ∧ (∀ r ∈ rows, r.length ≤ 16) ∧ Ow lo 104 1 svC w v svs ∧ RowsT 55 2 valC lo w svs rows
theorem DrTab.low {lo lo' : Nat} {w : World} {W : Int} {v : Value} {svs : List SV} {rows : List Row1} (h : DrTab lo w W v svs rows) (hl : lo' ≤ lo) : DrTab lo' w W v svs rows := ⟨h.1, h.2.1, h.2.2.1, h.2.2.2.1.low hl, h.2.2.2.2.low hl⟩
theorem DrTab.on {lo : Nat} {w w' : World} {W : Int} {v : Value} {svs : List SV} {rows : List Row1} (h : DrTab lo w W v svs rows) (hb : Below w.heap.size w w') : DrTab lo w' W v svs rows := ⟨h.1, h.2.1, h.2.2.1, h.2.2.2.1.on hb, h.2.2.2.2.on hb⟩
theorem DrTab.only {lo : Nat} {w w' : World} {S : Nat → Prop} {W : Int} {v : Value} {svs : List SV} {rows : List Row1} (h : DrTab lo w W v svs rows) (hb : Only S w w') (hS : ∀ k, S k → k < lo ∨ TyAt w k 32) : DrTab lo w' W v svs rows :=
  ⟨h.1, h.2.1, h.2.2.1, h.2.2.2.1.only hb fun k hk => (hS k hk).imp id fun ht => ⟨_, by decide, ht⟩, h.2.2.2.2.only hb fun k hk => (hS k hk).imp id fun ht => ⟨_, by decide, ht⟩⟩
theorem DrTab.sl {lo : Nat} {w : World} {W : Int} {A : Option Addr} {n c : Nat} {svs : List SV} {rows : List Row1} (h : DrTab lo w W (.slice A n c) svs rows) : Sl 1 svC w w.heap.size A svs := by
  obtain ⟨A2, c2, e, _, _, h2⟩ := h.2.2.2.1.shape svC_length
  injection e with e1 e2 e3
  subst e1
  exact h2.sl
/-- Two drawn tables, all memory the call's own. -/
def DrawnTT (w : World) (W1 : Int) (v1 : Value) (W2 : Int) (v2 : Value) (w' : World) : Prop :=
  ∃ (svs1 : List SV) (rows1 : List Row1) (svs2 : List SV) (rows2 : List Row1), DrTab 0 w' W1 v1 svs1 rows1 ∧ DrTab 0 w' W2 v2 svs2 rows2 ∧ Below w.heap.size w w'

end Go.Proofs.YtlhonhacehgooaaGreat

/-
  Plain law: how often a row occurs in the difference and in the intersection; the difference is a part of the table. And drawn tables read.
-/
namespace Go.Proofs.YtlhonhacehgooaaGreat
open Go.RowKit Go.Qo
set_option linter.unusedVariables false
set_option linter.unusedSimpArgs false

/-- A drawn table, read. -/
theorem DrTab.read {lo : Nat} {w : World} {W : Int} {v : Value} {svs : List SV} {rows : List Row1} (h : DrTab lo w W v svs rows) :
    ∃ A c, v = .slice A rows.length c ∧ rows.length ≤ c ∧ c ≤ maxLen ∧ Sl 1 svC w w.heap.size A svs ∧ RowsT 55 2 valC 0 w svs rows ∧ rows.length ≤ 16 ∧ (∀ r ∈ rows, r.length ≤ 16) := by
  obtain ⟨_, h2, h3, h4, h5⟩ := h
  obtain ⟨A, c, rfl, h6, h7, h8⟩ := h4.shape svC_length
  have hl := h5.1
  exact ⟨A, c, by rw [hl], by omega, h7, h8.sl, h5.low (Nat.zero_le _), h2, h3⟩
theorem Ow.cap {lo : Nat} {w : World} {A : Option Addr} {n c : Nat} {svs : List SV} (h : Ow lo 104 1 svC w (.slice A n c) svs) : n ≤ c ∧ c ≤ maxLen := by
  obtain ⟨A2, c2, e, h1, h2, _⟩ := h.shape svC_length
  injection e with e1 e2 e3
  subst e2
  subst e3
  exact ⟨h1, h2⟩
theorem TabRes.read2 {q : Bool} {W : Int} {rows : List Row1} {w w' : World} {e : Ending} (h : TabRes q W rows w e w') : ∃ (W1 : Int) (A : Option Addr) (c : Nat) (out : List Row1), e = .returned (.tuple #[.agg #[.int .i64 W1, .slice A out.length c], .bool q]) ∧ TabC q W rows W1 out ∧ Rws w' w'.heap.size A out ∧ out.length ≤ c ∧ c ≤ maxLen ∧ Below w.heap.size w w' := by
  obtain ⟨W1, A, c, cp, rfl, h1, h2, h3, h4⟩ := TabRes.read h
  have hc := Ow.cap h2
  have hl : cp.length = (cp.map (·.2)).length := by rw [List.length_map]
  exact ⟨W1, A, c, cp.map (·.2), by rw [← hl], h1, rws_cp h2 h3, by rw [← hl]; exact hc.1, hc.2, h4⟩
theorem SpecTab.read2 {q : Bool} {W : Int} {rows : List Row1} {w w' : World} {e : Ending} (h : SpecTab q W rows w e w') : ∃ (W1 : Int) (A : Option Addr) (c : Nat) (out : List Row1), e = .returned (.tuple #[.agg #[.int .i64 W1, .slice A out.length c], .bool q]) ∧ TabD q W rows W1 out ∧ Rws w' w'.heap.size A out ∧ out.length ≤ c ∧ c ≤ maxLen ∧ Below w.heap.size w w' := by
  obtain ⟨W1, A, c, svs, out, rfl, h1, h2, h3, h4⟩ := SpecTab.read h
  have hc := Ow.cap h2
  exact ⟨W1, A, c, out, rfl, h1, rws_sv h2 h3, hc.1, hc.2, h4⟩
end Go.Proofs.YtlhonhacehgooaaGreat

/-
  Contracts of the drawing of two tables and two columns: joined and what hands it on.
-/
namespace Go.Proofs.YtlhonhacehgooaaGreat
open Go.RowKit Go.Qo
set_option linter.unusedVariables false
set_option linter.unusedSimpArgs false

/-- Two drawn tables and columns. -/
def JoinTab (b p : Nat) (w : World) (e : Ending) (w' : World) : Prop :=
  ∃ (W1 : Int) (v1 : Value) (svs1 : List SV) (rows1 : List Row1) (W2 : Int) (v2 : Value) (svs2 : List SV) (rows2 : List Row1) (ca cb : Int), e = .returned (.tuple #[.agg #[.int .i64 W1, v1], .agg #[.int .i64 W2, v2], .int .i64 ca, .int .i64 cb]) ∧ -1 ≤ ca ∧ ca ≤ 16 ∧ 0 ≤ cb ∧ cb ≤ 16 ∧
    DrTab w.heap.size w' W1 v1 svs1 rows1 ∧ DrTab w.heap.size w' W2 v2 svs2 rows2 ∧ But b w w' ∧ Rd w' b p
theorem intsJ (w : World) (x y : Int) (t : TypeId) : Sl 1 intC (w.alloc (.cells #[.int .i64 x, .int .i64 y] t)) (w.alloc (.cells #[.int .i64 x, .int .i64 y] t)).heap.size (some ⟨w.heap.size, 0, none⟩) [x, y] :=
  Row.sl' (t := t) intC_length ((Row.new w _ _).of rfl)
set_option maxRecDepth 20000 in
set_option maxHeartbeats 4000000 in
theorem joined_ok (b p : Nat) (w : World) (h : Rd w b p) (hp : p + 190000 ≤ 1099511627776) :
    Calls Tryz.prog 59 #[.pointer (some ⟨b, 0, none⟩)] w (JoinTab b (p + 80000) w) := by
  have hlt := h.lt
  obtain ⟨W0, hW0⟩ : ∃ z, (w.alloc (.cells #[.int .i64 0, .slice none 0 0] 32)).alloc (.cells #[.int .i64 0, .slice none 0 0] 32) = z := ⟨_, rfl⟩
  have B0 : Below w.heap.size w W0 := by rw [← hW0]; exact balloc (balloc (Below.refl _ _) _) _
  have r1 : Row W0 w.heap.size 32 [.int .i64 0, .slice none 0 0] := by rw [← hW0]; exact Row.first _ _ _ _
  have r2 : Row W0 (w.heap.size + 1) 32 [.int .i64 0, .slice none 0 0] := by rw [← hW0]; exact Row.second _ _ _ _
  have HW := Lib.hid hW0
  have HB0 := Lib.hid (And.intro B0 (And.intro r1 r2))
  have HP := Lib.hid (pick_ok b p 3 W0 (h.on B0) (by omega))
  clear h B0 r1 r2 hW0
  go_enter Tryz.func59, Tryz.ntmps59
  go_upto_region 1 with fail
  rw [HW.out]
  go_wp2_with fail
  refine HP.out.mono ?_
  rintro e w1 ⟨r0, rfl, hr0, hb1, hsz1, hR1⟩
  have q0 := hr0.1
  have q1 := hr0.2.1 (by omega)
  have S1 := Lib.hid (show But b w w1 ∧ Row w1 w.heap.size 32 [.int .i64 0, .slice none 0 0] ∧ Row w1 (w.heap.size + 1) 32 [.int .i64 0, .slice none 0 0] ∧ Rd w1 b (p + 1) from
    ⟨(only_below HB0.out.1).trans hb1, HB0.out.2.1.only hb1 (by omega), HB0.out.2.2.only hb1 (by omega), hR1⟩)
  obtain ⟨Wa, hWa⟩ : ∃ W, 1 + r0 = W := ⟨_, rfl⟩
  have ha1 : 1 ≤ Wa := by omega
  have ha2 : Wa ≤ 3 := by omega
  have HP1 := Lib.hid (pick_ok b (p + 1) 3 w1 hR1 (by omega))
  clear hb1 hR1 hr0
  go_wp2_with fail
  refine HP1.out.mono ?_
  rintro e w2 ⟨r3, rfl, hr3, hb2, hsz2, hR2⟩
  have q2 := hr3.1
  have q3 := hr3.2.1 (by omega)
  have S2 := Lib.hid (show But b w w2 ∧ Row w2 w.heap.size 32 [.int .i64 0, .slice none 0 0] ∧ Row w2 (w.heap.size + 1) 32 [.int .i64 0, .slice none 0 0] ∧ Rd w2 b (p + 1 + 1) from
    ⟨S1.out.1.trans hb2, S1.out.2.1.only hb2 (by omega), S1.out.2.2.1.only hb2 (by omega), hR2⟩)
  obtain ⟨Wb, hWb⟩ : ∃ W, 1 + r3 = W := ⟨_, rfl⟩
  have hb1 : 1 ≤ Wb := by omega
  have hbb2 : Wb ≤ 3 := by omega
  have HT := Lib.hid (anyTable_ok b (p + 1 + 1) Wa 6 w2 hR2 (by omega) (by omega) (by omega) (by omega) (by omega))
  clear hb2 hR2 hr3
  go_wp2_with fail
  refine HT.out.mono ?_
  rintro e w3 ⟨W3, v3, svs, rows, rfl, hW3, hrl, hrw, how3, hrt3, hb3, hR3⟩
  obtain ⟨A3, c3, rfl, _, _, _⟩ := how3.shape svC_length
  have hz3 := hb3.size
  have hsz0 : w.heap.size + 2 ≤ w2.heap.size := by have := S2.out.2.2.1.lt; omega
  obtain ⟨w4, hw4⟩ : ∃ w4, w3.alloc (.cells #[.int .i64 W3, .slice A3 svs.length c3] 32) = w4 := ⟨_, rfl⟩
  have hb4 : Below w3.heap.size w3 w4 := by rw [← hw4]; exact balloc (Below.refl _ _) _
  have hx4 : Row w4 w3.heap.size 32 [.int .i64 W3, .slice A3 svs.length c3] := by rw [← hw4]; exact Row.new _ _ _
  have S4 := Lib.hid (show But b w w4 ∧ Row w4 w.heap.size 32 [.int .i64 0, .slice none 0 0] ∧ Row w4 (w.heap.size + 1) 32 [.int .i64 0, .slice none 0 0] ∧ Rd w4 b (p + 1 + 1 + 17000) ∧ Row w4 w3.heap.size 32 [.int .i64 W3, .slice A3 svs.length c3] ∧ DrTab (w.heap.size + 2) w4 W3 (.slice A3 svs.length c3) svs rows from
    ⟨(S2.out.1.trans hb3).trans (only_below hb4), (S2.out.2.1.only hb3 (by omega)).on hb4, (S2.out.2.2.1.only hb3 (by omega)).on hb4, hR3.on hb4, hx4, DrTab.on ⟨hW3, by have : (6 : Int).toNat = 6 := rfl; omega, hrw, how3.low hsz0, hrt3.low hsz0⟩ hb4⟩)
  have hbl := hR3.lt
  have hl4 := hx4.lt
  have Hw4 := Lib.hid hw4
  have HT4 := Lib.hid (anyTable_ok b (p + 1 + 1 + 17000) Wb 6 w4 (hR3.on hb4) (by omega) (by omega) (by omega) (by omega) (by omega))
  clear how3 hrt3 hb3 hR3 hrw hrl hW3 hw4 hb4 hx4
  go_upto_region 4 with fail
  rw [Hw4.out]
  go_wp2_with fail
  refine HT4.out.mono ?_
  rintro e w5 ⟨W5, v5, svs5, rows5, rfl, hW5, hrl5, hrw5, how5, hrt5, hb5, hR5⟩
  obtain ⟨A5, c5, rfl, _, _, _⟩ := how5.shape svC_length
  have hz5 := hb5.size
  have hsz4 : w.heap.size + 2 ≤ w4.heap.size := by have := S4.out.2.2.2.2.1.lt; have := S4.out.2.2.1.lt; omega
  obtain ⟨w6, hw6⟩ : ∃ w6, w5.alloc (.cells #[.int .i64 W5, .slice A5 svs5.length c5] 32) = w6 := ⟨_, rfl⟩
  have hb6 : Below w5.heap.size w5 w6 := by rw [← hw6]; exact balloc (Below.refl _ _) _
  have hx6 : Row w6 w5.heap.size 32 [.int .i64 W5, .slice A5 svs5.length c5] := by rw [← hw6]; exact Row.new _ _ _
  have hne3 : w3.heap.size ≠ b := by omega
  have hbl5 := hR5.lt
  have S6 := Lib.hid (show But b w w6 ∧ Row w6 w.heap.size 32 [.int .i64 0, .slice none 0 0] ∧ Row w6 (w.heap.size + 1) 32 [.int .i64 0, .slice none 0 0] ∧ Row w6 w3.heap.size 32 [.int .i64 W3, .slice A3 svs.length c3] ∧ DrTab (w.heap.size + 2) w6 W3 (.slice A3 svs.length c3) svs rows ∧ Row w6 w5.heap.size 32 [.int .i64 W5, .slice A5 svs5.length c5] ∧ DrTab (w.heap.size + 2) w6 W5 (.slice A5 svs5.length c5) svs5 rows5 from
    ⟨(S4.out.1.trans hb5).trans (only_below hb6), (S4.out.2.1.only hb5 (by omega)).on hb6, (S4.out.2.2.1.only hb5 (by omega)).on hb6, (S4.out.2.2.2.2.1.only hb5 hne3).on hb6, (S4.out.2.2.2.2.2.only hb5 fun k hk => .inl (by omega)).on hb6, hx6, DrTab.on ⟨hW5, by have : (6 : Int).toNat = 6 := rfl; omega, hrw5, how5.low hsz4, hrt5.low hsz4⟩ hb6⟩)
  have Hw6 := Lib.hid hw6
  have HP6 := Lib.hid (pick_ok b (p + 1 + 1 + 17000 + 17000) Wa w6 (hR5.on hb6) (by omega))
  clear how5 hrt5 hb5 hR5 hrw5 hrl5 hW5 hw6 hb6 hx6
  go_upto_region 5 with fail
  rw [Hw6.out]
  go_wp2_with fail
  refine HP6.out.mono ?_
  rintro e w7 ⟨ca, rfl, hca, hb7, _, hR7⟩
  have ka0 := hca.1
  have ka1 := hca.2.1 (by omega)
  have H7 := Lib.hid hb7
  have HP7 := Lib.hid (pick_ok b (p + 1 + 1 + 17000 + 17000 + 1) Wb w7 hR7 (by omega))
  clear hb7 hR7 hca
  go_wp2_with fail
  refine HP7.out.mono ?_
  rintro e w8 ⟨cb, rfl, hcb, hb8, _, hR8⟩
  have kb0 := hcb.1
  have kb1 := hcb.2.1 (by omega)
  have H8 := Lib.hid (show But b w6 w8 from H7.out.trans hb8)
  have HP8 := Lib.hid (pick_ok b (p + 1 + 1 + 17000 + 17000 + 1 + 1) 16 w8 hR8 (by omega))
  clear hb8 hR8 hcb
  go_wp2_with fail
  refine HP8.out.mono ?_
  rintro e w9 ⟨r9, rfl, hr9, hb9, _, hR9⟩
  have H9 := Lib.hid (show But b w6 w9 from H8.out.trans hb9)
  have HR9 := Lib.hid hR9
  clear hb9 hR9 hr9
  have hne5 : w5.heap.size ≠ b := by omega
  have hl30 := S4.out.2.2.1.lt
  have hz34 : w.heap.size + 2 ≤ w3.heap.size := by omega
  have hz45 : w3.heap.size ≤ w5.heap.size := by omega
  have x1 : ¬ (w3.heap.size = w.heap.size) := by omega
  have x2 : ¬ (w3.heap.size = w.heap.size + 1) := by omega
  have x3 : ¬ (w5.heap.size = w.heap.size) := by omega
  have x4 : ¬ (w5.heap.size = w.heap.size + 1) := by omega
  have x5 : ¬ (w.heap.size = w3.heap.size) := by omega
  have x6 : ¬ (w.heap.size + 1 = w3.heap.size) := by omega
  have x7 : ¬ (w.heap.size = w5.heap.size) := by omega
  have x8 : ¬ (w.heap.size + 1 = w5.heap.size) := by omega
  -- the end, from any world behind w6
  have ENDS : Hid (∀ (z : World), But b w6 z → (Row z w.heap.size 32 [.int .i64 0, .slice none 0 0] ∧ Row z (w.heap.size + 1) 32 [.int .i64 0, .slice none 0 0] ∧ Row z w3.heap.size 32 [.int .i64 W3, .slice A3 svs.length c3] ∧ Row z w5.heap.size 32 [.int .i64 W5, .slice A5 svs5.length c5])) := Lib.hid (fun z hz =>
    ⟨S6.out.2.1.only hz (by omega), S6.out.2.2.1.only hz (by omega), S6.out.2.2.2.1.only hz hne3, S6.out.2.2.2.2.2.1.only hz hne5⟩)
  have FIN : Hid (∀ (z : World) (ka : Int), But b w6 z → Rd z b (p + 80000) → -1 ≤ ka → ka ≤ 16 → ∀ (y : World), (y = (((z.setCell ⟨w.heap.size, 0, none⟩ (.int .i64 W3)).setCell ⟨w.heap.size, 1, none⟩ (.slice A3 svs.length c3)).setCell ⟨w.heap.size + 1, 0, none⟩ (.int .i64 W5)).setCell ⟨w.heap.size + 1, 1, none⟩ (.slice A5 svs5.length c5) ∨ y = (((z.setCell ⟨w.heap.size + 1, 0, none⟩ (.int .i64 W5)).setCell ⟨w.heap.size + 1, 1, none⟩ (.slice A5 svs5.length c5)).setCell ⟨w.heap.size, 0, none⟩ (.int .i64 W3)).setCell ⟨w.heap.size, 1, none⟩ (.slice A3 svs.length c3)) →
      JoinTab b (p + 80000) w (.returned (.tuple #[.agg #[.int .i64 W3, .slice A3 svs.length c3], .agg #[.int .i64 W5, .slice A5 svs5.length c5], .int .i64 ka, .int .i64 cb])) y ∧ JoinTab b (p + 80000) w (.returned (.tuple #[.agg #[.int .i64 W3, .slice A3 svs.length c3], .agg #[.int .i64 W5, .slice A5 svs5.length c5], .int .i64 ka, .int .i64 cb])) y.drew) := Lib.hid (by
    intro z ka hz hRz h1 h2 y hy
    obtain ⟨e1, e2, _, _⟩ := ENDS.out z hz
    have hlz := hRz.lt
    have hzz := hz.size
    have hs6 : w.heap.size + 2 ≤ w6.heap.size := by have := S6.out.2.2.1.lt; omega
    have hS : Only (fun i => i = w.heap.size ∨ i = w.heap.size + 1) z y ∧ Rd y b (p + 80000) := by
      rcases hy with rfl | rfl
      · exact ⟨((((Only.refl z).set (p := ⟨w.heap.size, 0, none⟩) (.inl (.inl rfl)) _).set (p := ⟨w.heap.size, 1, none⟩) (.inl (.inl rfl)) _).set (p := ⟨w.heap.size + 1, 0, none⟩) (.inl (.inr rfl)) _).set (p := ⟨w.heap.size + 1, 1, none⟩) (.inl (.inr rfl)) _,
          (((hRz.set (a := ⟨_, _, none⟩) (by simp; omega) _).set (a := ⟨_, _, none⟩) (by simp; omega) _).set (a := ⟨_, _, none⟩) (by simp; omega) _).set (a := ⟨_, _, none⟩) (by simp; omega) _⟩
      · exact ⟨((((Only.refl z).set (p := ⟨w.heap.size + 1, 0, none⟩) (.inl (.inr rfl)) _).set (p := ⟨w.heap.size + 1, 1, none⟩) (.inl (.inr rfl)) _).set (p := ⟨w.heap.size, 0, none⟩) (.inl (.inl rfl)) _).set (p := ⟨w.heap.size, 1, none⟩) (.inl (.inl rfl)) _,
          (((hRz.set (a := ⟨_, _, none⟩) (by simp; omega) _).set (a := ⟨_, _, none⟩) (by simp; omega) _).set (a := ⟨_, _, none⟩) (by simp; omega) _).set (a := ⟨_, _, none⟩) (by simp; omega) _⟩
    have hk : ∀ k, (k = w.heap.size ∨ k = w.heap.size + 1) → TyAt z k 32 := by rintro k (rfl | rfl); exact e1.ty; exact e2.ty
    have hd1 := ((S6.out.2.2.2.2.1.only hz fun k hk => .inl (by omega)).only hS.1 fun k h => .inr (hk k h)).low (show w.heap.size ≤ w.heap.size + 2 by omega)
    have hd2 := ((S6.out.2.2.2.2.2.2.only hz fun k hk => .inl (by omega)).only hS.1 fun k h => .inr (hk k h)).low (show w.heap.size ≤ w.heap.size + 2 by omega)
    have hbt : But b w y := (S6.out.1.trans hz).step hS.1 fun i hi => .inr (by omega)
    exact ⟨⟨W3, _, svs, rows, W5, _, svs5, rows5, ka, cb, rfl, h1, h2, kb0, by omega, hd1, hd2, hbt, hS.2⟩, ⟨W3, _, svs, rows, W5, _, svs5, rows5, ka, cb, rfl, h1, h2, kb0, by omega, hd1.on (Below.refl _ _).drew, hd2.on (Below.refl _ _).drew, hbt.drew, hS.2.on (Below.refl _ _).drew⟩⟩)
  by_cases h0 : r9 = 0
  · subst h0
    obtain ⟨w10, hw10⟩ : ∃ z, w9.alloc (.cells #[.int .i64 (-1), .int .i64 Wa] 3) = z := ⟨_, rfl⟩
    have hbA : Below w9.heap.size w9 w10 := by rw [← hw10]; exact balloc (Below.refl _ _) _
    have hsA := intsJ w9 (-1) Wa 3
    rw [hw10] at hsA
    have hl9 := HR9.out.lt
    have HO := Lib.hid (one_ok b (p + 1 + 1 + 17000 + 17000 + 1 + 1 + 1) (some ⟨w9.heap.size, 0, none⟩) 2 [-1, Wa] w10 (HR9.out.on hbA) (by omega) (by simp) (by simp) hsA (by rintro a ha; cases ha; exact (show w9.heap.size ≠ b by omega)))
    have H10 := Lib.hid (show But b w6 w10 from H9.out.trans (only_below hbA))
    have HW10 := Lib.hid hw10
    clear hbA hsA hw10
    go_wp2_with fail
    rw [HW10.out]
    refine HO.out.mono ?_
    rintro e w11 ⟨r, rfl, hr, hb11, _, hR11⟩
    have hka : -1 ≤ r ∧ r ≤ 16 := by simp at hr; omega
    obtain ⟨hka0, hka1⟩ := hka
    have H11 := Lib.hid (show But b w6 w11 from H10.out.trans hb11)
    have HR11 := Lib.hid (hR11.mono (show p + 1 + 1 + 17000 + 17000 + 1 + 1 + 1 + 1 ≤ p + 80000 by omega))
    obtain ⟨e1, e2, e3, e4⟩ := ENDS.out _ H11.out
    have u0 := e1.cell 0
    have u1 := e1.cell 1
    have u2 := e1.frozen 0
    have u3 := e1.frozen 1
    have u4 := e1.lt
    have u5 := e2.cell 0
    have u6 := e2.cell 1
    have u7 := e2.frozen 0
    have u8 := e2.frozen 1
    have u9 := e2.lt
    have s0 : w11.cell? ⟨w3.heap.size, 0, none⟩ = some (.int .i64 W3) := e3.cell 0
    have s1 : w11.cell? ⟨w3.heap.size, 1, none⟩ = some (.slice A3 svs.length c3) := e3.cell 1
    have s2 : w11.cell? ⟨w5.heap.size, 0, none⟩ = some (.int .i64 W5) := e4.cell 0
    have s3 : w11.cell? ⟨w5.heap.size, 1, none⟩ = some (.slice A5 svs5.length c5) := e4.cell 1
    clear hb11 hR11 hr e1 e2 e3 e4
    go_wp2
    go_region
    all_goals (
      go_wp2
      refine bodyPost_ret (v := .tuple #[.agg #[.int .i64 W3, .slice A3 svs.length c3], .agg #[.int .i64 W5, .slice A5 svs5.length c5], .int .i64 r, .int .i64 cb]) (by simp [results, Tryz.results59, go_sem, u0, u1, u2, u3, u4, u5, u6, u7, u8, u9]) rfl ?_
      first
        | exact (FIN.out _ r H11.out HR11.out hka0 hka1 _ (.inl rfl)).2
        | exact (FIN.out _ r H11.out HR11.out hka0 hka1 _ (.inr rfl)).2
        | exact (FIN.out _ r H11.out HR11.out hka0 hka1 _ (.inl rfl)).1
        | exact (FIN.out _ r H11.out HR11.out hka0 hka1 _ (.inr rfl)).1)
  · have h0' : (r9 == 0) = false := by simp [h0]
    have HR11 := Lib.hid (HR9.out.mono (show p + 1 + 1 + 17000 + 17000 + 1 + 1 + 1 ≤ p + 80000 by omega))
    obtain ⟨e1, e2, e3, e4⟩ := ENDS.out _ H9.out
    have u0 := e1.cell 0
    have u1 := e1.cell 1
    have u2 := e1.frozen 0
    have u3 := e1.frozen 1
    have u4 := e1.lt
    have u5 := e2.cell 0
    have u6 := e2.cell 1
    have u7 := e2.frozen 0
    have u8 := e2.frozen 1
    have u9 := e2.lt
    have s0 : w9.cell? ⟨w3.heap.size, 0, none⟩ = some (.int .i64 W3) := e3.cell 0
    have s1 : w9.cell? ⟨w3.heap.size, 1, none⟩ = some (.slice A3 svs.length c3) := e3.cell 1
    have s2 : w9.cell? ⟨w5.heap.size, 0, none⟩ = some (.int .i64 W5) := e4.cell 0
    have s3 : w9.cell? ⟨w5.heap.size, 1, none⟩ = some (.slice A5 svs5.length c5) := e4.cell 1
    clear e1 e2 e3 e4
    go_wp2
    go_region
    all_goals (
      go_wp2
      refine bodyPost_ret (v := .tuple #[.agg #[.int .i64 W3, .slice A3 svs.length c3], .agg #[.int .i64 W5, .slice A5 svs5.length c5], .int .i64 ca, .int .i64 cb]) (by simp [results, Tryz.results59, go_sem, u0, u1, u2, u3, u4, u5, u6, u7, u8, u9]) rfl ?_
      first
        | exact (FIN.out _ ca H9.out HR11.out (by omega) (by omega) _ (.inl rfl)).2
        | exact (FIN.out _ ca H9.out HR11.out (by omega) (by omega) _ (.inr rfl)).2
        | exact (FIN.out _ ca H9.out HR11.out (by omega) (by omega) _ (.inl rfl)).1
        | exact (FIN.out _ ca H9.out HR11.out (by omega) (by omega) _ (.inr rfl)).1)
/-- Two drawn tables and columns, all memory the call's own. -/
def DrawnJ (w : World) (W1 : Int) (v1 : Value) (W2 : Int) (v2 : Value) (ca cb : Int) (w' : World) : Prop :=
  -1 ≤ ca ∧ ca ≤ 16 ∧ 0 ≤ cb ∧ cb ≤ 16 ∧ DrawnTT w W1 v1 W2 v2 w'
set_option maxRecDepth 20000 in
set_option maxHeartbeats 2000000 in
theorem dDrawMergeJoin_ok (A : Option Addr) (c : Nat) (xs : List Int) (w : World) (hn : xs.length ≤ c) (hc : c ≤ maxLen) (hg : ∀ x ∈ xs, 0 ≤ x ∧ x ≤ 255) (hs : Sl 1 byteC w w.heap.size A xs) :
    Calls Tryz.prog 23 #[.slice A xs.length c] w fun e w' => ∃ W1 v1 W2 v2 ca cb, e = .returned (.tuple #[.agg #[.int .i64 W1, v1], .agg #[.int .i64 W2, v2], .int .i64 ca, .int .i64 cb]) ∧ DrawnJ w W1 v1 W2 v2 ca cb w' := by
  obtain ⟨W0, hW0⟩ : ∃ z, (w.alloc (.cells #[.int .i64 0, .slice none 0 0] 32)).alloc (.cells #[.int .i64 0, .slice none 0 0] 32) = z := ⟨_, rfl⟩
  have B0 : Below w.heap.size w W0 := by rw [← hW0]; exact balloc (balloc (Below.refl _ _) _) _
  have r1 : Row W0 w.heap.size 32 [.int .i64 0, .slice none 0 0] := by rw [← hW0]; exact Row.first _ _ _ _
  have r2 : Row W0 (w.heap.size + 1) 32 [.int .i64 0, .slice none 0 0] := by rw [← hW0]; exact Row.second _ _ _ _
  have HW := Lib.hid hW0
  have HB0 := Lib.hid (And.intro B0 (And.intro r1 r2))
  have HN := newReader_ok A c xs W0 hn hc hg (hs.on B0)
  obtain ⟨b, hbe⟩ : ∃ b, W0.heap.size = b := ⟨_, rfl⟩
  have hbe' : w.heap.size + 2 ≤ b := by have := r2.lt; omega
  rw [hbe] at HN
  have HN := Lib.hid HN
  have Hbe := Lib.hid hbe
  clear hs hg hc hn hbe B0 r1 r2 hW0
  go_enter Tryz.func23, Tryz.ntmps23
  go_upto_region 1 with fail
  rw [HW.out]
  go_wp2_with fail
  refine HN.out.mono ?_
  rintro e w1 ⟨rfl, hb1, hR1⟩
  have hb1 : Below W0.heap.size W0 w1 := by rw [Hbe.out]; exact hb1
  have HT := Lib.hid (joined_ok b 0 w1 hR1 (by omega))
  have H1 := Lib.hid (bch HB0.out.1 hb1)
  have R1 := Lib.hid (And.intro (HB0.out.2.1.on hb1) (HB0.out.2.2.on hb1))
  have hl1 := hR1.lt
  clear hb1 hR1
  go_wp2_with fail
  refine HT.out.mono ?_
  rintro e w2 ⟨W1, v1, svs1, rows1, W2, v2, svs2, rows2, ca, cb, rfl, ha0, ha1, hcb0, hcb1, hd1, hd2, hb2, hR2⟩
  obtain ⟨A1, c1, rfl, _, _, _⟩ := hd1.2.2.2.1.shape svC_length
  obtain ⟨A2, c2, rfl, _, _, _⟩ := hd2.2.2.2.1.shape svC_length
  have r1 := R1.out.1.only hb2 (by omega)
  have r2 := R1.out.2.only hb2 (by omega)
  have u0 := r1.cell 0
  have u1 := r1.cell 1
  have u2 := r1.frozen 0
  have u3 := r1.frozen 1
  have u4 := r1.lt
  have u5 := r2.cell 0
  have u6 := r2.cell 1
  have u7 := r2.frozen 0
  have u8 := r2.frozen 1
  have u9 := r2.lt
  have H2 := Lib.hid (And.intro hd1 (And.intro hd2 (And.intro hb2 (And.intro r1 r2))))
  have HC := Lib.hid (And.intro ha0 (And.intro ha1 (And.intro hcb0 hcb1)))
  clear hd1 hd2 hb2 hR2 r1 r2 ha0 ha1 hcb0 hcb1
  go_wp2
  obtain ⟨hd1, hd2, hb2, r1, r2⟩ := H2.out
  have hz1 := H1.out.size
  have hS0 := Only.set (S := fun i => i = w.heap.size ∨ i = w.heap.size + 1) (p := ⟨w.heap.size, 0, none⟩) (Only.refl w2) (.inl (.inl rfl)) (.int .i64 W1)
  have hS1 := hS0.set (p := ⟨w.heap.size, 1, none⟩) (.inl (.inl rfl)) (.slice A1 svs1.length c1)
  have hS2 := hS1.set (p := ⟨w.heap.size + 1, 0, none⟩) (.inl (.inr rfl)) (.int .i64 W2)
  have hS3 := hS2.set (p := ⟨w.heap.size + 1, 1, none⟩) (.inl (.inr rfl)) (.slice A2 svs2.length c2)
  have hk : ∀ k, (k = w.heap.size ∨ k = w.heap.size + 1) → TyAt w2 k 32 := by rintro k (rfl | rfl); exact r1.ty; exact r2.ty
  refine bodyPost_ret (v := .tuple #[.agg #[.int .i64 W1, .slice A1 svs1.length c1], .agg #[.int .i64 W2, .slice A2 svs2.length c2], .int .i64 ca, .int .i64 cb]) (by simp [results, Tryz.results23, go_sem, u0, u1, u2, u3, u4, u5, u6, u7, u8, u9]) rfl ?_
  exact ⟨W1, _, W2, _, ca, cb, rfl, HC.out.1, HC.out.2.1, HC.out.2.2.1, HC.out.2.2.2, svs1, rows1, svs2, rows2, (hd1.only hS3 fun k h => .inr (hk k h)).low (Nat.zero_le _), (hd2.only hS3 fun k h => .inr (hk k h)).low (Nat.zero_le _), Only.from_ (Only.from_ H1.out rfl hb2 (by intro i hi; omega)) rfl hS3 (by intro i hi; omega)⟩
end Go.Proofs.YtlhonhacehgooaaGreat
