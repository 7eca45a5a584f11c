/-
  Contracts of the reference's validJoin, matches, keepRows, hasNull.
-/
import Derived.Test.YtldndapcbgaliaaProg
import Derived.Test.YtldndapcbgaliaaTof
import Derived.Test.YtldndapcbgaliaaTab
import Derived.Test.YtldndapcbgaliaaRow
import Derived.Test.YtldndapcbgaliaaSmjI
import Derived.Test.YtldndapcbgaliaaBag
import Derived.BigQuiet
import Derived.Deep.DeepCutAuto
namespace Go.Proofs.Ytldndapcbgaliaa
open Go.RowKit Go.Qo
set_option linter.unusedVariables false
set_option linter.unusedSimpArgs false

/-- The reference's: whether a number occurs in a column. -/
def sMt (cb : Nat) (ys : List Row1) (v : Val) : Bool := ys.any fun r => !v.1 && (r[cb]? == some v)
theorem sMt_take {cb : Nat} {ys : List Row1} {v : Val} {k : Nat} {r : Row1} (hr : ys[k]? = some r) : sMt cb (ys.take (k + 1)) v = (sMt cb (ys.take k) v || (!v.1 && (r[cb]? == some v))) := by
  unfold sMt
  rw [List.take_add_one, hr, List.any_append]
  simp
theorem sMt_of {cb : Nat} {ys : List Row1} {v : Val} {k : Nat} {r : Row1} (hr : ys[k]? = some r) (h : (!v.1 && (r[cb]? == some v)) = true) : sMt cb ys v = true := by
  unfold sMt
  rw [List.any_eq_true]
  exact ⟨r, List.mem_of_getElem? hr, h⟩
theorem sMt_mt {cb : Nat} {ys : List Row1} {v : Val} : sMt cb ys v = match v with | (false, n) => decide (0 < (colN cb ys).count n) | _ => false := by
  obtain ⟨nl, n⟩ := v
  cases nl
  · simp only
    rw [Bool.eq_iff_iff, decide_eq_true_iff, List.count_pos_iff]
    unfold sMt colN
    rw [List.any_eq_true, List.mem_filterMap]
    constructor
    · rintro ⟨r, hr, h⟩
      refine ⟨r, hr, ?_⟩
      simp at h
      rw [h]
    · rintro ⟨r, hr, h⟩
      refine ⟨r, hr, ?_⟩
      split at h
      · rename_i m hm
        cases h
        simp [hm]
      · cases h
  · simp [sMt]
theorem hasNl_iff (cb : Nat) (ys : List Row1) : ys.any (isNl cb) = !(colNull cb ys == 0) := by
  rw [Bool.eq_iff_iff]
  unfold colNull
  rw [List.any_eq_true]
  simp only [Bool.not_eq_true', beq_eq_false_iff_ne, ne_eq, List.length_eq_zero_iff, List.filter_eq_nil_iff]
  constructor
  · rintro ⟨r, hr, h⟩ hc
    exact hc r hr h
  · intro h
    by_cases hh : ∃ r, r ∈ ys ∧ isNl cb r = true
    · exact hh
    · exact absurd (fun r hr h2 => hh ⟨r, hr, h2⟩) h

set_option maxRecDepth 20000 in
set_option maxHeartbeats 2000000 in
theorem specValidJoin_ok (W W' : Int) (A A' : Option Addr) (c c' : Nat) (xs ys : List Row1) (ca cb : Int) (w : World) (hn : xs.length ≤ 1048576) (hn' : ys.length ≤ 1048576) (h : Rws w w.heap.size A xs) (h' : Rws w w.heap.size A' ys) (q : Bool) (hq : q = true ↔ ((TabOk W xs ∧ 0 ≤ ca ∧ ca < W) ∧ (TabOk W' ys ∧ 0 ≤ cb ∧ cb < W'))) :
    Calls Try.prog 67 #[.agg #[.int .i64 W, .slice A xs.length c], .agg #[.int .i64 W', .slice A' ys.length c'], .int .i64 ca, .int .i64 cb] w fun e w' => e = .returned (.bool q) ∧ Below w.heap.size w w' := by
  have Hq := Lib.hid hq
  obtain ⟨t1, ht1⟩ : ∃ q : Bool, q = true ↔ TabOk W xs := ⟨_, @decide_eq_true_iff _ (Classical.propDecidable _)⟩
  obtain ⟨t2, ht2⟩ : ∃ q : Bool, q = true ↔ TabOk W' ys := ⟨_, @decide_eq_true_iff _ (Classical.propDecidable _)⟩
  obtain ⟨W0, hW0⟩ : ∃ z, (w.alloc (.cells #[.int .i64 W, .slice A xs.length c] 25)).alloc (.cells #[.int .i64 W', .slice A' ys.length c'] 25) = z := ⟨_, rfl⟩
  have B0 : Below w.heap.size w W0 := by rw [← hW0]; exact balloc (balloc (Below.refl _ _) _) _
  have r0 : Row W0 w.heap.size 25 [.int .i64 W, .slice A xs.length c] := by rw [← hW0]; exact Row.first _ _ _ _
  have r1 : Row W0 (w.heap.size + 1) 25 [.int .i64 W', .slice A' ys.length c'] := by rw [← hW0]; exact Row.second _ _ _ _
  have H1 := Lib.hid (specValidTable_ok W A c xs W0 (by unfold maxLen; omega) (h.on B0) t1 ht1)
  have H2 := Lib.hid (fun (z : World) (hz : Below W0.heap.size W0 z) => specValidTable_ok W' A' c' ys z (by unfold maxLen; omega) (h'.on (bch B0 hz)) t2 ht2)
  have BX := Lib.hid (fun (z : World) (hz : Below W0.heap.size W0 z) => show (z.cell? ⟨w.heap.size, 0, none⟩ = some (.int .i64 W) ∧ z.cell? ⟨w.heap.size, 1, none⟩ = some (.slice A xs.length c) ∧ z.cell? ⟨w.heap.size + 1, 0, none⟩ = some (.int .i64 W') ∧ z.cell? ⟨w.heap.size + 1, 1, none⟩ = some (.slice A' ys.length c'))
    from ⟨(r0.on hz).cell 0, (r0.on hz).cell 1, (r1.on hz).cell 0, (r1.on hz).cell 1⟩)
  have HQ1 := Lib.hid ht1
  have HQ2 := Lib.hid ht2
  have HW := Lib.hid hW0
  have HB0 := Lib.hid B0
  have z0 := BX.out _ (Below.refl _ _)
  clear hq ht1 ht2 h h' B0 r0 r1 hW0
  cases t1
  · have hf : q = false := bfalse Hq.out fun ht => by have := HQ1.out.2 ht.1.1; cases this
    subst hf
    go_enter Try.func67, Try.ntmps67
    go_upto_region 1 with fail
    rw [HW.out]
    go_wp2_with fail
    refine H1.out.mono ?_
    rintro e w1 ⟨rfl, hb1⟩
    have H1' := Lib.hid (bch HB0.out hb1)
    clear hb1 z0
    go_wp2
    go_ret
    exact ⟨rfl, H1'.out⟩
  · cases t2
    · have hf : q = false := bfalse Hq.out fun ht => by have := HQ2.out.2 ht.2.1; cases this
      subst hf
      go_enter Try.func67, Try.ntmps67
      go_upto_region 1 with fail
      rw [HW.out]
      go_wp2_with fail
      refine H1.out.mono ?_
      rintro e w1 ⟨rfl, hb1⟩
      have HB1 := Lib.hid hb1
      have z1 := BX.out _ hb1
      clear hb1 z0
      go_wp2_with fail
      refine (H2.out _ HB1.out).mono ?_
      rintro e w2 ⟨rfl, hb2⟩
      have H1' := Lib.hid (bch HB0.out (bch HB1.out hb2))
      clear hb2 z1
      go_wp2
      go_ret
      exact ⟨rfl, H1'.out⟩
    · have hT1 := HQ1.out.1 rfl
      have hT2 := HQ2.out.1 rfl
      have hw1 : 1 ≤ W ∧ W ≤ 6 := ⟨hT1.1, hT1.2.1⟩
      have hw2 : 1 ≤ W' ∧ W' ≤ 6 := ⟨hT2.1, hT2.2.1⟩
      have hwa : IntKind.i64.wrap (W - 1) = W - 1 := IntWalk.i64_in _ (by omega)
      have hwb : IntKind.i64.wrap (W' - 1) = W' - 1 := IntWalk.i64_in _ (by omega)
      obtain ⟨q1, hq1⟩ : ∃ q, (decide (0 ≤ ca) && decide (ca ≤ W - 1)) = q := ⟨_, rfl⟩
      obtain ⟨q2, hq2⟩ : ∃ q, (decide (0 ≤ cb) && decide (cb ≤ W' - 1)) = q := ⟨_, rfl⟩
      have HI1 := Lib.hid (fun z => inRange_ok ca 0 (W - 1) z q1 hq1)
      have HI2 := Lib.hid (fun z => inRange_ok cb 0 (W' - 1) z q2 hq2)
      have hqq : q = (q1 && q2) := by
        rw [Bool.eq_iff_iff, Hq.out, ← hq1, ← hq2]
        simp only [Bool.and_eq_true, decide_eq_true_eq]
        constructor
        · rintro ⟨⟨_, a, b⟩, ⟨_, c, d⟩⟩
          exact ⟨⟨a, by omega⟩, ⟨c, by omega⟩⟩
        · rintro ⟨⟨a, b⟩, ⟨c, d⟩⟩
          exact ⟨⟨hT1, a, by omega⟩, ⟨hT2, c, by omega⟩⟩
      have HQQ := Lib.hid hqq
      clear hqq hq1 hq2 hT1 hT2 hw1 hw2
      cases q1
      all_goals
        go_enter Try.func67, Try.ntmps67
        go_upto_region 1 with fail
        rw [HW.out]
        go_wp2_with fail
        refine H1.out.mono ?_
        rintro e w1 ⟨rfl, hb1⟩
        have HB1 := Lib.hid hb1
        have z1 := BX.out _ hb1
        clear hb1 z0
        go_wp2_with fail
        refine (H2.out _ HB1.out).mono ?_
        rintro e w2 ⟨rfl, hb2⟩
        have HB2 := Lib.hid (bch HB1.out hb2)
        have z2 := BX.out _ HB2.out
        clear hb2 z1
        go_wp2_with fail
        refine (HI1.out _).mono ?_
        rintro e w3 ⟨rfl, rfl⟩
        go_wp2_with fail
        first
          | (go_ret
             exact ⟨ret_bool (by rw [HQQ.out]; simp), bch HB0.out HB2.out⟩)
          | (refine (HI2.out _).mono ?_
             rintro e w4 ⟨rfl, rfl⟩
             go_wp2
             go_ret
             exact ⟨ret_bool (by rw [HQQ.out]; simp), bch HB0.out HB2.out⟩)

set_option maxRecDepth 20000 in
set_option maxHeartbeats 2000000 in
theorem specMatches_ok (W' : Int) (A' : Option Addr) (c' ci : Nat) (ys : List Row1) (v : Val) (w : World) (hT : TabOk W' ys) (hci : (ci : Int) < W') (h' : Rws w w.heap.size A' ys) :
    Calls Try.prog 69 #[.agg #[.int .i64 W', .slice A' ys.length c'], .int .i64 ci, .agg #[.bool v.1, .int .i64 v.2]] w fun e w' => e = .returned (.bool (sMt ci ys v)) ∧ Below w.heap.size w w' := by
  have hn : ys.length ≤ 400 := hT.2.2.1
  have HT := Lib.hid hT
  have HH := Lib.hid h'
  obtain ⟨nl, n⟩ := v
  obtain ⟨t, ht⟩ : ∃ t, sMt ci ys (nl, n) = t := ⟨_, rfl⟩
  rw [ht]
  have Ht := Lib.hid ht
  clear hT h' ht
  obtain ⟨W0, hW0⟩ : ∃ z, (w.alloc (.cells #[.int .i64 W', .slice A' ys.length c'] 25)).alloc (.cells #[.bool nl, .int .i64 n] 40) = z := ⟨_, rfl⟩
  have B0 : Below w.heap.size w W0 := by rw [← hW0]; exact balloc (balloc (Below.refl _ _) _) _
  have r0 : Row W0 w.heap.size 25 [.int .i64 W', .slice A' ys.length c'] := by rw [← hW0]; exact Row.first _ _ _ _
  have r1 : Row W0 (w.heap.size + 1) 40 [.bool nl, .int .i64 n] := by rw [← hW0]; exact Row.second _ _ _ _
  have HB0 := Lib.hid (And.intro B0 (And.intro r0 r1))
  have HW := Lib.hid hW0
  clear B0 r0 r1 hW0
  go_enter Try.func69, Try.ntmps69
  go_upto_region 1 with fail
  rw [HW.out]
  go_wp2
  go_loopg [7] ys.length (fun g iv wr => ∃ k : Nat, k ≤ ys.length ∧ g = ys.length - k ∧ iv = .int .i64 k ∧ sMt ci (ys.take k) (nl, n) = false ∧ Below W0.heap.size W0 wr)
  case atStart => exact ⟨0, by omega, by omega, rfl, by simp [sMt], Below.refl _ _⟩
  case round =>
    obtain ⟨k, hk, rfl, rfl, hf, hb⟩ := hrel
    have HI := Lib.hid (And.intro hf hb)
    have a1 : wr.cell? ⟨w.heap.size, 1, none⟩ = some (.slice A' ys.length c') := (HB0.out.2.1.on hb).cell 1
    have v0 : wr.cell? ⟨w.heap.size + 1, 0, none⟩ = some (.bool nl) := (HB0.out.2.2.on hb).cell 0
    have v1 : wr.cell? ⟨w.heap.size + 1, 1, none⟩ = some (.int .i64 n) := (HB0.out.2.2.on hb).cell 1
    by_cases hlt : k < ys.length
    · obtain ⟨b3, off3, A3, C3, hA3, hB3, c3, hc3, hm3, s3⟩ := (HH.out.on (bch HB0.out.1 hb)).at_ hlt
      have hy := Lib.hid (List.getElem?_eq_getElem hlt)
      generalize ys[k] = x at *
      subst hA3
      have hxo := (tabRowOk_ HT.out x (List.mem_of_getElem? hy.out))
      have hcx : ci < x.length := by have := hxo.2; omega
      have hx6 := (rowValid_len hxo.1).2
      obtain ⟨b4, off4, rfl, hB4, c4, c5⟩ := Val.at_ s3 hcx
      have hxc := Lib.hid (List.getElem?_eq_getElem hcx)
      generalize x[ci] = u at *
      obtain ⟨ul, un⟩ := u
      have hst := sMt_take (cb := ci) (v := (nl, n)) hy.out
      rw [HI.out.1, Bool.false_or, hxc.out] at hst
      have hof := sMt_of (cb := ci) (v := (nl, n)) hy.out
      rw [hxc.out] at hof
      have HF := Lib.hid (And.intro hst hof)
      clear hf hb hst hof hxo s3 hc3 hm3
      have NEXT : ∀ (tt : Bool), ((!nl && (some ((ul, un) : Val) == some (nl, n))) = false) → sMt ci (ys.take (k + 1)) (nl, n) = false := fun _ h => HF.out.1.trans h
      have NEXT := Lib.hid NEXT
      cases nl
      · by_cases hun : un = n
        · subst hun
          cases ul
          · have htt : t = true := by rw [← Ht.out]; exact HF.out.2 (by simp)
            subst htt
            go_wp2
            go_quiet (fail)
            go_wp2
            go_ret
            exact ⟨rfl, bch HB0.out.1 (bdrewN HI.out.2 _)⟩
          · go_wp2
            go_quiet (fail)
            go_wp2
            go_roundg (ys.length - (k + 1))
            case measure => omega
            case rel => exact ⟨k + 1, by omega, rfl, by go_num, NEXT.out true (by simp), bdrewN HI.out.2 _⟩
        · have hub : (un == n) = false := by rw [beq_eq_false_iff_ne]; exact hun
          cases ul
          all_goals
            go_wp2
            go_quiet (fail)
            go_wp2
            go_roundg (ys.length - (k + 1))
            case measure => omega
            case rel => exact ⟨k + 1, by omega, rfl, by go_num, NEXT.out true (by simp [hun]), bdrewN HI.out.2 _⟩
      · go_wp2
        go_quiet (fail)
        go_wp2
        go_roundg (ys.length - (k + 1))
        case measure => omega
        case rel => exact ⟨k + 1, by omega, rfl, by go_num, NEXT.out true (by simp), bdrewN HI.out.2 _⟩
    · have hke : k = ys.length := by omega
      have htt : t = false := by
        have := HI.out.1
        rw [hke, List.take_length, Ht.out] at this
        exact this
      subst htt
      clear hke hf
      go_wp2
      go_ret
      exact ⟨rfl, bch HB0.out.1 HI.out.2⟩

set_option maxRecDepth 20000 in
set_option maxHeartbeats 2000000 in
theorem specHasNull_ok (W' : Int) (A' : Option Addr) (c' ci : Nat) (ys : List Row1) (w : World) (hT : TabOk W' ys) (hci : (ci : Int) < W') (h' : Rws w w.heap.size A' ys) :
    Calls Try.prog 68 #[.agg #[.int .i64 W', .slice A' ys.length c'], .int .i64 ci] w fun e w' => e = .returned (.bool (ys.any (isNl ci))) ∧ Below w.heap.size w w' := by
  have hn : ys.length ≤ 400 := hT.2.2.1
  have HT := Lib.hid hT
  have HH := Lib.hid h'
  obtain ⟨t, ht⟩ : ∃ t, ys.any (isNl ci) = t := ⟨_, rfl⟩
  rw [ht]
  have Ht := Lib.hid ht
  clear hT h' ht
  have r0 := Row.new w 25 #[.int .i64 W', .slice A' ys.length c']
  have HB0 := Lib.hid (And.intro (balloc (Below.refl _ w) (.cells #[.int .i64 W', .slice A' ys.length c'] 25)) r0)
  obtain ⟨W0, hW0⟩ : ∃ z, w.alloc (.cells #[.int .i64 W', .slice A' ys.length c'] 25) = z := ⟨_, rfl⟩
  rw [hW0] at HB0
  have HW := Lib.hid hW0
  clear r0 hW0
  go_enter Try.func68, Try.ntmps68
  go_upto_region 1 with fail
  rw [HW.out]
  go_wp2
  go_loopg [5] ys.length (fun g iv wr => ∃ k : Nat, k ≤ ys.length ∧ g = ys.length - k ∧ iv = .int .i64 k ∧ (ys.take k).any (isNl ci) = false ∧ Below W0.heap.size W0 wr)
  case atStart => exact ⟨0, by omega, by omega, rfl, by simp, Below.refl _ _⟩
  case round =>
    obtain ⟨k, hk, rfl, rfl, hf, hb⟩ := hrel
    have HI := Lib.hid (And.intro hf hb)
    have a1 : wr.cell? ⟨w.heap.size, 1, none⟩ = some (.slice A' ys.length c') := (HB0.out.2.on hb).cell 1
    by_cases hlt : k < ys.length
    · obtain ⟨b3, off3, A3, C3, hA3, hB3, c3, hc3, hm3, s3⟩ := (HH.out.on (bch HB0.out.1 hb)).at_ hlt
      have hy := Lib.hid (List.getElem?_eq_getElem hlt)
      generalize ys[k] = x at *
      subst hA3
      have hxo := (tabRowOk_ HT.out x (List.mem_of_getElem? hy.out))
      have hcx : ci < x.length := by have := hxo.2; omega
      have hx6 := (rowValid_len hxo.1).2
      obtain ⟨b4, off4, rfl, hB4, c4, c5⟩ := Val.at_ s3 hcx
      have hxc := Lib.hid (List.getElem?_eq_getElem hcx)
      generalize x[ci] = u at *
      obtain ⟨ul, un⟩ := u
      have hnl : isNl ci x = ul := by
        unfold isNl
        rw [hxc.out]
        cases ul <;> rfl
      have hst : (ys.take (k + 1)).any (isNl ci) = ul := by
        rw [take_snoc_ hy.out, List.any_append, HI.out.1]
        simp [hnl]
      have hof : ul = true → t = true := fun h => by
        rw [← Ht.out, List.any_eq_true]
        exact ⟨x, List.mem_of_getElem? hy.out, hnl.trans h⟩
      have HF := Lib.hid (And.intro hst hof)
      clear hf hb hst hof hxo s3 hc3 hm3 hnl
      cases ul
      · go_wp2
        go_roundg (ys.length - (k + 1))
        case measure => omega
        case rel => exact ⟨k + 1, by omega, rfl, by go_num, HF.out.1, HI.out.2⟩
      · have htt : t = true := HF.out.2 rfl
        subst htt
        go_wp2
        go_ret
        exact ⟨rfl, bch HB0.out.1 HI.out.2⟩
    · have hke : k = ys.length := by omega
      have htt : t = false := by
        have := HI.out.1
        rw [hke, List.take_length, Ht.out] at this
        exact this
      subst htt
      clear hke hf
      go_wp2
      go_ret
      exact ⟨rfl, bch HB0.out.1 HI.out.2⟩
end Go.Proofs.Ytldndapcbgaliaa
