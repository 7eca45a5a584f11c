/-
  Contract of BucketSizes: the reference's.
-/
import Derived.Test.YtldndapcbgaliaaProg
import Derived.Test.YtldndapcbgaliaaInts
import Derived.Test.YtldndapcbgaliaaMarkT
import Derived.Test.YtldndapcbgaliaaTab
import Derived.Test.YtldndapcbgaliaaOrdW
import Derived.Test.YtldndapcbgaliaaBkD
import Derived.Test.YtldndapcbgaliaaIns
namespace Go.Proofs.Ytldndapcbgaliaa
open Go.RowKit Go.Qo
set_option linter.unusedVariables false
set_option linter.unusedSimpArgs false

theorem zeroInt : (Try.prog.info? 3).map (fun i => (i.zero, i.size, i.bytes)) = some (some (.int .i64 0), 1, 8) := by kernel_rfl
/-- A list of numbers, of the call's own. -/
def SomeInts (xs : List Int) (w : World) (e : Ending) (w' : World) : Prop := ∃ v, e = .returned v ∧ Ow w.heap.size 3 1 intC w' v xs ∧ Below w.heap.size w w'
def BkOk (W col nb : Int) (rows : List Row1) : Prop := TabOk W rows ∧ (0 ≤ col ∧ col < W) ∧ 1 ≤ nb ∧ nb ≤ 1000
theorem zeros_bk (col : Int) (m : Nat) : (madeCells #[.int .i64 0] m).toList = (bSizes col m []).flatMap intC := by
  have h := made_zeros [.int .i64 0] m
  simp only [List.length_cons, List.length_nil, Nat.zero_add, Nat.mul_one] at h
  rw [show (#[.int .i64 0] : Array Value) = [.int .i64 0].toArray from rfl, h, bSizes_zero]
  induction m with
  | zero => rfl
  | succ n ih => rw [zeros_succ, List.replicate_succ, List.flatMap_cons, ← ih (by simpa using made_zeros [.int .i64 0] n)]; rfl

set_option maxRecDepth 20000 in
set_option maxHeartbeats 2000000 in
theorem specBucketSizes_ok (W col nb : Int) (A : Option Addr) (c : Nat) (rows : List Row1) (w : World) (hn : rows.length ≤ 1048576) (h : Rws w w.heap.size A rows) (d : Bool) (hd : d = true ↔ BkOk W col nb rows) :
    Calls Try.prog 36 #[.agg #[.int .i64 W, .slice A rows.length c], .int .i64 col, .int .i64 nb] w (SomeInts (if d then bSizes col nb.toNat rows else []) w) := by
  have HH := Lib.hid h
  have Hd := Lib.hid hd
  clear h hd
  have B0 := Lib.hid (balloc (Below.refl w.heap.size w) (.cells #[.int .i64 W, .slice A rows.length c] 25))
  have R0 := Lib.hid ((Row.new w 25 #[.int .i64 W, .slice A rows.length c]))
  obtain ⟨t, ht⟩ : ∃ t : Bool, t = true ↔ TabOk W rows := ⟨_, @decide_eq_true_iff _ (Classical.propDecidable _)⟩
  have HT := Lib.hid (specValidTable_ok W A c rows _ (by unfold maxLen; omega) (HH.out.on B0.out) t ht)
  have Ht := Lib.hid ht
  clear ht
  cases t
  · have hdf : d = false := bfalse Hd.out fun h => absurd (Ht.out.2 h.1) (by simp)
    subst hdf
    go_enter Try.func36, Try.ntmps36
    go_wp2_with fail
    refine HT.out.mono ?_
    rintro e w1 ⟨rfl, hb1⟩
    go_wp2
    go_ret
    exact ⟨_, rfl, Ow.nil, bch B0.out hb1⟩
  · have hto := Ht.out.1 rfl
    have Hto := Lib.hid hto
    have hW1 := hto.1
    have hW6 := hto.2.1
    have hr4 := hto.2.2.1
    clear hto
    obtain ⟨q1, hq1⟩ : ∃ q1, (decide ((0 : Int) ≤ col) && decide (col ≤ W - 1)) = q1 := ⟨_, rfl⟩
    obtain ⟨q2, hq2⟩ : ∃ q2, (decide ((1 : Int) ≤ nb) && decide (nb ≤ 1000)) = q2 := ⟨_, rfl⟩
    have HI1 := Lib.hid (fun w => inRange_ok col 0 (W - 1) w q1 hq1)
    have HI2 := Lib.hid (fun w => inRange_ok nb 1 1000 w q2 hq2)
    have Hq := Lib.hid (And.intro hq1 hq2)
    clear hq1 hq2
    cases q1
    · have hdf : d = false := bfalse Hd.out fun h => by have := Hq.out.1; have h1 := h.2.1; simp at this; omega
      subst hdf
      go_enter Try.func36, Try.ntmps36
      go_wp2_with fail
      refine HT.out.mono ?_
      rintro e w1 ⟨rfl, hb1⟩
      have r1 := R0.out.on hb1
      have e0 : w1.cell? ⟨w.heap.size, 0, none⟩ = some (.int .i64 W) := r1.cell 0
      go_wp2_with fail
      refine (HI1.out _).mono ?_
      rintro e w2 ⟨rfl, rfl⟩
      go_wp2
      go_ret
      exact ⟨_, rfl, Ow.nil, bch B0.out hb1⟩
    · cases q2
      · have hdf : d = false := bfalse Hd.out fun h => by have := Hq.out.2; have h1 := h.2.2; simp at this; omega
        subst hdf
        go_enter Try.func36, Try.ntmps36
        go_wp2_with fail
        refine HT.out.mono ?_
        rintro e w1 ⟨rfl, hb1⟩
        have r1 := R0.out.on hb1
        have e0 : w1.cell? ⟨w.heap.size, 0, none⟩ = some (.int .i64 W) := r1.cell 0
        go_wp2_with fail
        refine (HI1.out _).mono ?_
        rintro e w2 ⟨rfl, rfl⟩
        go_wp2_with fail
        refine (HI2.out _).mono ?_
        rintro e w2 ⟨rfl, rfl⟩
        go_wp2
        go_ret
        exact ⟨_, rfl, Ow.nil, bch B0.out hb1⟩
      · have hcb : 0 ≤ col ∧ col ≤ W - 1 := by simpa using Hq.out.1
        have hnb : 1 ≤ nb ∧ nb ≤ 1000 := by simpa using Hq.out.2
        have hdt : d = true := Hd.out.2 ⟨Hto.out, ⟨hcb.1, by omega⟩, hnb⟩
        subst hdt
        rw [if_pos rfl]
        obtain ⟨m, rfl⟩ := Int.eq_ofNat_of_zero_le (show 0 ≤ nb by omega)
        obtain ⟨cl, rfl⟩ := Int.eq_ofNat_of_zero_le hcb.1
        have hm1 : 1 ≤ m := by omega
        have hm2 : m ≤ 1000 := by omega
        have hcl : (cl : Int) < W := by omega
        have hmk := run_make_rowN (P := Try.prog) 42 3 _ _ _ Try.underlying42 zeroInt .i64 .i64 m (by omega) (by omega)
        clear hcb hnb
        rw [Int.toNat_natCast]
        go_enter Try.func36, Try.ntmps36
        go_wp2_with fail
        refine HT.out.mono ?_
        rintro e w1 ⟨rfl, hb1⟩
        have r1 := R0.out.on hb1
        have e0 : w1.cell? ⟨w.heap.size, 0, none⟩ = some (.int .i64 W) := r1.cell 0
        have H1 := Lib.hid (And.intro (bch B0.out hb1) r1)
        clear hb1 r1
        go_wp2_with fail
        refine (HI1.out _).mono ?_
        rintro e w2 ⟨rfl, rfl⟩
        go_wp2_with fail
        refine (HI2.out _).mono ?_
        rintro e w2 ⟨rfl, rfl⟩
        go_wp2
        obtain ⟨ob, hob⟩ : ∃ ob, w1.heap.size = ob := ⟨_, rfl⟩
        have hob1 : w.heap.size < ob := by have := H1.out.2.lt; omega
        rw [hob]
        go_loopg [8] rows.length (fun g iv wr => ∃ i : Nat, i ≤ rows.length ∧ g = rows.length - i ∧ iv = .int .i64 i ∧ Below w.heap.size w wr ∧ Row wr w.heap.size 25 [.int .i64 W, .slice A rows.length c] ∧ Row wr ob 3 ((bSizes cl m (rows.take i)).flatMap intC))
        case atStart => exact ⟨0, by omega, by omega, rfl, balloc H1.out.1 _, H1.out.2.alloc _, by rw [← hob]; exact (Row.new w1 _ _).of (zeros_bk cl m)⟩
        case round =>
          obtain ⟨i, hi, rfl, rfl, hb, hbox, hrow⟩ := hrel
          have b1 : wr.cell? ⟨w.heap.size, 1, none⟩ = some (.slice A rows.length c) := hbox.cell 1
          have hbl := hbox.lt
          have hol := hrow.lt
          have HB := Lib.hid (And.intro hb (And.intro hbox hrow))
          clear hb hbox hrow
          by_cases hlt : i < rows.length
          · obtain ⟨b2, off2, A2, C2, hA2, hB2, c2, hc21, hm2, s2⟩ := (HH.out.on HB.out.1).at_ hlt
            have hx := Lib.hid (List.getElem?_eq_getElem hlt)
            have hxv := Hto.out.row (List.getElem?_eq_getElem hlt)
            generalize rows[i] = x at *
            subst hA2
            have hcx : cl < x.length := by have := hxv.2; omega
            obtain ⟨b3, off3, hA3, hB3, d1, d2⟩ := Val.at_ s2 hcx
            subst hA3
            have hgv : getV x cl = x[cl] := getV_eq hcx
            have hvv : vValid x[cl] = true := by
              have h1 := hxv.1
              simp only [rowValid, Bool.and_eq_true, List.all_eq_true] at h1
              exact h1.2 _ (List.getElem_mem hcx)
            have Hgv := Lib.hid hgv
            have hsm := small_of hvv
            generalize x[cl] = v at *
            obtain ⟨v1, v2⟩ := v
            dsimp only at d1 d2
            have hvb : v1 = false → -9999 ≤ v2 ∧ v2 ≤ 9999 := fun e => by
              subst e
              simp only [vValid, Bool.and_eq_true, decide_eq_true_eq] at hvv
              simpa using hvv
            have Hvb := Lib.hid hvb
            have HX2 := Lib.hid (show rows.take (i + 1) = rows.take i ++ [x] by rw [List.take_add_one, hx.out]; rfl)
            clear s2 hgv hc21 hm2 hxv hsm hvb hvv
            have hb8 := HB.out.1.size
            cases v1
            · have hv := Hvb.out rfl
              have hv0 : 0 ≤ v2 + 9999 := by omega
              have hm0 : ¬ ((m : Int) = 0) := by omega
              obtain ⟨j, hj⟩ : ∃ j : Nat, (v2 + 9999) % (m : Int) = j := Int.eq_ofNat_of_zero_le (Int.emod_nonneg _ hm0)
              have hjt : (v2 + 9999).tmod (m : Int) = j := by rw [Int.tmod_eq_emod_of_nonneg hv0, hj]
              have hjm : j < m := by have := Int.emod_lt_of_pos (v2 + 9999) (show (0 : Int) < m by omega); omega
              have hbi := Lib.hid (show bIdx cl m x = some j by unfold bIdx; rw [Hgv.out]; simp [hj])
              obtain ⟨ct, hct⟩ : ∃ ct, (bRows cl m (rows.take i) j).length = ct := ⟨_, rfl⟩
              have hct4 : ct ≤ 400 := by
                rw [← hct]
                exact Nat.le_trans (List.length_filter_le _ _) (by rw [List.length_take]; omega)
              have o1 : wr.cell? ⟨ob, j, none⟩ = some (.int .i64 ct) := by
                rw [HB.out.2.2.cell, ← hct]
                have := flat_get 1 intC intC_length (bSizes cl m (rows.take i)) j _ 0 _ (bSizes_get hjm) rfl
                rwa [Nat.mul_one, Nat.add_zero] at this
              have f1 := HB.out.2.2.frozen j
              have HCT := Lib.hid hct
              clear hct
              go_wp2
              go_roundg (rows.length - (i + 1))
              case measure => omega
              case rel =>
                refine ⟨i + 1, by omega, rfl, by go_num, (HB.out.1.setCell (p := ⟨ob, j, none⟩) (show w.heap.size ≤ ob by omega) _).alloc (by have := HB.out.1.size; simpa [World.setCell] using this) _, ((HB.out.2.1.far (p := ⟨ob, j, none⟩) (show w.heap.size ≠ ob by omega) _).alloc _), ((HB.out.2.2.set j _).alloc _).of ?_⟩
                rw [flat_setI2, HX2.out, bSizes_some hbi.out hjm, HCT.out]
            · have hbi := Lib.hid (show bIdx cl m x = none by unfold bIdx; rw [Hgv.out]; rfl)
              go_wp2
              go_roundg (rows.length - (i + 1))
              case measure => omega
              case rel =>
                refine ⟨i + 1, by omega, rfl, by go_num, HB.out.1.alloc (by have := HB.out.1.size; omega) _, HB.out.2.1.alloc _, (HB.out.2.2.alloc _).of ?_⟩
                rw [HX2.out, bSizes_none hbi.out]
          · have hie : rows.take i = rows := List.take_of_length_le (by omega)
            have HIE := Lib.hid hie
            clear hie
            go_wp2
            go_ret
            refine ⟨_, rfl, ?_, HB.out.1⟩
            have h1 := HB.out.2.2
            rw [HIE.out] at h1
            have h2 := Row.ow intC_length h1 (show w.heap.size ≤ ob by omega) (by rw [bSizes_length]; unfold maxLen; omega)
            rw [bSizes_length] at h2
            exact h2
end Go.Proofs.Ytldndapcbgaliaa
