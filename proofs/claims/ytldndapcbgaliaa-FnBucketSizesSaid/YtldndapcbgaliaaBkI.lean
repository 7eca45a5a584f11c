/-
  Contract of BucketSizes: the program's.
-/
import Derived.Test.YtldndapcbgaliaaProg
import Derived.Test.YtldndapcbgaliaaBkR
namespace Go.Proofs.Ytldndapcbgaliaa
open Go.RowKit Go.Qo
set_option linter.unusedVariables false
set_option linter.unusedSimpArgs false

theorem zeros_int (m : Nat) : (madeCells #[.int .i64 0] m).toList = (List.replicate m (0 : Int)).flatMap intC := by
  rw [zeros_bk 0 m, bSizes_zero]

set_option maxRecDepth 20000 in
set_option maxHeartbeats 2000000 in
theorem implBucketSizes_ok (W col nb : Int) (A : Option Addr) (c : Nat) (rows : List Row1) (w : World) (hn : rows.length ≤ 1048576) (h : Rws w w.heap.size A rows) (d : Bool) (hd : d = true ↔ BkOk W col nb rows) :
    Calls Try.prog 34 #[.agg #[.int .i64 W, .slice A rows.length c], .int .i64 col, .int .i64 nb] w (SomeInts (if d then bSizes col nb.toNat rows else []) w) := by
  have HH := Lib.hid h
  have Hd := Lib.hid hd
  clear h hd
  have B0 := Lib.hid (balloc (Below.refl w.heap.size w) (.cells #[.int .i64 W, .slice A rows.length c] 25))
  have R0 := Lib.hid ((Row.new w 25 #[.int .i64 W, .slice A rows.length c]))
  obtain ⟨t, ht⟩ : ∃ t : Bool, t = true ↔ (TabOk W rows ∧ 0 ≤ col ∧ col < W) := ⟨_, @decide_eq_true_iff _ (Classical.propDecidable _)⟩
  have HT := Lib.hid (hasColumn_ok W col A c rows _ hn (HH.out.on B0.out) t ht)
  have Ht := Lib.hid ht
  obtain ⟨q, hq⟩ : ∃ q : Bool, q = true ↔ (1 ≤ nb ∧ nb ≤ 1000) := ⟨_, @decide_eq_true_iff _ (Classical.propDecidable _)⟩
  have HV := Lib.hid (fun w => validBuckets_ok nb w q hq)
  have Hq := Lib.hid hq
  clear ht hq
  cases t
  · have hdf : d = false := bfalse Hd.out fun h => absurd (Ht.out.2 ⟨h.1, h.2.1⟩) (by simp)
    subst hdf
    rw [if_neg (by simp)]
    go_enter Try.func34, Try.ntmps34
    go_wp2_with fail
    refine HT.out.mono ?_
    rintro e w1 ⟨rfl, hb1⟩
    go_wp2
    go_ret
    exact ⟨_, rfl, Ow.nil, bch B0.out hb1⟩
  · have hto := Lib.hid (Ht.out.1 rfl)
    cases q
    · have hdf : d = false := bfalse Hd.out fun h => absurd (Hq.out.2 h.2.2) (by simp)
      subst hdf
      rw [if_neg (by simp)]
      go_enter Try.func34, Try.ntmps34
      go_wp2_with fail
      refine HT.out.mono ?_
      rintro e w1 ⟨rfl, hb1⟩
      go_wp2_with fail
      refine (HV.out _).mono ?_
      rintro e w2 ⟨rfl, rfl⟩
      go_wp2
      go_ret
      exact ⟨_, rfl, Ow.nil, bch B0.out hb1⟩
    · have hnb := Hq.out.1 rfl
      have hdt : d = true := Hd.out.2 ⟨hto.out.1, hto.out.2, hnb⟩
      subst hdt
      rw [if_pos rfl]
      obtain ⟨m, rfl⟩ := Int.eq_ofNat_of_zero_le (show 0 ≤ nb by omega)
      obtain ⟨cl, rfl⟩ := Int.eq_ofNat_of_zero_le hto.out.2.1
      have hm1 : 1 ≤ m := by omega
      have hm2 : m ≤ 1000 := by omega
      have hcl := hto.out.2.2
      have hmk := run_make_rowN (P := Try.prog) 42 3 _ _ _ Try.underlying42 zeroInt .i64 .i64 m (by omega) (by omega)
      have HBk := Lib.hid (fun (z : World) (hz : Below w.heap.size w z) => bucketRows_ok W cl m A c rows z hto.out.1 hcl hm1 hm2 (HH.out.on hz))
      clear hnb
      rw [Int.toNat_natCast]
      go_enter Try.func34, Try.ntmps34
      go_wp2_with fail
      refine HT.out.mono ?_
      rintro e w1 ⟨rfl, hb1⟩
      have r1 := R0.out.on hb1
      have e0 : w1.cell? ⟨w.heap.size, 0, none⟩ = some (.int .i64 W) := r1.cell 0
      have e1 : w1.cell? ⟨w.heap.size, 1, none⟩ = some (.slice A rows.length c) := r1.cell 1
      have hl1 := r1.lt
      have H1 := Lib.hid (And.intro (bch B0.out hb1) r1)
      clear hb1 r1
      go_wp2_with fail
      refine (HV.out _).mono ?_
      rintro e w2 ⟨rfl, rfl⟩
      go_wp2_with fail
      refine (HBk.out _ (balloc H1.out.1 _)).mono ?_
      rintro e w3 ⟨ob, vs, rfl, hob, hvl, hrow, hbk, hb3⟩
      have hO : Row w3 w1.heap.size 3 ((List.replicate m (0 : Int)).flatMap intC) := ((Row.new w1 3 _).of (zeros_int m)).on hb3
      have H3 := Lib.hid (bch (balloc H1.out.1 _) hb3)
      have HR := Lib.hid (And.intro hrow (And.intro hbk hvl))
      obtain ⟨ib, hib⟩ : ∃ ib, w1.heap.size = ib := ⟨_, rfl⟩
      rw [hib] at hO
      have hib1 : w.heap.size ≤ ib := by have := H1.out.1.size; omega
      have hib2 : ib ≠ ob := by simp at hob; omega
      have hvs : vs.length = m := hvl
      have HO := Lib.hid hO
      have hlen : ∀ (k : Nat) (s : SV), vs[k]? = some s → ∀ b, (bSizes cl m rows)[k]? = some b → (s.n : Int) = b := by
        intro k s hs b hb
        have hk : k < m := by have := (List.getElem?_eq_some_iff.1 hs).1; omega
        obtain ⟨l, a1, _, a3, _⟩ := hbk.own k s _ hs (bLists_get hk)
        rw [bSizes_get hk] at hb
        cases hb
        rw [a1, a3]
      have HL := Lib.hid hlen
      clear hrow hbk hvl hb3 hob hO hlen hvs
      rw [hib]
      go_wp2
      go_loopg [26] m (fun g iv wr => ∃ i : Nat, i ≤ m ∧ g = m - i ∧ iv = .int .i64 i ∧ Below w.heap.size w wr ∧ Row wr ib 3 (((bSizes cl m rows).take i ++ (List.replicate m (0 : Int)).drop i).flatMap intC) ∧ Row wr ob 23 (vs.flatMap svC))
      case atStart => exact ⟨0, by omega, by omega, rfl, H3.out, by simpa using HO.out, HR.out.1⟩
      case round =>
        obtain ⟨i, hi, rfl, rfl, hb, ho, hr⟩ := hrel
        by_cases hlt : i < m
        · have hiv : i < vs.length := by rw [HR.out.2.2]; exact hlt
          have hs := Lib.hid (List.getElem?_eq_getElem hiv)
          have his : i < (bSizes cl m rows).length := by rw [bSizes_length]; exact hlt
          have hbz := Lib.hid (List.getElem?_eq_getElem his)
          generalize vs[i] = s at *
          generalize (bSizes cl m rows)[i] = bz at *
          have hsn := HL.out i s hs.out bz hbz.out
          obtain ⟨As, ns, cs⟩ := s
          have hsn : (ns : Int) = bz := hsn
          have c1 : wr.cell? ⟨ob, i, none⟩ = some (.slice As ns cs) := by
            rw [hr.cell]
            have := flat_get 1 svC svC_length vs i _ 0 _ hs.out rfl
            rwa [Nat.mul_one, Nat.add_zero] at this
          have htl : ((bSizes cl m rows).take i).length = i := by rw [List.length_take, bSizes_length]; omega
          obtain ⟨y1, hy1⟩ : ∃ y, (((bSizes cl m rows).take i ++ (List.replicate m (0 : Int)).drop i).flatMap intC)[i]? = some y := ⟨_, List.getElem?_eq_getElem (by rw [flat_length 1 intC intC_length, List.length_append, htl, List.length_drop, List.length_replicate]; omega)⟩
          have o1 := (ho.cell i).trans hy1
          have f1 := ho.frozen i
          have HB := Lib.hid (And.intro hb (And.intro ho (And.intro hr (And.intro hsn htl))))
          clear hb ho hr hy1 htl hsn
          go_wp2
          go_roundg (m - (i + 1))
          case measure => omega
          case rel =>
            refine ⟨i + 1, by omega, rfl, by go_num, HB.out.1.setCell (p := ⟨ib, i, none⟩) hib1 _, (HB.out.2.1.set i _).of ?_, HB.out.2.2.1.far (p := ⟨ib, i, none⟩) (fun e => hib2 e.symm) _⟩
            rw [flat_setI2, set_mid _ _ _ i HB.out.2.2.2.2 (by rw [List.length_replicate]; exact hlt), List.take_add_one, hbz.out]
            rfl
        · have hie : i = m := by omega
          have HB := Lib.hid (And.intro hb (And.intro ho hie))
          clear hb ho hie
          go_wp2
          go_ret
          refine ⟨_, rfl, ?_, HB.out.1⟩
          have h1 := HB.out.2.1
          rw [HB.out.2.2, List.take_of_length_le (by rw [bSizes_length]; omega), List.drop_of_length_le (by simp), List.append_nil] at h1
          have h2 := Row.ow intC_length h1 hib1 (by rw [bSizes_length]; unfold maxLen; omega)
          rw [bSizes_length] at h2
          exact h2
end Go.Proofs.Ytldndapcbgaliaa
