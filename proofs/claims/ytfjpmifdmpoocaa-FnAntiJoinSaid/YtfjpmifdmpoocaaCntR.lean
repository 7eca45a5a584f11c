/-
  Contracts of slices.BinarySearchFunc at rows and compareRows, and of the program's CountRow.
-/
import Derived.Test.YtfjpmifdmpoocaaProg
import Derived.Test.YtfjpmifdmpoocaaTab
import Derived.Test.YtfjpmifdmpoocaaRow
import Derived.Test.YtfjpmifdmpoocaaOrdD
import Derived.Test.YtfjpmifdmpoocaaSetQ
namespace Go.Proofs.Ytfjpmifdmpoocaa
open Go.RowKit Go.Qo
set_option linter.unusedVariables false
set_option linter.unusedSimpArgs false

set_option maxRecDepth 20000 in
set_option maxHeartbeats 2000000 in
theorem binSearch_ok (W : Int) (A A' : Option Addr) (c c' : Nat) (rows : List Row1) (x : Row1) (w : World) (hn : rows.length ≤ 1048576) (h : Rws w w.heap.size A rows) (hr : Srt W rows) (hx : RowOk W x) (h' : Sl 2 valC w w.heap.size A' x) :
    Calls Try.prog 62 #[.slice A rows.length c, .slice A' x.length c', .func (.func 63) #[] #[]] w fun e w' => ∃ (i : Nat) (f : Bool), e = .returned (.tuple #[.int .i64 i, .bool f]) ∧ i ≤ rows.length ∧ (∀ (j : Nat) (y : Row1), j < i → rows[j]? = some y → rCmp y x < 0) ∧ (∀ (j : Nat) (y : Row1), i ≤ j → rows[j]? = some y → 0 ≤ rCmp y x) ∧ Below w.heap.size w w' := by
  have HH := Lib.hid (And.intro h h')
  have HR := Lib.hid (And.intro hr hx)
  have hx6 := (rowValid_len hx.1).2
  clear h h' hr hx
  go_enter Try.func62, Try.ntmps62
  go_wp2
  go_loopg [9, 10, 11] rows.length (fun g iv jv _ wr => ∃ (i j : Nat), i ≤ j ∧ j ≤ rows.length ∧ g = j - i ∧ iv = .int .i64 i ∧ jv = .int .i64 j ∧ (∀ (k : Nat) (y : Row1), k < i → rows[k]? = some y → rCmp y x < 0) ∧ (∀ (k : Nat) (y : Row1), j ≤ k → rows[k]? = some y → 0 ≤ rCmp y x) ∧ Below w.heap.size w wr)
  case atStart => exact ⟨0, rows.length, by omega, by omega, by omega, rfl, rfl, fun k y h => by omega, fun k y h1 h2 => by have := (List.getElem?_eq_some_iff.1 h2).1; omega, Below.refl _ _⟩
  case round =>
    obtain ⟨i, j, hij, hj, rfl, rfl, rfl, h1, h2, hb⟩ := hrel
    have HI := Lib.hid (And.intro h1 (And.intro h2 hb))
    clear h1 h2 hb
    by_cases hlt : i < j
    · obtain ⟨m, hm⟩ : ∃ m, (i + j) / 2 = m := ⟨_, rfl⟩
      have hmi : i ≤ m := by omega
      have hmj : m < j := by omega
      have hmn : m < rows.length := by omega
      have hmm : ((i : Int) + (j : Int)) / 2 = (m : Int) := by omega
      obtain ⟨b, off, A2, C2, rfl, hB2, c2, hc2, hm2, s2⟩ := (HH.out.1.on HI.out.2.2).at_ hmn
      have hy := Lib.hid (List.getElem?_eq_getElem hmn)
      generalize rows[m] = y at *
      obtain ⟨R, hR⟩ : ∃ R, rpCmp y x = R := ⟨_, rfl⟩
      have HK := Lib.hid (implCompareRows_ok A2 A' C2 c' y x wr (by omega) (by unfold maxLen; omega) s2 (HH.out.2.on HI.out.2.2))
      rw [hR] at HK
      have HRR := Lib.hid hR
      clear hR s2 hc2 hm2
      have hyo := HR.out.1.1 y (List.mem_of_getElem? hy.out)
      have hRr : R = rCmp y x := by rw [← HRR.out]; exact hyo.rp HR.out.2
      have HY := Lib.hid (And.intro hyo hRr)
      clear hyo hRr
      by_cases hneg : R < 0
      · go_wp2_with (go_at_call 63; refine HK.out.mono ?_; rintro e w1 ⟨rfl, hb3⟩)
        go_roundg (j - (m + 1))
        case measure => omega
        case rel =>
          refine ⟨m + 1, j, by omega, hj, rfl, ?_, rfl, fun k z hk hz => ?_, HI.out.2.1, bch HI.out.2.2 (by assumption)⟩
          · first | go_num | (trace_state; sorry)
          · rcases Nat.lt_or_ge k i with h3 | h3
            · exact HI.out.1 k z h3 hz
            · have h4 : rCmp y x < 0 := by rw [← HY.out.2]; exact hneg
              rcases Nat.eq_or_lt_of_le (show k ≤ m by omega) with rfl | h5
              · rw [hy.out] at hz; cases hz; exact h4
              · obtain ⟨hm', hye⟩ := List.getElem?_eq_some_iff.1 hy.out
                obtain ⟨hk', hze⟩ := List.getElem?_eq_some_iff.1 hz
                have h6 := List.pairwise_iff_getElem.1 HR.out.1.2 k m hk' hm' h5
                rw [hye, hze] at h6
                have hzo := HR.out.1.1 z (List.mem_of_getElem? hz)
                have h7 := hzo.trans HY.out.1 HR.out.2 h6 (by omega)
                have h8 : rCmp z x ≠ 0 := fun h0 => by
                  have e := (hzo.zero HR.out.2).1 h0
                  subst e
                  have := HY.out.1.anti hzo
                  omega
                omega
      · go_wp2_with (go_at_call 63; refine HK.out.mono ?_; rintro e w1 ⟨rfl, hb3⟩)
        go_roundg (m - i)
        case measure => omega
        case rel =>
          refine ⟨i, m, by omega, by omega, rfl, rfl, ?_, HI.out.1, fun k z hk hz => ?_, bch HI.out.2.2 (by assumption)⟩
          · first | go_num | (trace_state; sorry)
          · have h4 : 0 ≤ rCmp y x := by rw [← HY.out.2]; omega
            rcases Nat.eq_or_lt_of_le hk with rfl | h5
            · rw [hy.out] at hz; cases hz; exact h4
            · obtain ⟨hm', hye⟩ := List.getElem?_eq_some_iff.1 hy.out
              obtain ⟨hk', hze⟩ := List.getElem?_eq_some_iff.1 hz
              have h6 := List.pairwise_iff_getElem.1 HR.out.1.2 m k hm' hk' h5
              rw [hye, hze] at h6
              have hzo := HR.out.1.1 z (List.mem_of_getElem? hz)
              have h9 := HY.out.1.anti HR.out.2
              have h7 := HR.out.2.trans HY.out.1 hzo (by omega) h6
              have h10 := hzo.anti HR.out.2
              omega
    · have hij2 : i = j := by omega
      subst hij2
      by_cases hlt2 : i < rows.length
      · obtain ⟨b, off, A2, C2, rfl, hB2, c2, hc2, hm2, s2⟩ := (HH.out.1.on HI.out.2.2).at_ hlt2
        have hy := Lib.hid (List.getElem?_eq_getElem hlt2)
        generalize rows[i] = y at *
        have HK := Lib.hid (implCompareRows_ok A2 A' C2 c' y x wr (by omega) (by unfold maxLen; omega) s2 (HH.out.2.on HI.out.2.2))
        clear s2 hc2 hm2
        go_wp2_with fail
        refine HK.out.mono ?_
        rintro e w1 ⟨rfl, hb3⟩
        have HB3 := Lib.hid hb3
        clear hb3
        go_wp2
        go_ret2
        exact ⟨i, _, rfl, hj, HI.out.1, HI.out.2.1, bch HI.out.2.2 HB3.out⟩
      · go_wp2
        go_ret2
        exact ⟨i, _, rfl, hj, HI.out.1, HI.out.2.1, HI.out.2.2⟩

theorem cnt_split {W : Int} {rows : List Row1} {x : Row1} (hr : Srt W rows) (hx : RowOk W x) {i n : Nat} (h1 : ∀ (j : Nat) (y : Row1), j < i → rows[j]? = some y → rCmp y x < 0) (h2 : ∀ (j : Nat) (y : Row1), i ≤ j → j < i + n → rows[j]? = some y → rCmp y x = 0)
    (h3 : ∀ (y : Row1), rows[i + n]? = some y → 0 < rCmp y x) (hl : i + n ≤ rows.length) : cnt rows x = n := by
  have e : rows = rows.take i ++ ((rows.drop i).take n ++ rows.drop (i + n)) := by
    rw [← List.drop_drop, List.take_append_drop, List.take_append_drop]
  have c1 : cnt (rows.take i) x = 0 := cnt_zero fun y hy => by
    obtain ⟨j, hj, rfl⟩ := List.getElem_of_mem hy
    rw [List.length_take] at hj
    rw [List.getElem_take]
    have := h1 j _ (by omega) (List.getElem?_eq_getElem (by omega))
    omega
  have c2 : cnt ((rows.drop i).take n) x = n := by
    unfold cnt
    rw [List.filter_eq_self.2, List.length_take, List.length_drop]
    · omega
    · intro y hy
      obtain ⟨j, hj, rfl⟩ := List.getElem_of_mem hy
      rw [List.length_take, List.length_drop] at hj
      rw [List.getElem_take, List.getElem_drop]
      have := h2 (i + j) _ (by omega) (by omega) (List.getElem?_eq_getElem (by omega))
      simp [this]
  have c3 : cnt (rows.drop (i + n)) x = 0 := cnt_zero fun y hy => by
    obtain ⟨j, hj, hyj⟩ := mem_drop_of hy
    obtain ⟨hjl, rfl⟩ := List.getElem?_eq_some_iff.1 hyj
    have h4 := h3 rows[i + n] (List.getElem?_eq_getElem (by omega))
    rcases Nat.eq_or_lt_of_le hj with h5 | h5
    · subst h5; omega
    · have h6 := List.pairwise_iff_getElem.1 hr.2 (i + n) j (by omega) hjl h5
      have ho1 := hr.1 _ (List.getElem_mem (show i + n < rows.length by omega))
      have ho2 := hr.1 _ (List.getElem_mem hjl)
      have a1 := ho1.anti hx
      intro h0
      have e := (ho2.zero hx).1 h0
      rw [e] at h6
      omega
  rw [e, cnt_append, cnt_append, c1, c2, c3]
  omega

set_option maxRecDepth 20000 in
set_option maxHeartbeats 2000000 in
theorem countRow_ok (W : Int) (A A' : Option Addr) (c c' : Nat) (rows : List Row1) (x : Row1) (w : World) (hcap : rows.length ≤ c) (hcap2 : c ≤ maxLen) (h : Rws w w.heap.size A rows) (hr : TabOk W rows) (hx : RowOk W x) (h' : Sl 2 valC w w.heap.size A' x) :
    Calls Try.prog 29 #[.agg #[.int .i64 W, .slice A rows.length c], .slice A' x.length c'] w fun e w' => e = .returned (.int .i64 (cnt rows x : Nat)) ∧ Below w.heap.size w w' := by
  have hn : rows.length ≤ 400 := hr.2.2.1
  have hx6 := rowValid_len hx.1
  obtain ⟨m, hm⟩ : ∃ m, cnt rows x = m := ⟨_, rfl⟩
  rw [hm]
  have HM := Lib.hid hm
  clear hm
  obtain ⟨W0, hW0⟩ : ∃ z, w.alloc (.cells #[.int .i64 W, .slice A rows.length c] 25) = z := ⟨_, rfl⟩
  have B0 : Below w.heap.size w W0 := by rw [← hW0]; exact balloc (Below.refl _ _) _
  have r0 : Row W0 w.heap.size 25 [.int .i64 W, .slice A rows.length c] := by rw [← hW0]; exact Row.new _ _ _
  have HW := Lib.hid hW0
  have HB0 := Lib.hid (And.intro B0 r0)
  have HV := Lib.hid (implValidTable_ok W A c rows W0 (by unfold maxLen; omega) (h.on B0) true (iff_of_true rfl hr))
  have HV2 := Lib.hid (fun (z : World) (hz : Below W0.heap.size W0 z) => implValidRow_ok A' c' x z (by unfold maxLen; omega) (h'.on (bch B0 hz)) true hx.1)
  have HS := Lib.hid (fun (z : World) (hz : Below W0.heap.size W0 z) => binSearch_ok W A A' c c' rows x z (by omega) (h.on (bch B0 hz)) hr.srt hx (h'.on (bch B0 hz)))
  have HH := Lib.hid (fun (z : World) (hz : Below W0.heap.size W0 z) => show (Rws z z.heap.size A rows ∧ Sl 2 valC z z.heap.size A' x) from ⟨h.on (bch B0 hz), h'.on (bch B0 hz)⟩)
  have HR := Lib.hid (And.intro hr hx)
  have hxW : (((x.length : Nat) : Int) != W) = false := by simp [hx.2]
  have hxl : x.length ≤ 6 := hx6.2
  have BX := Lib.hid (fun (z : World) (hz : Below W0.heap.size W0 z) => show (z.cell? ⟨w.heap.size, 0, none⟩ = some (.int .i64 W) ∧ z.cell? ⟨w.heap.size, 1, none⟩ = some (.slice A rows.length c)) from ⟨(r0.on hz).cell 0, (r0.on hz).cell 1⟩)
  have z0 := BX.out _ (Below.refl _ _)
  clear h h' hr hx hx6 B0 r0 hW0
  go_enter Try.func29, Try.ntmps29
  go_upto_region 1 with fail
  rw [HW.out]
  go_wp2_with fail
  refine HV.out.mono ?_
  rintro e w1 ⟨rfl, hb1⟩
  have H1 := Lib.hid hb1
  have z1 := BX.out _ H1.out
  clear hb1 z0
  go_wp2_with fail
  refine (HV2.out _ H1.out).mono ?_
  rintro e w2 ⟨rfl, hb2⟩
  have H2 := Lib.hid (bch H1.out hb2)
  have z2 := BX.out _ H2.out
  clear hb2 z1
  go_wp2_with fail
  refine (HS.out _ H2.out).mono ?_
  rintro e w3 ⟨i, f, rfl, hi, hlo, hhi, hb3⟩
  have H3 := Lib.hid (bch H2.out hb3)
  have z3 := BX.out _ H3.out
  have HI := Lib.hid (And.intro hlo hhi)
  clear hb3 z2 hlo hhi
  have hic : i ≤ c := by omega
  rcases Nat.eq_or_lt_of_le hi with hie | hlt
  · have hcn : cnt rows x = 0 := cnt_split HR.out.1.srt HR.out.2 (i := i) (n := 0) HI.out.1 (fun j y h1 h2 => by omega) (fun y hy => by have := (List.getElem?_eq_some_iff.1 hy).1; omega) (by omega)
    obtain rfl : m = 0 := HM.out.symm.trans hcn
    clear hcn
    subst hie
    go_wp2
    all_goals
      go_loopg [7, 35] 0 (fun g v u wr => v = .int .i64 0 ∧ u = .int .i64 0 ∧ wr = w3)
      case atStart => exact ⟨rfl, rfl, rfl⟩
      case round =>
        obtain ⟨rfl, rfl, rfl⟩ := hrel
        go_wp2
        go_ret
        exact ⟨rfl, bch HB0.out.1 H3.out⟩
  · obtain ⟨g0, off0, hA0⟩ : ∃ b off, A = some ⟨b, off, none⟩ := by
      obtain ⟨b, off, A2, C2, hA2, _⟩ := (HH.out w3 H3.out).1.at_ (i := i) hlt
      exact ⟨b, off, hA2⟩
    subst hA0
    have hne : ¬ (rows.length = i) := by omega
    have hce : ¬ (c = i) := by omega
    have hne3 : ¬ ((c : Int) = i) := by omega
    obtain ⟨n, hn3⟩ : ∃ n, rows.length = i + n := ⟨rows.length - i, by omega⟩
    have hn4 : rows.length - i = n := by omega
    have hn5 : (rows.length : Int) - i = n := by omega
    have hnn : n ≤ 400 := by omega
    have HN := Lib.hid (And.intro hn3 hi)
    clear hn3
    go_wp2
    go_loopg [7, 35] n (fun g v u wr => ∃ k : Nat, k ≤ n ∧ g = n - k ∧ v = .int .i64 k ∧ u = .int .i64 k ∧ (∀ (j : Nat) (y : Row1), i ≤ j → j < i + k → rows[j]? = some y → rCmp y x = 0) ∧ Below W0.heap.size W0 wr)
    case atStart => exact ⟨0, by omega, by omega, rfl, rfl, fun j y h1 h2 => by omega, H3.out⟩
    case round =>
      obtain ⟨k, hk, rfl, rfl, rfl, hz, hb⟩ := hrel
      have HZ := Lib.hid (And.intro hz hb)
      clear hz hb
      by_cases hlk : k < n
      · have hik : i + k < rows.length := by have := HN.out.1; omega
        obtain ⟨b, off, A2, C2, hAA, hB2, c2, hc2, hm2, s2⟩ := (HH.out _ HZ.out.2).1.at_ hik
        cases hAA
        have hy := Lib.hid (List.getElem?_eq_getElem hik)
        generalize rows[i + k] = y at *
        have hyo := HR.out.1.srt.1 y (List.mem_of_getElem? hy.out)
        have hy6 := (rowValid_len hyo.1).2
        obtain ⟨R, hR⟩ : ∃ R, rpCmp y x = R := ⟨_, rfl⟩
        have HK := Lib.hid (implCompareRows_ok A2 A' C2 c' y x wr (by omega) (by unfold maxLen; omega) s2 (HH.out _ HZ.out.2).2)
        rw [hR] at HK
        have HRR := Lib.hid (show R = rCmp y x by rw [← hR]; exact hyo.rp HR.out.2)
        have c2' : wr.cell? ⟨g0, off0 + i + k, none⟩ = some (.slice A2 y.length C2) := by rw [Nat.add_assoc]; exact c2
        clear hR s2 hc2 hm2 hyo
        by_cases h0 : R = 0
        · subst h0
          go_wp2_with (go_at_call 63; refine HK.out.mono ?_; rintro e w4 ⟨rfl, hb4⟩)
          go_roundg (n - (k + 1))
          case measure => omega
          case rel =>
            refine ⟨k + 1, by omega, rfl, by go_num, by go_num, fun j z h1 h2 h3 => ?_, bch HZ.out.2 (by assumption)⟩
            rcases Nat.eq_or_lt_of_le (show j ≤ i + k by omega) with rfl | h4
            · rw [hy.out] at h3; cases h3; exact HRR.out.symm
            · exact HZ.out.1 j z h1 (by omega) h3
        · have h0b : (R != 0) = true := by simp [h0]
          have hmk : m = k := HM.out.symm.trans (cnt_split HR.out.1.srt HR.out.2 (i := i) (n := k) HI.out.1 HZ.out.1 (fun z hz => by rw [hy.out] at hz; cases hz; have := HI.out.2 (i + k) y (by omega) hy.out; have := HRR.out; omega) (by have := HN.out; omega))
          have HMK := Lib.hid hmk
          clear hmk
          go_wp2_with (go_at_call 63; refine HK.out.mono ?_; rintro e w4 ⟨rfl, hb4⟩; have HB4 := Lib.hid hb4; clear hb4)
          go_ret
          exact ⟨ret_int (by rw [HMK.out]), bch HB0.out.1 (bch HZ.out.2 HB4.out)⟩
      · have hkn : k = n := by omega
        have hmk : m = k := HM.out.symm.trans (cnt_split HR.out.1.srt HR.out.2 (i := i) (n := k) HI.out.1 HZ.out.1 (fun z hz => by have := (List.getElem?_eq_some_iff.1 hz).1; have := HN.out; omega) (by have := HN.out; omega))
        have HMK := Lib.hid hmk
        clear hmk hkn
        go_wp2
        go_ret
        exact ⟨ret_int (by rw [HMK.out]), bch HB0.out.1 HZ.out.2⟩
end Go.Proofs.Ytfjpmifdmpoocaa
