/-
  Contracts: the states of expressions, as the program computes them (examples, combinedStates, outcomes).
-/
import Derived.Test.YtcbfbgngkdiijaaProg
import Derived.Test.YtcbfbgngkdiijaaZnNuO
import Derived.Test.YtcbfbgngkdiijaaZnPln
import Derived.Test.YtcbfbgngkdiijaaZnFls
namespace Go.Proofs.Ytcbfbgngkdiijaa
open Go.RowKit Go.Qo
set_option linter.unusedVariables false
set_option linter.unusedSimpArgs false

def vs3 : List Val := [(false, 0), (false, 1), (true, 0)]
def exS (a : Nat) (l : List Val) : List Val := l.filter fun v => has a (stV v)
theorem andS {a : Nat} {v : Val} (h : a < 8) (hv : v ∈ vs3) : (bits .and .i64 (a : Int) (stV v : Nat) != 0) = has a (stV v) := by
  have : ∀ a : Fin 8, (bits .and .i64 ((a.1 : Nat) : Int) ((1 : Nat) : Int) != 0) = has a.1 1 ∧ (bits .and .i64 ((a.1 : Nat) : Int) ((2 : Nat) : Int) != 0) = has a.1 2 ∧ (bits .and .i64 ((a.1 : Nat) : Int) ((4 : Nat) : Int) != 0) = has a.1 4 := by decide +kernel
  obtain ⟨h1, h2, h3⟩ := this ⟨a, h⟩
  simp [vs3] at hv
  rcases hv with rfl | rfl | rfl
  · exact h1
  · exact h2
  · exact h3
/-- A list of values of the call's own. -/
def OwnVals (xs : List Val) (w : World) (e : Ending) (w' : World) : Prop := ∃ v, e = .returned v ∧ Ow w.heap.size 64 2 valC w' v xs ∧ Below w.heap.size w w'
set_option maxRecDepth 20000 in
set_option maxHeartbeats 2000000 in
theorem examples_ok (a : Nat) (w : World) (ha : a < 8) : Calls Try.prog 67 #[.int .i64 a] w (OwnVals (exS a vs3) w) := by
  go_enter Try.func67, Try.ntmps67
  go_wp2_with fail
  refine (implNumber_ok 0 _).mono ?_
  rintro e w1 ⟨rfl, hb1⟩
  have H1 := Lib.hid hb1
  clear hb1
  go_wp2_with fail
  refine (implNumber_ok 1 _).mono ?_
  rintro e w2 ⟨rfl, hb2⟩
  have H2 := Lib.hid (bch H1.out hb2)
  clear hb2
  go_wp2_with fail
  refine (implNull_ok _).mono ?_
  rintro e w3 ⟨rfl, hb3⟩
  have H3 := Lib.hid (bch H2.out hb3)
  clear hb3
  obtain ⟨W, hW⟩ : ∃ z, w3.alloc (.cells #[.bool false, .int .i64 0, .bool false, .int .i64 1, .bool true, .int .i64 0] 64) = z := ⟨_, rfl⟩
  have rW : Row W w3.heap.size 64 (vs3.flatMap valC) := by rw [← hW]; exact Row.new w3 _ _
  have HB := Lib.hid (bch H3.out (show Below w3.heap.size w3 W by rw [← hW]; exact balloc (Below.refl _ _) _))
  have HS := Lib.hid (show Sl 2 valC W W.heap.size (some ⟨w3.heap.size, 0, none⟩) vs3 from Row.sl' (t := 64) valC_length rW)
  have HW := Lib.hid hW
  clear hW rW
  go_upto_block 0 with fail
  rw [HW.out]
  go_wp2
  go_loopg [3, 11] 3 (fun g v iv wr => ∃ i : Nat, i ≤ 3 ∧ g = 3 - i ∧ iv = .int .i64 i ∧ Ow W.heap.size 64 2 valC wr v (exS a (vs3.take i)) ∧ Below W.heap.size W wr)
  case atStart => exact ⟨0, by omega, by omega, rfl, Ow.nil, Below.refl _ _⟩
  case round =>
    obtain ⟨i, hi, rfl, rfl, how, hb⟩ := hrel
    have HO := Lib.hid how
    have HBr := Lib.hid hb
    have HBw := Lib.hid (bch HB.out hb)
    clear how hb
    by_cases hil : i < 3
    · have hiI : (i : Int) < 3 := by omega
      have hil3 : i < vs3.length := hil
      obtain ⟨b1, o1, hA1, hB1, d0, d1⟩ := Val.at_ (HS.out.on HBr.out) hil3
      cases hA1
      simp only [Nat.zero_add] at d0 d1
      have hand := andS ha (List.getElem_mem hil3)
      have Hst := Lib.hid (fun z => implStateOf_ok vs3[i] z)
      have Ht := Lib.hid (show exS a (vs3.take (i + 1)) = exS a (vs3.take i) ++ (if has a (stV vs3[i]) = true then [vs3[i]] else []) by
        rw [List.take_add_one, List.getElem?_eq_getElem hil3]
        unfold exS
        rw [List.filter_append]
        congr 1
        simp only [Option.toList_some, List.filter_cons, List.filter_nil])
      obtain ⟨⟨vn, vv⟩, hv⟩ : ∃ v, vs3[i] = v := ⟨_, rfl⟩
      rw [hv] at d0 d1 hand Hst Ht
      obtain ⟨s, hs⟩ : ∃ s, stV (vn, vv) = s := ⟨_, rfl⟩
      rw [hs] at hand Hst Ht
      obtain ⟨q, hq⟩ : ∃ q, has a s = q := ⟨_, rfl⟩
      rw [hq] at hand Ht
      have hcl : (exS a (vs3.take i)).length ≤ 3 := Nat.le_trans (List.length_filter_le _ _) (by rw [List.length_take]; exact Nat.min_le_right _ _)
      obtain ⟨U, hU⟩ : ∃ z, wr.alloc (.cells #[.bool vn, .int .i64 vv] 64) = z := ⟨_, rfl⟩
      have rU : Row U wr.heap.size 64 [.bool vn, .int .i64 vv] := by rw [← hU]; exact Row.new _ _ _
      have HUr := Lib.hid rU
      have hub : Below wr.heap.size wr U := by rw [← hU]; exact balloc (Below.refl _ _) _
      have HU := Lib.hid hU
      have HUb := Lib.hid hub
      have e0 := rU.cell 0
      have e1 := rU.cell 1
      clear hv hs hq hU hub rU
      go_upto_region 5 with fail
      rw [HU.out]
      go_wp2_with fail
      refine (Hst.out _).mono ?_
      rintro e w4 ⟨rfl, hb4⟩
      have HB4 := Lib.hid (bch HUb.out hb4)
      have r4 := HUr.out.on hb4
      have f0 := r4.cell 0
      have f1 := r4.cell 1
      obtain ⟨V, hV⟩ : ∃ z, w4.alloc (.cells #[.bool vn, .int .i64 vv] 64) = z := ⟨_, rfl⟩
      have hvb : Below w4.heap.size w4 V := by rw [← hV]; exact balloc (Below.refl _ _) _
      have HB5 := Lib.hid (bch HB4.out hvb)
      have HO5 := Lib.hid (HO.out.on HB5.out)
      have HS5 := Lib.hid (show Sl 2 valC V V.heap.size (some ⟨w4.heap.size, 0, none⟩) [((vn, vv) : Val)] by rw [← hV]; exact Row.sl' (t := 64) valC_length ((Row.new w4 _ _).of rfl))
      have hsz6 : W.heap.size ≤ V.heap.size := (bch HBr.out HB5.out).size
      have HV := Lib.hid hV
      clear hV hvb hb4 r4
      cases q
      · go_wp2
        go_roundg (3 - (i + 1))
        case measure => omega
        case rel => exact ⟨i + 1, by omega, rfl, by go_num, by rw [Ht.out]; simp only [Bool.false_eq_true, if_false, List.append_nil]; exact HO.out.on HB4.out, bch HBr.out HB4.out⟩
      · go_wp2_with (at_builtin; rw [HV.out]; refine wpList_app rfl (.tmp 20) (.tmp 22) 99 rfl W.heap.size 64 _ 2 16 valC Try.underlying99 zeroVal rfl (by decide) (by decide) valC_length valC_one _ _ rfl HO5.out (some ⟨w4.heap.size, 0, none⟩) 1 1 [((vn, vv) : Val)] rfl rfl HS5.out (by simp only [List.length_singleton]; omega) hsz6 ?_; intro v' w' hown hgr)
        go_roundg (3 - (i + 1))
        case measure => omega
        case rel => exact ⟨i + 1, by omega, rfl, by go_num, by rw [Ht.out]; exact hown, (bch HBr.out HB5.out).grown hgr hsz6 fun k hk => (HO5.out.ty k hk).1⟩
    · have hiI : ¬ (i : Int) < 3 := by omega
      have hie : i = 3 := by omega
      have HE := Lib.hid (show exS a (vs3.take i) = exS a vs3 by rw [hie]; rfl)
      clear hie
      go_wp2
      go_ret
      exact ⟨_, rfl, by rw [← HE.out]; exact HO.out.low HB.out.size, HBw.out⟩

def accR (k : Int) (v : Val) (ws : List Val) (z : Nat) : Nat := ws.foldl (fun z u => z ||| stV (combV k v u)) z
def accS (k : Int) (vs ws : List Val) (z : Nat) : Nat := vs.foldl (fun z v => accR k v ws z) z
theorem accR_lt {k : Int} {v : Val} : ∀ (ws : List Val) (z : Nat), z < 8 → accR k v ws z < 8
  | [], z, h => h
  | u :: ws, z, h => by unfold accR; exact accR_lt ws _ (Nat.or_lt_two_pow (n := 3) h (stV_lt _))
theorem accS_lt {k : Int} {ws : List Val} : ∀ (vs : List Val) (z : Nat), z < 8 → accS k vs ws z < 8
  | [], z, h => h
  | v :: vs, z, h => by unfold accS; exact accS_lt vs _ (accR_lt _ _ h)
theorem accS_cmb {k : Int} (hk : k = 8 ∨ k = 9) {a b : Nat} (ha : a < 8) (hb : b < 8) : accS k (exS a vs3) (exS b vs3) 0 = cmbS k a b := by
  have h8 : ∀ a b : Fin 8, accS 8 (exS a.1 vs3) (exS b.1 vs3) 0 = cmbS 8 a.1 b.1 := by decide +kernel
  have h9 : ∀ a b : Fin 8, accS 9 (exS a.1 vs3) (exS b.1 vs3) 0 = cmbS 9 a.1 b.1 := by decide +kernel
  rcases hk with rfl | rfl
  · exact h8 ⟨a, ha⟩ ⟨b, hb⟩
  · exact h9 ⟨a, ha⟩ ⟨b, hb⟩
theorem exS_valid {a : Nat} : ∀ v ∈ exS a vs3, vValid v = true := fun v hv => by
  have := (List.mem_filter.1 hv).1
  simp [vs3] at this
  rcases this with rfl | rfl | rfl <;> rfl
theorem exS_len {a : Nat} : (exS a vs3).length ≤ 3 := List.length_filter_le _ _
set_option maxRecDepth 20000 in
set_option maxHeartbeats 4000000 in
theorem combinedStates_ok (k : Int) (a b : Nat) (w : World) (hk : 3 ≤ k ∧ k ≤ 9) (ha : a < 8) (hb : b < 8) :
    Calls Try.prog 53 #[.int .i64 k, .int .i64 a, .int .i64 b] w fun e w' => e = .returned (.int .i64 (cmbS k a b : Nat)) ∧ Below w.heap.size w w' := by
  have HK := Lib.hid hk
  by_cases hk89 : k = 8 ∨ k = 9
  · have HR := Lib.hid (accS_cmb hk89 ha hb)
    have hkb : (k == 8) = true ∨ ((k == 8) = false ∧ (k == 9) = true) := by rcases hk89 with rfl | rfl <;> simp
    obtain ⟨vs, hvs⟩ : ∃ l, exS a vs3 = l := ⟨_, rfl⟩
    obtain ⟨ws, hws⟩ : ∃ l, exS b vs3 = l := ⟨_, rfl⟩
    have HVV := Lib.hid (show ∀ v ∈ vs, vValid v = true by rw [← hvs]; exact exS_valid)
    have HWV := Lib.hid (show ∀ v ∈ ws, vValid v = true by rw [← hws]; exact exS_valid)
    have hvl : vs.length ≤ 3 := by rw [← hvs]; exact exS_len
    have hwl : ws.length ≤ 3 := by rw [← hws]; exact exS_len
    have HXA := Lib.hid (fun z => examples_ok a z ha)
    have HXB := Lib.hid (fun z => examples_ok b z hb)
    rw [hvs] at HXA HR
    rw [hws] at HXB HR
    clear hk hk89 hvs hws
    rcases hkb with hk8 | ⟨hk8, hk9⟩
    all_goals
      go_enter Try.func53, Try.ntmps53
      go_wp2_with fail
      refine (HXA.out _).mono ?_
      rintro e w1 ⟨v1, rfl, how1, hb1⟩
      obtain ⟨A1, c1, rfl, hc1, hc2, _⟩ := how1.shape valC_length
      have HS1 := Lib.hid (slS_ow valC_length how1 (S := fun _ => True) fun _ _ => trivial).sl
      have HB1 := Lib.hid hb1
      unfold maxLen at hc2
      clear how1 hb1
      go_wp2
      go_loopg [7, 21] vs.length (fun g zv iv wr => ∃ i z : Nat, i ≤ vs.length ∧ g = vs.length - i ∧ iv = .int .i64 i ∧ zv = .int .i64 z ∧ z = accS k (vs.take i) ws 0 ∧ Below w1.heap.size w1 wr)
      case atStart => exact ⟨0, 0, by omega, by omega, rfl, rfl, rfl, Below.refl _ _⟩
      case round =>
        obtain ⟨i, z, hi, rfl, rfl, rfl, hz, hb⟩ := hrel
        have HZ := Lib.hid hz
        have hz8 : z < 8 := by rw [hz]; exact accS_lt _ _ (by omega)
        have HB := Lib.hid hb
        clear hz hb
        by_cases hil : i < vs.length
        · have hiI : (i : Int) < (vs.length : Int) := by omega
          obtain ⟨b1, o1, rfl, hB1, d0, d1⟩ := Val.at_ (HS1.out.on HB.out) hil
          have hvv := HVV.out _ (List.getElem_mem hil)
          have Hg := Lib.hid (List.getElem?_eq_getElem hil)
          obtain ⟨⟨vn, vv⟩, hv⟩ : ∃ v, vs[i] = v := ⟨_, rfl⟩
          rw [hv] at d0 d1 hvv Hg
          obtain ⟨U, hU⟩ : ∃ z, wr.alloc (.cells #[.bool vn, .int .i64 vv] 64) = z := ⟨_, rfl⟩
          have HUr := Lib.hid (show Row U wr.heap.size 64 [.bool vn, .int .i64 vv] by rw [← hU]; exact Row.new _ _ _)
          have HUb := Lib.hid (show Below wr.heap.size wr U by rw [← hU]; exact balloc (Below.refl _ _) _)
          have HU := Lib.hid hU
          have HVVx := Lib.hid hvv
          clear hv hU hvv
          go_upto_region 6 with fail
          rw [HU.out]
          go_wp2_with fail
          refine (HXB.out _).mono ?_
          rintro e w2 ⟨v2, rfl, how2, hb2⟩
          obtain ⟨A2, cc2, rfl, hc21, hc22, _⟩ := how2.shape valC_length
          have HS2 := Lib.hid (slS_ow valC_length how2 (S := fun _ => True) fun _ _ => trivial).sl
          have HB2 := Lib.hid (bch HUb.out hb2)
          have HR2 := Lib.hid (HUr.out.on hb2)
          unfold maxLen at hc22
          clear how2 hb2 d0 d1
          go_wp2
          go_loopg [7, 28] ws.length (fun g zv iv wt => ∃ j t : Nat, j ≤ ws.length ∧ g = ws.length - j ∧ iv = .int .i64 j ∧ zv = .int .i64 t ∧ t = accR k (vn, vv) (ws.take j) z ∧ Below w2.heap.size w2 wt)
          case atStart => exact ⟨0, z, by omega, by omega, rfl, rfl, rfl, Below.refl _ _⟩
          case round =>
            obtain ⟨j, t, hj, rfl, rfl, rfl, ht, hbt⟩ := hrel
            have HT := Lib.hid ht
            have ht8 : t < 8 := by rw [ht]; exact accR_lt _ _ hz8
            have HBT := Lib.hid hbt
            clear ht hbt
            by_cases hjl : j < ws.length
            · have hjI : (j : Int) < (ws.length : Int) := by omega
              obtain ⟨b2, o2, rfl, hB2, d0, d1⟩ := Val.at_ (HS2.out.on HBT.out) hjl
              have hwv := HWV.out _ (List.getElem_mem hjl)
              have Hg2 := Lib.hid (List.getElem?_eq_getElem hjl)
              obtain ⟨⟨un, uv⟩, hu⟩ : ∃ v, ws[j] = v := ⟨_, rfl⟩
              rw [hu] at d0 d1 hwv Hg2
              have HC := Lib.hid (fun z => combined_ok k (vn, vv) (un, uv) z HK.out HVVx.out hwv)
              have HSO := Lib.hid (fun z => implStateOf_ok (combV k (vn, vv) (un, uv)) z)
              have HN := Lib.hid (show accR k (vn, vv) (ws.take (j + 1)) z = t ||| stV (combV k (vn, vv) (un, uv)) by
                rw [List.take_add_one, Hg2.out, HT.out]
                unfold accR
                rw [List.foldl_append]
                rfl)
              obtain ⟨⟨rn, rv⟩, hr⟩ : ∃ v, combV k (vn, vv) (un, uv) = v := ⟨_, rfl⟩
              rw [hr] at HC HSO HN
              obtain ⟨s, hs⟩ : ∃ s, stV (rn, rv) = s := ⟨_, rfl⟩
              rw [hs] at HSO HN
              have hs8 : s < 8 := by rw [← hs]; exact stV_lt _
              have hor := bor_i64 t s (by omega) (by omega)
              have e0 := (HR2.out.on HBT.out).cell 0
              have e1 := (HR2.out.on HBT.out).cell 1
              obtain ⟨V, hV⟩ : ∃ z, wr.alloc (.cells #[.bool un, .int .i64 uv] 64) = z := ⟨_, rfl⟩
              have HVb := Lib.hid (show Below wr.heap.size wr V by rw [← hV]; exact balloc (Below.refl _ _) _)
              have HVr := Lib.hid (show Row V wr.heap.size 64 [.bool un, .int .i64 uv] by rw [← hV]; exact Row.new _ _ _)
              have f0 := HVr.out.cell 0
              have f1 := HVr.out.cell 1
              have g0 := ((HR2.out.on HBT.out).on HVb.out).cell 0
              have g1 := ((HR2.out.on HBT.out).on HVb.out).cell 1
              have HV := Lib.hid hV
              clear hu hr hs hV hwv
              go_upto_region 9 with fail
              rw [HV.out]
              go_wp2_with fail
              refine (HC.out _).mono ?_
              rintro e w5 ⟨rfl, hb5⟩
              have HB5 := Lib.hid (bch HVb.out hb5)
              clear hb5
              go_wp2_with fail
              refine (HSO.out _).mono ?_
              rintro e w6 ⟨rfl, hb6⟩
              have HB6 := Lib.hid (bch HB5.out hb6)
              clear hb6
              go_wp2
              go_roundg (ws.length - (j + 1))
              case measure => omega
              case rel => exact ⟨j + 1, t ||| s, by omega, rfl, by go_num, rfl, by rw [HN.out], bch HBT.out HB6.out⟩
            · have hjI : ¬ (j : Int) < (ws.length : Int) := by omega
              have HE := Lib.hid (show t = accS k (vs.take (i + 1)) ws 0 by
                rw [List.take_add_one, Hg.out, HT.out, HZ.out, List.take_of_length_le (by omega)]
                unfold accS
                rw [List.foldl_append]
                rfl)
              go_wp2
              go_roundg (vs.length - (i + 1))
              case measure => omega
              case rel => exact ⟨i + 1, t, by omega, rfl, by go_num, rfl, HE.out, bch (bch HB.out HB2.out) HBT.out⟩
        · have hiI : ¬ (i : Int) < (vs.length : Int) := by omega
          have HE := Lib.hid (show z = cmbS k a b by rw [HZ.out, ← HR.out, List.take_of_length_le (by omega)])
          go_wp2
          go_ret
          exact ⟨ret_int (by rw [HE.out]), bch HB1.out HB.out⟩
  have hk8' : (k == 8) = false := by simp; omega
  have hk9' : (k == 9) = false := by simp; omega
  obtain ⟨q1, hq1⟩ : ∃ q, (bits .and .i64 (bits .or .i64 (a : Int) (b : Int)) 4 != 0) = q := ⟨_, rfl⟩
  obtain ⟨q2, hq2⟩ : ∃ q, (bits .andNot .i64 (a : Int) 4 != 0) = q := ⟨_, rfl⟩
  obtain ⟨q3, hq3⟩ : ∃ q, (bits .andNot .i64 (b : Int) 4 != 0) = q := ⟨_, rfl⟩
  obtain ⟨q4, hq4⟩ : ∃ q, decide (k < 6) = q := ⟨_, rfl⟩
  have HT := Lib.hid (show cmbS k a b = (if (q1 || (q4 && (q2 && q3))) = true then 4 else 0) + (if (q2 && q3) = true then 3 else 0) by
    have e1 : (has a 4 || has b 4) = q1 := by rw [← hq1]; exact (or4 ha hb).symm
    have e2 : (a % 4 != 0) = q2 := by rw [← hq2]; exact (andN4 ha).symm
    have e3 : (b % 4 != 0) = q3 := by rw [← hq3]; exact (andN4 hb).symm
    unfold cmbS
    rw [if_neg (by omega), if_neg (by omega)]
    unfold numS
    rw [e1, e2, e3, hq4, Bool.and_assoc])
  have hb1 := bo_4_3
  have hb2 := bo_0_3
  have hb3 := bo_3_4
  have hb4 := bo_7_4
  have hkk : (k == 3) = true ∨ ((k == 3) = false ∧ (k == 4) = true) ∨ ((k == 3) = false ∧ (k == 4) = false ∧ (k == 5) = true) ∨ ((k == 3) = false ∧ (k == 4) = false ∧ (k == 5) = false) := by
    by_cases h3 : k = 3
    · exact .inl (by simp [h3])
    by_cases h4 : k = 4
    · exact .inr (.inl ⟨by simp [h3], by simp [h4]⟩)
    by_cases h5 : k = 5
    · exact .inr (.inr (.inl ⟨by simp [h3], by simp [h4], by simp [h5]⟩))
    · exact .inr (.inr (.inr ⟨by simp [h3], by simp [h4], by simp [h5]⟩))
  have HQ4 := Lib.hid hq4
  have HKB := Lib.hid hk
  clear hk hk89 hq4
  rcases hkk with h3 | ⟨h3, h4⟩ | ⟨h3, h4, h5⟩ | ⟨h3, h4, h5⟩ <;> cases q1 <;> cases q2 <;> cases q3
  all_goals
    have hq4 : q4 = decide (k < 6) := HQ4.out.symm
    have HQ := Lib.hid hq4
    clear hq4
    go_enter Try.func53, Try.ntmps53
    go_wp2
    go_ret
    refine ⟨ret_int ?_, Below.refl _ _⟩
    have h6 : q4 = true ∨ q4 = false := by cases q4 <;> simp
    have h7 := HKB.out
    have h8 := HQ.out
    rw [HT.out]
    simp at h3
    rcases h6 with rfl | rfl
    all_goals first | rfl | (exfalso; simp_all; done) | (exfalso; simp_all; omega)
end Go.Proofs.Ytcbfbgngkdiijaa
