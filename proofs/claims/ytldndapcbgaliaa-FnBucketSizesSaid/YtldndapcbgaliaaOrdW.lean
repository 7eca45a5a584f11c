/-
  Contracts of the functions of sort orders: which keys are valid; the comparison by keys.
-/
import Derived.Test.YtldndapcbgaliaaProg
import Derived.Test.YtldndapcbgaliaaRow
import Derived.Test.YtldndapcbgaliaaKey
import Derived.Test.YtldndapcbgaliaaPln
namespace Go.Proofs.Ytldndapcbgaliaa
open Go.RowKit Go.Qo
set_option linter.unusedVariables false
set_option linter.unusedSimpArgs false

theorem shl_small (c : Int) (hc : 0 ≤ c) (h : c ≤ 60) : wrap64 (2 ^ min c.toNat 64) = ((2 ^ c.toNat : Nat) : Int) := by
  obtain ⟨n, rfl⟩ := Int.eq_ofNat_of_zero_le hc
  have hn : n ≤ 60 := by omega
  rw [Int.toNat_natCast, Nat.min_eq_left (by omega)]
  have h1 : (2 : Nat) ^ n ≤ 2 ^ 60 := Nat.pow_le_pow_right (by omega) hn
  have h2 : ((2 : Int) ^ n) = ((2 ^ n : Nat) : Int) := by simp
  rw [h2]
  have h3 : (2 : Nat) ^ 60 = 1152921504606846976 := by decide
  generalize (2 : Nat) ^ n = m at *
  exact IntWalk.wrap64_in _ ⟨by omega, by omega⟩

/-- What a call of validKeys says: exactly whether the keys are valid, where the width is at most 6. -/
def SaysKeys (W : Int) (keys : List Key) (w : World) (e : Ending) (w' : World) : Prop := ∃ r : Bool, e = .returned (.bool r) ∧ Below w.heap.size w w' ∧ (W ≤ 6 → (r = true ↔ KeysOk W keys))

set_option maxHeartbeats 1000000 in
theorem implValidKeys_any (A : Option Addr) (c : Nat) (keys : List Key) (W : Int) (w : World) (hn : keys.length ≤ maxLen) (h : Sl 2 keyC w w.heap.size A keys) :
    Calls Try.prog 58 #[.slice A keys.length c, .int .i64 W] w (SaysKeys W keys w) := by
  unfold maxLen at hn
  go_enter Try.func58, Try.ntmps58
  go_wp2
  go_loopg [5, 10] (keys.length) (fun g s i wr => ∃ (k : Nat) (sn : Int), k ≤ keys.length ∧ g = keys.length - k ∧ i = .int .i64 k ∧ s = .int .i64 sn ∧ Below w.heap.size w wr ∧ (W ≤ 6 → KeysUpto W keys k ∧ ∃ n : Nat, sn = n ∧ SeenIs keys k n))
  case atStart => exact ⟨0, 0, by omega, by omega, rfl, rfl, Below.refl _ _, fun _ => ⟨KeysUpto.zero, 0, rfl, SeenIs.zero⟩⟩
  case round =>
    obtain ⟨k, sn, hk, rfl, rfl, rfl, hb, hp⟩ := hrel
    have Hp := Lib.hid hp
    clear hp
    by_cases hlt : k < keys.length
    · obtain ⟨b, off, rfl, hB, c1, c2⟩ := Key.at_ (h.below hb) hlt
      have hx := Lib.hid (List.getElem?_eq_getElem hlt)
      generalize keys[k] = x at *
      obtain ⟨col, dn⟩ := x
      dsimp only at *
      by_cases h1 : 0 ≤ col
      · by_cases h2 : col < W
        · have h1f : (decide (col < 0)) = false := by simp; omega
          have h2f : (decide (W ≤ col)) = false := by simp; omega
          obtain ⟨p, hp1⟩ : ∃ p, wrap64 (2 ^ min col.toNat 64) = p := ⟨_, rfl⟩
          obtain ⟨q, hq1⟩ : ∃ q, bits .and .i64 sn p = q := ⟨_, rfl⟩
          obtain ⟨o, ho1⟩ : ∃ o, bits .or .i64 sn p = o := ⟨_, rfl⟩
          have F := Lib.hid (And.intro (fun h => hp1.symm.trans (shl_small col h1 h)) (And.intro hq1.symm ho1.symm))
          by_cases hq : q = 0
          · subst hq
            go_wp2
            go_roundg (keys.length - (k + 1))
            case measure => omega
            case rel =>
              refine ⟨k + 1, o, by omega, rfl, by go_num, rfl, balloc hb _, fun hW => ?_⟩
              obtain ⟨hu, n, rfl, hs⟩ := Hp.out hW
              obtain ⟨cn, rfl⟩ := Int.eq_ofNat_of_zero_le h1
              obtain ⟨g1, g2, g3⟩ := F.out
              have g1 := g1 (by omega)
              rw [Int.toNat_natCast] at g1
              subst g1
              have hpw : 2 ^ cn < 9223372036854775808 := by
                have : (2 : Nat) ^ cn ≤ 2 ^ 5 := Nat.pow_le_pow_right (by omega) (by omega)
                omega
              have hsl := hs.1
              rw [band_i64 n _ (by omega) hpw] at g2
              rw [bor_i64 n _ (by omega) hpw] at g3
              have hbit := (and_pow_zero n cn).1 (by omega)
              refine ⟨hu.succ hx.out h1 h2 fun i y hi hy he => ?_, _, g3, hs.succ hx.out (by omega)⟩
              have := (hs.2 cn).2 ⟨i, y, hi, hy, he⟩
              rw [hbit] at this; cases this
          · have hqb : (q != 0) = true := by simp [hq]
            have Hq := Lib.hid hq
            clear hq
            go_wp2
            go_ret
            refine ⟨false, rfl, balloc hb _, fun hW => ⟨fun h0 => (by cases h0), fun h0 => ?_⟩⟩
            exfalso
            obtain ⟨hu, n, rfl, hs⟩ := Hp.out hW
            obtain ⟨cn, rfl⟩ := Int.eq_ofNat_of_zero_le h1
            obtain ⟨g1, g2, g3⟩ := F.out
            have g1 := g1 (by omega)
            rw [Int.toNat_natCast] at g1
            subst g1
            have hpw : 2 ^ cn < 9223372036854775808 := by
              have : (2 : Nat) ^ cn ≤ 2 ^ 5 := Nat.pow_le_pow_right (by omega) (by omega)
              omega
            have hsl := hs.1
            rw [band_i64 n _ (by omega) hpw] at g2
            have hnz : (n &&& 2 ^ cn) ≠ 0 := fun h3 => Hq.out (by rw [g2, h3]; rfl)
            have hbit : n.testBit cn = true := by
              cases ht : n.testBit cn
              · exact absurd ((and_pow_zero n cn).2 ht) hnz
              · rfl
            obtain ⟨i, y, hi, hy, he⟩ := (hs.2 cn).1 hbit
            exact h0.2 i k y _ hi hy hx.out he
        · go_wp2
          go_ret
          exact ⟨false, rfl, balloc hb _, fun hW => ⟨fun h0 => (by cases h0), fun h0 => absurd (h0.at_ hx.out).2 (by dsimp only; omega)⟩⟩
      · have h1' : col < 0 := by omega
        go_wp2
        go_ret
        exact ⟨false, rfl, balloc hb _, fun hW => ⟨fun h0 => (by cases h0), fun h0 => absurd (h0.at_ hx.out).1 (by dsimp only; omega)⟩⟩
    · go_wp2
      go_ret
      exact ⟨true, rfl, hb, fun hW => ⟨fun _ => (Hp.out hW).1.all (by omega), fun _ => rfl⟩⟩

set_option maxHeartbeats 1000000 in
theorem specValidKeys_ok (A : Option Addr) (c : Nat) (keys : List Key) (W : Int) (w : World) (hn : keys.length ≤ maxLen) (hW : 0 ≤ W) (hW2 : W ≤ 9223372036854775807) (h : Sl 2 keyC w w.heap.size A keys) (r : Bool) (hr : r = true ↔ (KeysOk W keys ∧ 1 ≤ W ∧ W ≤ 6)) :
    Calls Try.prog 52 #[.slice A keys.length c, .int .i64 W] w fun e w' => e = .returned (.bool r) ∧ Below w.heap.size w w' := by
  have Hr := Lib.hid hr
  clear hr
  unfold maxLen at hn
  go_enter Try.func52, Try.ntmps52
  go_wp2
  go_loopg [5] (keys.length) (fun g i wr => ∃ k : Nat, k ≤ keys.length ∧ g = keys.length - k ∧ i = .int .i64 k ∧ Below w.heap.size w wr ∧ KeysUpto W keys k)
  case atStart => exact ⟨0, by omega, by omega, rfl, Below.refl _ _, KeysUpto.zero⟩
  case round =>
    obtain ⟨k, hk, rfl, rfl, hb, hp⟩ := hrel
    have Hp := Lib.hid hp
    clear hp
    by_cases hlt : k < keys.length
    · obtain ⟨b, off, hA, hB, c1, c2⟩ := Key.at_ (h.below hb) hlt
      have Hh := Lib.hid (h.below hb)
      have hx := Lib.hid (List.getElem?_eq_getElem hlt)
      generalize keys[k] = x at *
      subst hA
      obtain ⟨col, dn⟩ := x
      dsimp only at *
      obtain ⟨q, hq⟩ : ∃ q, (decide ((0 : Int) ≤ col) && decide (col ≤ W - 1)) = q := ⟨_, rfl⟩
      have Hk := Lib.hid (fun w => inRange_ok col 0 (W - 1) w q hq)
      have Hq := Lib.hid hq
      clear hq h
      cases q
      · have hf : r = false := by
          cases r
          · rfl
          · have h1 := (Hr.out.1 rfl).1.at_ hx.out
            have h2 := Hq.out
            simp only [Bool.and_eq_false_iff, decide_eq_false_iff_not] at h2
            dsimp only at h1
            omega
        subst hf
        go_wp2_with fail
        refine (Hk.out _).mono ?_; rintro e w' ⟨rfl, rfl⟩
        go_wp2
        go_ret
        exact ⟨rfl, hb⟩
      · have hc0 : 0 ≤ col ∧ col < W := by
          have h2 := Hq.out
          simp only [Bool.and_eq_true, decide_eq_true_eq] at h2
          omega
        have HC := Lib.hid hc0
        clear hc0
        go_wp2_with fail
        refine (Hk.out _).mono ?_; rintro e w' ⟨rfl, rfl⟩
        go_wp2
        obtain ⟨wo, rfl⟩ : ∃ wo : World, wo = wr := ⟨_, rfl⟩
        go_loopg [6] k (fun g i wr => ∃ j : Nat, j ≤ k ∧ g = k - j ∧ i = .int .i64 j ∧ Below wo.heap.size wo wr ∧ ∀ (i : Nat) (y : Int × Bool), i < j → keys[i]? = some y → y.1 ≠ col)
        case atStart => exact ⟨0, by omega, by omega, rfl, Below.refl _ _, fun i y hi => absurd hi (by omega)⟩
        case round =>
          obtain ⟨j, hj, rfl, rfl, hb2, hd⟩ := hrel
          have Hd := Lib.hid hd
          clear hd
          have hs := hb.size
          have d1 : wr.cell? ⟨b, off + k * 2, none⟩ = some (.int .i64 col) := (hb2.cell (p := ⟨b, _, none⟩) (by dsimp only; omega)).trans c1
          by_cases hlt2 : j < k
          · obtain ⟨b', off', hA', hB', e1, e2⟩ := Key.at_ (Hh.out.below (hb2.mono hs)) (i := j) (by omega)
            cases hA'
            have hy := Lib.hid (List.getElem?_eq_getElem (show j < keys.length by omega))
            generalize keys[j] = y at *
            obtain ⟨col2, dn2⟩ := y
            dsimp only at *
            have hlt3 : j < keys.length := by omega
            by_cases he : col2 = col
            · have hf : r = false := by
                cases r
                · rfl
                · exact absurd he ((Hr.out.1 rfl).1.2 j k _ _ hlt2 hy.out hx.out)
              subst hf
              subst he
              go_wp2
              go_quiet (fail)
              go_wp2
              go_ret
              exact ⟨rfl, bdrewN (bch hb hb2) _⟩
            · have hne : (col2 == col) = false := by simp [he]
              have He := Lib.hid he
              clear he
              go_wp2
              go_quiet (fail)
              go_wp2
              go_roundg (k - (j + 1))
              case measure => omega
              case rel =>
                refine ⟨j + 1, by omega, rfl, by go_num, bdrewN hb2 _, fun i z hi hz => ?_⟩
                rcases Nat.lt_succ_iff_lt_or_eq.1 hi with h3 | rfl
                · exact Hd.out i z h3 hz
                · rw [hy.out] at hz; cases hz; exact He.out
          · go_wp2
            go_roundg (keys.length - (k + 1))
            case measure => omega
            case rel =>
              exact ⟨k + 1, by omega, rfl, by go_num, bch hb hb2, Hp.out.succ hx.out HC.out.1 HC.out.2 fun i y hi hy => Hd.out i y (by omega) hy⟩
    · obtain ⟨q, hq⟩ : ∃ q, (decide ((1 : Int) ≤ W) && decide (W ≤ 6)) = q := ⟨_, rfl⟩
      have Hk := Lib.hid (fun w => inRange_ok W 1 6 w q hq)
      have Hq := Lib.hid hq
      clear hq
      go_wp2_with fail
      refine (Hk.out _).mono ?_; rintro e w' ⟨rfl, rfl⟩
      go_wp2
      go_ret
      refine ⟨ret_bool ?_, hb⟩
      have hko := Hp.out.all (by omega)
      have h2 := Hq.out
      cases q
      · cases r
        · rfl
        · have h3 := (Hr.out.1 rfl).2
          simp only [Bool.and_eq_false_iff, decide_eq_false_iff_not] at h2
          omega
      · simp only [Bool.and_eq_true, decide_eq_true_eq] at h2
        exact (Hr.out.2 ⟨hko, h2⟩).symm

/-! ### The comparison by keys -/
set_option maxHeartbeats 1000000 in
theorem specCompareBy_ok (A A' AK : Option Addr) (c c' cK : Nat) (a b : List Val) (keys : List Key) (w : World) (hn : keys.length ≤ maxLen) (ha : a.length ≤ maxLen) (hb0 : b.length ≤ maxLen) (h : Sl 2 valC w w.heap.size A a) (h' : Sl 2 valC w w.heap.size A' b) (hK : Sl 2 keyC w w.heap.size AK keys)
    (hin : ∀ k ∈ keys, 0 ≤ k.1 ∧ k.1 < (a.length : Int) ∧ k.1 < (b.length : Int)) (R : Int) (hR : kCmp keys a b = R) :
    Calls Try.prog 102 #[.slice A a.length c, .slice A' b.length c', .slice AK keys.length cK] w fun e w' => e = .returned (.int .i64 R) ∧ Below w.heap.size w w' := by
  have HR := Lib.hid hR
  have Hin := Lib.hid hin
  clear hR hin
  unfold maxLen at hn ha hb0
  go_enter Try.func102, Try.ntmps102
  go_wp2
  go_loopg [7] (keys.length) (fun g i wr => ∃ k : Nat, k ≤ keys.length ∧ g = keys.length - k ∧ i = .int .i64 k ∧ Below w.heap.size w wr ∧ ∀ (i : Nat) (x : Int × Bool), i < k → keys[i]? = some x → key1 x a b = 0)
  case atStart => exact ⟨0, by omega, by omega, rfl, Below.refl _ _, fun i x hi => absurd hi (by omega)⟩
  case round =>
    obtain ⟨k, hk, rfl, rfl, hb, hp⟩ := hrel
    have Hp := Lib.hid hp
    clear hp
    have hsz := hb.size
    by_cases hlt : k < keys.length
    · obtain ⟨bk, ok, hAK, hB, c1, c2⟩ := Key.at_ (hK.below hb) hlt
      have hx := Lib.hid (List.getElem?_eq_getElem hlt)
      generalize keys[k] = x at *
      cases hAK
      obtain ⟨col, dn⟩ := x
      dsimp only at *
      have hcl := Hin.out _ (List.mem_of_getElem? hx.out)
      dsimp only at hcl
      obtain ⟨cn, rfl⟩ := Int.eq_ofNat_of_zero_le hcl.1
      have hl1 : cn < a.length := by omega
      have hl2 : cn < b.length := by omega
      clear hcl
      obtain ⟨ba, oa, hAa, hBa, a1, a2⟩ := Val.at_ (h.below hb) hl1
      obtain ⟨bb, ob, hAb, hBb, b1, b2⟩ := Val.at_ (h'.below hb) hl2
      have hkey := Lib.hid (show key1 ((cn : Int), dn) a b = if dn then - vCmp a[cn] b[cn] else vCmp a[cn] b[cn] by unfold key1; rw [getV_eq hl1, getV_eq hl2])
      generalize a[cn] = x at *
      generalize b[cn] = y at *
      cases hAa
      cases hAb
      have d1 := fun z : Aft wr.heap.size wr => z.cell (by omega) c1
      have d2 := fun z : Aft wr.heap.size wr => z.cell (by omega) c2
      have d3 := fun z : Aft wr.heap.size wr => z.cell (by omega) a1
      have d4 := fun z : Aft wr.heap.size wr => z.cell (by omega) a2
      have d5 := fun z : Aft wr.heap.size wr => z.cell (by omega) b1
      have d6 := fun z : Aft wr.heap.size wr => z.cell (by omega) b2
      obtain ⟨r, hr⟩ : ∃ r, vCmp x y = r := ⟨_, rfl⟩
      have Hk := Lib.hid (fun w => specCompareValues_ok x y w r hr)
      rw [hr] at hkey
      have hrr := vCmp_range x y
      rw [hr] at hrr
      clear hr
      by_cases h0 : r = 0
      · subst h0
        go_wp2
        refine wp_region_aft wr.heap.size (by kernel_rfl) (by kernel_rfl) ?_
        repeat (go_big_quiet_step ((go_at_call 123; exact Calls.aft (Nat.le_refl _) (Hk.out _))))
        refine wpQuiet_nil ?_
        intro w1 hw'
        obtain ⟨⟨_, hb1⟩, rfl⟩ := hw'
        go_wp2
        go_roundg (keys.length - (k + 1))
        case measure => omega
        case rel => exact ⟨k + 1, by omega, rfl, by go_num, bch hb hb1, agreeK_succ Hp.out hx.out (by rw [hkey.out]; simp)⟩
      · have hne : (r != 0) = true := by simp [h0]
        have H0 := Lib.hid h0
        have hlo : -1 ≤ r := by omega
        have hhi : r ≤ 1 := by omega
        clear h0 hrr
        cases dn
        · go_wp2
          refine wp_region_aft wr.heap.size (by kernel_rfl) (by kernel_rfl) ?_
          repeat (go_big_quiet_step ((go_at_call 123; exact Calls.aft (Nat.le_refl _) (Hk.out _))))
          refine wpQuiet_nil ?_
          intro w1 hw'
          obtain ⟨⟨_, hb1⟩, rfl⟩ := hw'
          have c2' : w1.cell? ⟨bk, ok + k * 2 + 1, none⟩ = some (.bool false) := (hb1.cell (p := ⟨bk, _, none⟩) (by dsimp only; omega)).trans c2
          go_wp2
          go_ret
          exact ⟨ret_int (by rw [← HR.out, kCmp_at Hp.out hx.out (by rw [hkey.out]; simpa using H0.out), hkey.out]; simp), bch hb hb1⟩
        · go_wp2
          refine wp_region_aft wr.heap.size (by kernel_rfl) (by kernel_rfl) ?_
          repeat (go_big_quiet_step ((go_at_call 123; exact Calls.aft (Nat.le_refl _) (Hk.out _))))
          refine wpQuiet_nil ?_
          intro w1 hw'
          obtain ⟨⟨_, hb1⟩, rfl⟩ := hw'
          have c2' : w1.cell? ⟨bk, ok + k * 2 + 1, none⟩ = some (.bool true) := (hb1.cell (p := ⟨bk, _, none⟩) (by dsimp only; omega)).trans c2
          go_wp2
          go_ret
          exact ⟨ret_int (by rw [← HR.out, kCmp_at Hp.out hx.out (by rw [hkey.out]; have := H0.out; simp; omega), hkey.out]; simp), bch hb hb1⟩
    · go_wp2
      go_ret
      exact ⟨ret_int (by rw [← HR.out, kCmp_end Hp.out (by omega)]), hb⟩

end Go.Proofs.Ytldndapcbgaliaa
