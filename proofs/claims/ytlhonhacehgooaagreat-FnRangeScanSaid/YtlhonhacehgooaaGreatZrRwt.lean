/-
  Several texts in one (Row Tab).
-/
import Derived.Test.YtlhonhacehgooaaGreatProg
import Derived.Test.YtlhonhacehgooaaGreatZrVal
/-
  Contracts of the functions of rows and lists of rows.
-/
namespace Go.Proofs.YtlhonhacehgooaaGreat
open Go.RowKit Go.Qo
set_option linter.unusedVariables false
set_option linter.unusedSimpArgs false

set_option maxHeartbeats 400000 in
theorem specValidRow_ok (A : Option Addr) (c : Nat) (xs : List Val) (w : World) (hn : xs.length ≤ maxLen) (h : Sl 2 valC w w.heap.size A xs) (r : Bool) (hr : rowValid xs = r) :
    Calls Tryz.prog 130 #[.slice A xs.length c] w fun e w' => e = .returned (.bool r) ∧ Below w.heap.size w w' := by
  rw [rowValid_iff] at hr
  have Hr := Lib.hid hr
  clear hr
  unfold maxLen at hn
  go_enter Tryz.func130, Tryz.ntmps130
  go_wp2
  go_loopg [3] (xs.length) (fun g i wr => ∃ k : Nat, k ≤ xs.length ∧ g = xs.length - k ∧ i = .int .i64 k ∧ Below w.heap.size w wr ∧ (xs.take k).all vValid = true)
  case atStart => exact ⟨0, by omega, by omega, rfl, Below.refl _ _, rfl⟩
  case round =>
    obtain ⟨k, hk, rfl, rfl, hb, hp⟩ := hrel
    have Hp := Lib.hid hp
    clear hp
    by_cases hlt : k < xs.length
    · obtain ⟨b, off, rfl, hB, c1, c2⟩ := Val.at_ (h.below hb) hlt
      have hx := Lib.hid (List.getElem?_eq_getElem hlt)
      generalize xs[k] = x at *
      obtain ⟨q, hq⟩ : ∃ q, vValid x = q := ⟨_, rfl⟩
      have Hk := Lib.hid (fun w => specValidValue_ok x w q hq)
      have Hq := Lib.hid hq
      clear hq
      cases q
      · go_wp2_with (go_at_call 170; refine (Hk.out _).mono ?_; rintro e w1 ⟨rfl, hb1⟩)
        go_ret
        exact ⟨ret_bool (by rw [← Hr.out, not_all hx.out Hq.out, Bool.and_false]), bch hb (by assumption)⟩
      · go_wp2_with (go_at_call 170; refine (Hk.out _).mono ?_; rintro e w1 ⟨rfl, hb1⟩)
        go_roundg (xs.length - (k + 1))
        case measure => omega
        case rel => exact ⟨k + 1, by omega, rfl, by go_num, bch hb (by assumption), all_take_succ Hp.out hx.out Hq.out⟩
    · obtain ⟨q, hq⟩ : ∃ q, (decide ((1 : Int) ≤ (xs.length : Int)) && decide ((xs.length : Int) ≤ 6)) = q := ⟨_, rfl⟩
      have Hk := Lib.hid (fun w => inRange_ok xs.length 1 6 w q hq)
      have Hq := Lib.hid hq
      clear hq
      go_wp2_with (go_at_call 81; refine (Hk.out _).mono ?_; rintro e w' ⟨rfl, rfl⟩)
      go_ret
      exact ⟨ret_bool (by rw [← Hr.out, Hq.out, all_of_take Hp.out (by omega), Bool.and_true]), hb⟩

set_option maxHeartbeats 400000 in
theorem implValidRow_ok (A : Option Addr) (c : Nat) (xs : List Val) (w : World) (hn : xs.length ≤ maxLen) (h : Sl 2 valC w w.heap.size A xs) (r : Bool) (hr : rowValid xs = r) :
    Calls Tryz.prog 167 #[.slice A xs.length c] w fun e w' => e = .returned (.bool r) ∧ Below w.heap.size w w' := by
  rw [rowValid_iff] at hr
  have Hr := Lib.hid hr
  clear hr
  unfold maxLen at hn
  obtain ⟨q, hq⟩ : ∃ q, (decide ((1 : Int) ≤ (xs.length : Int)) && decide ((xs.length : Int) ≤ 6)) = q := ⟨_, rfl⟩
  have HW := Lib.hid (fun w => validWidth_ok xs.length w q hq)
  have HQ := Lib.hid hq
  clear hq
  cases q
  · go_enter Tryz.func167, Tryz.ntmps167
    go_wp2_with (go_at_call 135; refine (HW.out _).mono ?_; rintro e w' ⟨rfl, rfl⟩)
    go_ret
    exact ⟨ret_bool (by rw [← Hr.out, HQ.out, Bool.false_and]), Below.refl _ _⟩
  · go_enter Tryz.func167, Tryz.ntmps167
    go_wp2_with (go_at_call 135; refine (HW.out _).mono ?_; rintro e w' ⟨rfl, rfl⟩)
    go_loopg [11] (xs.length) (fun g i wr => ∃ k : Nat, k ≤ xs.length ∧ g = xs.length - k ∧ i = .int .i64 k ∧ Below w.heap.size w wr ∧ (xs.take k).all vValid = true)
    case atStart => exact ⟨0, by omega, by omega, rfl, Below.refl _ _, rfl⟩
    case round =>
      obtain ⟨k, hk, rfl, rfl, hb, hp⟩ := hrel
      have Hp := Lib.hid hp
      clear hp
      by_cases hlt : k < xs.length
      · obtain ⟨b, off, rfl, hB, c1, c2⟩ := Val.at_ (h.below hb) hlt
        have hx := Lib.hid (List.getElem?_eq_getElem hlt)
        generalize xs[k] = x at *
        obtain ⟨q, hq⟩ : ∃ q, vValid x = q := ⟨_, rfl⟩
        have Hk := Lib.hid (fun w => implValid_ok x w q hq)
        have Hq := Lib.hid hq
        clear hq
        cases q
        · go_wp2_with (go_at_call 176; refine (Hk.out _).mono ?_; rintro e w1 ⟨rfl, hb1⟩)
          go_ret
          exact ⟨ret_bool (by rw [← Hr.out, not_all hx.out Hq.out, Bool.and_false]), bch (balloc hb _) (by assumption)⟩
        · go_wp2_with (go_at_call 176; refine (Hk.out _).mono ?_; rintro e w1 ⟨rfl, hb1⟩)
          go_roundg (xs.length - (k + 1))
          case measure => omega
          case rel => exact ⟨k + 1, by omega, rfl, by go_num, bch (balloc hb _) (by assumption), all_take_succ Hp.out hx.out Hq.out⟩
      · go_wp2
        go_ret
        exact ⟨ret_bool (by rw [← Hr.out, HQ.out, all_of_take Hp.out (by omega), Bool.and_true]), hb⟩

/-! ### Lists of rows -/
abbrev Rws (w : World) (B : Nat) (A : Option Addr) (rows : List Row1) : Prop := Sls 2 valC w B A rows

theorem zeroRow : (Tryz.prog.info? 104).map (fun i => (i.zero, i.size, i.bytes)) = some (some (.slice none 0 0), 1, 24) := by kernel_rfl

/-- Behind k rounds of a copy of a list of rows. -/
structure CopyK (w : World) (B0 : Nat) (bs : List Nat) (rows : List Row1) (k : Nat) : Prop where
  len : bs.length = k
  outer : Row w B0 104 (rowsC bs (rows.take k) ++ zeros [.slice none 0 0] (rows.length - k))
  inner : ∀ (i c : Nat) (r : Row1), bs[i]? = some c → rows[i]? = some r → Row w c 55 (r.flatMap valC)
  nodup : bs.Nodup
  low : ∀ c ∈ bs, B0 < c ∧ c < w.heap.size

theorem CopyK.next {w w1 : World} {B0 : Nat} {bs : List Nat} {rows : List Row1} {k : Nat} {r : Row1} (h : CopyK w B0 bs rows k) (hB : B0 < w.heap.size) (hr : rows[k]? = some r) (hb : Below w.heap.size w w1) (hrow : Row w1 w.heap.size 55 (r.flatMap valC)) :
    CopyK (w1.setCell ⟨B0, k, none⟩ (.slice (some ⟨w.heap.size, 0, none⟩) r.length r.length)) B0 (bs ++ [w.heap.size]) rows (k + 1) := by
  obtain ⟨hk, _⟩ := List.getElem?_eq_some_iff.1 hr
  have hl : (rows.take k).length = k := by rw [List.length_take]; omega
  have hlt := hrow.lt
  refine ⟨by simp [h.len], ?_, fun i c x h1 h2 => ?_, ?_, fun c hc => ?_⟩
  · refine ((h.outer.on hb).set k _).of ?_
    have hL : (rowsC bs (rows.take k)).length = k := by rw [rowsC_length _ _ (by rw [h.len, hl]), hl]
    rw [List.take_add_one, hr, Option.toList, rowsC_snoc _ _ (by rw [h.len, hl]), List.set_append_right _ _ (by omega), hL, Nat.sub_self,
      show rows.length - k = (rows.length - (k + 1)) + 1 by omega, zeros_succ]
    simp
  · rcases Nat.lt_or_ge i bs.length with hi | hi
    · rw [List.getElem?_append_left hi] at h1
      have hc := h.low c (List.mem_of_getElem? h1)
      exact ((h.inner i c x h1 h2).on hb).far (p := ⟨_, _, none⟩) (by dsimp only; omega) _
    · rw [List.getElem?_append_right hi] at h1
      have : i - bs.length = 0 := by
        rcases Nat.eq_zero_or_pos (i - bs.length) with h3 | h3
        · exact h3
        · rw [List.getElem?_eq_none (by simp; omega)] at h1; cases h1
      rw [this] at h1
      simp only [List.getElem?_cons_zero, Option.some.injEq] at h1
      subst h1
      obtain rfl : i = k := by rw [← h.len]; omega
      rw [hr] at h2; cases h2
      exact hrow.far (p := ⟨_, _, none⟩) (by dsimp only; omega) _
  · rw [List.nodup_append]
    exact ⟨h.nodup, by simp, fun a ha b hb' => by
      simp only [List.mem_singleton] at hb'
      have := (h.low a ha).2; omega⟩
  · rw [World.size_setCell]
    rcases List.mem_append.1 hc with hc | hc
    · have := h.low c hc; have := hb.size; omega
    · simp only [List.mem_singleton] at hc; omega

theorem CopyK.below {w w1 : World} {B0 : Nat} {bs : List Nat} {rows : List Row1} {k : Nat} (h : CopyK w B0 bs rows k) (hb : Below w.heap.size w w1) : CopyK w1 B0 bs rows k :=
  ⟨h.len, h.outer.on hb, fun i c r h1 h2 => (h.inner i c r h1 h2).on hb, h.nodup, fun c hc => by have := h.low c hc; have := hb.size; omega⟩

theorem CopyK.done {w : World} {B0 : Nat} {bs : List Nat} {rows : List Row1} {k : Nat} (h : CopyK w B0 bs rows k) (hk : k = rows.length) : OwnRs valC 104 55 w B0 B0 bs rows [] := by
  subst hk
  refine ⟨h.len, h.outer.of (by rw [List.take_length, Nat.sub_self]; rfl), h.inner, h.nodup, fun c hc => ?_, Nat.le_refl _⟩
  have := h.low c hc; omega

end Go.Proofs.YtlhonhacehgooaaGreat

/-
  Contracts of the functions of tables.
-/
namespace Go.Proofs.YtlhonhacehgooaaGreat
open Go.RowKit Go.Qo
set_option linter.unusedVariables false
set_option linter.unusedSimpArgs false

theorem bfalse {r : Bool} {p : Prop} (hr : r = true ↔ p) (h : ¬ p) : r = false := by
  cases r
  · rfl
  · exact absurd (hr.1 rfl) h
theorem btrue {r : Bool} {p : Prop} (hr : r = true ↔ p) (h : p) : r = true := hr.2 h

set_option maxHeartbeats 1000000 in
theorem specValidTable_ok (W : Int) (A : Option Addr) (c : Nat) (rows : List Row1) (w : World) (hn : rows.length ≤ maxLen) (h : Rws w w.heap.size A rows) (r : Bool) (hr : r = true ↔ TabOk W rows) :
    Calls Tryz.prog 79 #[.agg #[.int .i64 W, .slice A rows.length c]] w fun e w' => e = .returned (.bool r) ∧ Below w.heap.size w w' := by
  have Hr := Lib.hid hr
  clear hr
  unfold maxLen at hn
  go_enter Tryz.func79, Tryz.ntmps79
  go_wp2
  go_loopg [3] (rows.length) (fun g i wr => ∃ k : Nat, k ≤ rows.length ∧ g = rows.length - k ∧ i = .int .i64 k ∧ Below w.heap.size w wr ∧ Row wr w.heap.size 32 [.int .i64 W, .slice A rows.length c] ∧ TabUpto W rows k)
  case atStart => exact ⟨0, by omega, by omega, rfl, balloc (Below.refl _ _) _, Row.new _ _ _, TabUpto.zero⟩
  case round =>
    obtain ⟨k, hk, rfl, rfl, hb, hbox, hp⟩ := hrel
    have Hp := Lib.hid hp
    have hblt := hbox.lt
    have b0 : wr.cell? ⟨w.heap.size, 0, none⟩ = some (.int .i64 W) := hbox.cell 0
    have b1 : wr.cell? ⟨w.heap.size, 1, none⟩ = some (.slice A rows.length c) := hbox.cell 1
    have B0 := fun z : Aft wr.heap.size wr => z.cell hblt b0
    have B1 := fun z : Aft wr.heap.size wr => z.cell hblt b1
    have Hbox := Lib.hid hbox
    clear hp hbox
    by_cases hlt : k < rows.length
    · obtain ⟨b, off, A1, C1, hA, hB, c1, hc1, hm1, s1⟩ := (h.on hb).at_ hlt
      have hx := Lib.hid (List.getElem?_eq_getElem hlt)
      have Hh := Lib.hid (h.on hb)
      generalize rows[k] = x at *
      subst hA
      have d1 := fun z : Aft wr.heap.size wr => z.cell hB c1
      obtain ⟨q, hq⟩ : ∃ q, rowValid x = q := ⟨_, rfl⟩
      have HV := Lib.hid (fun z : Aft wr.heap.size wr => specValidRow_ok A1 C1 x z.v (by omega) (s1.on z.h) q hq)
      have Hq := Lib.hid hq
      have hlx : x.length ≤ 9223372036854775807 := by unfold maxLen at hm1; omega
      have S1 := Lib.hid s1
      have HC := Lib.hid (And.intro hc1 hm1)
      clear hq s1 hc1 hm1 h
      cases q
      · have hf : r = false := bfalse Hr.out fun ht => by have := (ht.row hx.out).1; rw [Hq.out] at this; cases this
        subst hf
        go_wp2
        refine wp_region_aft wr.heap.size (by kernel_rfl) (by kernel_rfl) ?_
        repeat (go_big_quiet_step ((go_at_call 130; exact Calls.aft (Nat.le_refl _) (HV.out _))))
        refine wpQuiet_nil ?_
        intro _ hw'
        obtain ⟨⟨w1, hb1⟩, rfl⟩ := hw'
        go_wp2
        go_ret
        exact ⟨rfl, bch hb hb1⟩
      · by_cases hw : (x.length : Int) = W
        · have hwb : ((x.length : Int) != W) = false := by simp [hw]
          have Hw := Lib.hid hw
          clear hw
          rcases Nat.eq_zero_or_pos k with h0 | h0
          · subst h0
            have c1' : wr.cell? ⟨b, off, none⟩ = some (.slice A1 x.length C1) := by simpa using c1
            have d1' := fun z : Aft wr.heap.size wr => z.cell hB c1'
            go_wp2
            refine wp_region_aft wr.heap.size (by kernel_rfl) (by kernel_rfl) ?_
            repeat (go_big_quiet_step ((go_at_call 130; exact Calls.aft (Nat.le_refl _) (HV.out _))))
            refine wpQuiet_nil ?_
            intro _ hw'
            obtain ⟨⟨w1, hb1⟩, rfl⟩ := hw'
            go_wp2
            go_roundg (rows.length - 1)
            case measure => omega
            case rel => exact ⟨1, by omega, rfl, by go_num, bch hb hb1, Hbox.out.on hb1, TabUpto.first hx.out Hq.out Hw.out⟩
          · obtain ⟨b2, off2, A2, C2, hA2, hB2, c2, hc2, hm2, s2⟩ := Hh.out.at_ (i := k - 1) (by omega)
            have hy := Lib.hid (List.getElem?_eq_getElem (show k - 1 < rows.length by omega))
            generalize rows[k - 1] = y at *
            cases hA2
            have d2 := fun z : Aft wr.heap.size wr => z.cell hB2 c2
            obtain ⟨R, hR⟩ : ∃ R, rCmp y x = R := ⟨_, rfl⟩
            have HK := Lib.hid (fun z : Aft wr.heap.size wr => specCompareRows_ok A2 A1 C2 C1 y x z.v (by omega) (by have := HC.out; omega) (s2.on z.h) (S1.out.on z.h) R hR)
            have HR := Lib.hid hR
            clear hR s2 hc2 hm2
            have h0' : (0 : Int) < (k : Int) := by omega
            have i1 : IntKind.i64.wrap ((k : Int) - 1) = (k : Int) - 1 := IntWalk.i64_in _ (by omega)
            have i2 : ((k : Int) - 1).toNat = k - 1 := by omega
            have i3 : (0 : Int) ≤ (k : Int) - 1 := by omega
            have i4 : (k : Int) - 1 < (rows.length : Int) := by omega
            by_cases hR0 : 0 < R
            · have hf : r = false := bfalse Hr.out fun ht => by have := ht.2.2.2.2 (k - 1) y x hy.out (by rw [show k - 1 + 1 = k by omega]; exact hx.out); rw [HR.out] at this; omega
              subst hf
              go_wp2
              refine wp_region_aft wr.heap.size (by kernel_rfl) (by kernel_rfl) ?_
              repeat (go_big_quiet_step (first | (go_at_call 130; exact Calls.aft (Nat.le_refl _) (HV.out _)) | (go_at_call 131; exact Calls.aft (Nat.le_refl _) (HK.out _))))
              refine wpQuiet_nil ?_
              intro _ hw'
              obtain ⟨⟨w1, hb1⟩, rfl⟩ := hw'
              go_wp2
              go_ret
              exact ⟨rfl, bch hb hb1⟩
            · go_wp2
              refine wp_region_aft wr.heap.size (by kernel_rfl) (by kernel_rfl) ?_
              repeat (go_big_quiet_step (first | (go_at_call 130; exact Calls.aft (Nat.le_refl _) (HV.out _)) | (go_at_call 131; exact Calls.aft (Nat.le_refl _) (HK.out _))))
              refine wpQuiet_nil ?_
              intro _ hw'
              obtain ⟨⟨w1, hb1⟩, rfl⟩ := hw'
              go_wp2
              go_roundg (rows.length - (k + 1))
              case measure => omega
              case rel =>
                refine ⟨k + 1, by omega, rfl, by go_num, bch hb hb1, Hbox.out.on hb1, ?_⟩
                obtain ⟨j, rfl⟩ : ∃ j, k = j + 1 := ⟨k - 1, by omega⟩
                exact Hp.out.succ hy.out hx.out Hq.out Hw.out (by rw [HR.out]; omega)
        · have hwb : ((x.length : Int) != W) = true := by simp [hw]
          have hf : r = false := bfalse Hr.out fun ht => hw (ht.row hx.out).2
          subst hf
          clear hw
          go_wp2
          refine wp_region_aft wr.heap.size (by kernel_rfl) (by kernel_rfl) ?_
          repeat (go_big_quiet_step ((go_at_call 130; exact Calls.aft (Nat.le_refl _) (HV.out _))))
          refine wpQuiet_nil ?_
          intro _ hw'
          obtain ⟨⟨w1, hb1⟩, rfl⟩ := hw'
          go_wp2
          go_ret
          exact ⟨rfl, bch hb hb1⟩
    · obtain ⟨q, hq⟩ : ∃ q, (decide ((1 : Int) ≤ W) && decide (W ≤ 6)) = q := ⟨_, rfl⟩
      have Hk := Lib.hid (fun w => inRange_ok W 1 6 w q hq)
      have Hq := Lib.hid hq
      clear hq
      cases q
      · go_wp2_with (go_at_call 81; refine (Hk.out _).mono ?_; rintro e w' ⟨rfl, rfl⟩)
        go_ret
        exact ⟨ret_bool (bfalse Hr.out fun ht => by have := Hq.out; simp [ht.1, ht.2.1] at this).symm, hb⟩
      · have hq2 : 1 ≤ W ∧ W ≤ 6 := by simpa using Hq.out
        by_cases h4 : rows.length ≤ 400
        · go_wp2_with (go_at_call 81; refine (Hk.out _).mono ?_; rintro e w' ⟨rfl, rfl⟩)
          go_ret
          exact ⟨ret_bool (by rw [btrue Hr.out (Hp.out.all (by omega) hq2.1 hq2.2 h4)]; simp; try omega), hb⟩
        · go_wp2_with (go_at_call 81; refine (Hk.out _).mono ?_; rintro e w' ⟨rfl, rfl⟩)
          go_ret
          exact ⟨ret_bool (by rw [bfalse Hr.out fun ht => h4 ht.2.2.1]; simp; try omega), hb⟩

set_option maxHeartbeats 1000000 in
theorem implValidTable_ok (W : Int) (A : Option Addr) (c : Nat) (rows : List Row1) (w : World) (hn : rows.length ≤ maxLen) (h : Rws w w.heap.size A rows) (r : Bool) (hr : r = true ↔ TabOk W rows) :
    Calls Tryz.prog 125 #[.agg #[.int .i64 W, .slice A rows.length c]] w fun e w' => e = .returned (.bool r) ∧ Below w.heap.size w w' := by
  have Hr := Lib.hid hr
  clear hr
  unfold maxLen at hn
  obtain ⟨q, hq⟩ : ∃ q, (decide ((1 : Int) ≤ W) && decide (W ≤ 6)) = q := ⟨_, rfl⟩
  have HW := Lib.hid (fun w => validWidth_ok W w q hq)
  have HQ := Lib.hid hq
  clear hq
  cases q
  · have hf : r = false := bfalse Hr.out fun ht => by have := HQ.out; simp [ht.1, ht.2.1] at this
    subst hf
    go_enter Tryz.func125, Tryz.ntmps125
    go_wp2_with (go_at_call 135; refine (HW.out _).mono ?_; rintro e w' ⟨rfl, rfl⟩)
    go_ret
    exact ⟨rfl, balloc (Below.refl _ _) _⟩
  · have hq2 : 1 ≤ W ∧ W ≤ 6 := by simpa using HQ.out
    have HQ2 := Lib.hid hq2
    clear hq2
    by_cases h4 : 400 < rows.length
    · have hf : r = false := bfalse Hr.out fun ht => by have := ht.2.2.1; omega
      subst hf
      go_enter Tryz.func125, Tryz.ntmps125
      go_wp2_with (go_at_call 135; refine (HW.out _).mono ?_; rintro e w' ⟨rfl, rfl⟩)
      go_ret
      exact ⟨rfl, balloc (Below.refl _ _) _⟩
    · go_enter Tryz.func125, Tryz.ntmps125
      go_wp2_with (go_at_call 135; refine (HW.out _).mono ?_; rintro e w' ⟨rfl, rfl⟩)
      go_loopg [18] (rows.length) (fun g i wr => ∃ k : Nat, k ≤ rows.length ∧ g = rows.length - k ∧ i = .int .i64 k ∧ Below w.heap.size w wr ∧ Row wr w.heap.size 32 [.int .i64 W, .slice A rows.length c] ∧ TabUpto W rows k)
      case atStart => exact ⟨0, by omega, by omega, rfl, balloc (Below.refl _ _) _, Row.new _ _ _, TabUpto.zero⟩
      case round =>
        obtain ⟨k, hk, rfl, rfl, hb, hbox, hp⟩ := hrel
        have Hp := Lib.hid hp
        have hblt := hbox.lt
        have b0 : wr.cell? ⟨w.heap.size, 0, none⟩ = some (.int .i64 W) := hbox.cell 0
        have b1 : wr.cell? ⟨w.heap.size, 1, none⟩ = some (.slice A rows.length c) := hbox.cell 1
        have Hbox := Lib.hid hbox
        clear hp hbox
        by_cases hlt : k < rows.length
        · obtain ⟨b, off, A1, C1, hA, hB, c1, hc1, hm1, s1⟩ := (h.on hb).at_ hlt
          have hx := Lib.hid (List.getElem?_eq_getElem hlt)
          have Hh := Lib.hid (h.on hb)
          generalize rows[k] = x at *
          subst hA
          obtain ⟨q, hq⟩ : ∃ q, rowValid x = q := ⟨_, rfl⟩
          have HV := Lib.hid (implValidRow_ok A1 C1 x wr (by omega) s1 q hq)
          have Hq := Lib.hid hq
          have hlx : x.length ≤ 9223372036854775807 := by unfold maxLen at hm1; omega
          have S1 := Lib.hid s1
          have HC := Lib.hid (And.intro hc1 hm1)
          clear hq s1 hc1 hm1 h
          by_cases hw : (x.length : Int) = W
          · have hwb : ((x.length : Int) != W) = false := by simp [hw]
            have Hw := Lib.hid hw
            clear hw
            cases q
            · have hf : r = false := bfalse Hr.out fun ht => by have := (ht.row hx.out).1; rw [Hq.out] at this; cases this
              subst hf
              go_wp2_with (go_at_call 167; refine HV.out.mono ?_; rintro e w1 ⟨rfl, hb1⟩)
              go_ret
              exact ⟨rfl, bch hb (by assumption)⟩
            · rcases Nat.eq_zero_or_pos k with h0 | h0
              · subst h0
                have c1' : wr.cell? ⟨b, off, none⟩ = some (.slice A1 x.length C1) := by simpa using c1
                go_wp2_with (go_at_call 167; refine HV.out.mono ?_; rintro e w1 ⟨rfl, hb1⟩)
                go_roundg (rows.length - 1)
                case measure => omega
                case rel => exact ⟨1, by omega, rfl, by go_num, bch hb (by assumption), Hbox.out.on (by assumption), TabUpto.first hx.out Hq.out Hw.out⟩
              · obtain ⟨b2, off2, A2, C2, hA2, hB2, c2, hc2, hm2, s2⟩ := Hh.out.at_ (i := k - 1) (by omega)
                have hy := Lib.hid (List.getElem?_eq_getElem (show k - 1 < rows.length by omega))
                generalize rows[k - 1] = y at *
                cases hA2
                obtain ⟨R, hR⟩ : ∃ R, rCmp y x = R := ⟨_, rfl⟩
                have hyv := Hp.out.1 (k - 1) y (by omega) hy.out
                have hrp : rpCmp y x = R := by rw [rp_eq hyv.1 Hq.out (by have := hyv.2; have := Hw.out; omega), hR]
                have HK := Lib.hid (fun (z : World) (hz : Below wr.heap.size wr z) => implCompareRows_ok A2 A1 C2 C1 y x z (by omega) (by have := HC.out; omega) (s2.on hz) (S1.out.on hz))
                rw [hrp] at HK
                have HR := Lib.hid hR
                clear hR s2 hc2 hm2 hyv hrp
                have h0' : (0 : Int) < (k : Int) := by omega
                have i2 : ((k : Int) - 1).toNat = k - 1 := by omega
                by_cases hR0 : 0 < R
                · have hf : r = false := bfalse Hr.out fun ht => by have := ht.2.2.2.2 (k - 1) y x hy.out (by rw [show k - 1 + 1 = k by omega]; exact hx.out); rw [HR.out] at this; omega
                  subst hf
                  go_wp2_with (first | (go_at_call 167; refine HV.out.mono ?_; rintro e w1 ⟨rfl, hb1⟩; have b1' : w1.cell? ⟨w.heap.size, 1, none⟩ = some (.slice (some ⟨b, off, none⟩) rows.length c) := (Hbox.out.on hb1).cell 1; have c2' : w1.cell? ⟨b, off + (k - 1), none⟩ = some (.slice A2 y.length C2) := ((hb1.cell (p := ⟨b, _, none⟩) hB).trans c2); have hb1' := Lib.hid hb1) | (go_at_call 116; refine (HK.out _ hb1').mono ?_; rintro e w2 ⟨rfl, hb2⟩))
                  go_ret
                  exact ⟨rfl, bch (bch hb hb1'.out) (by assumption)⟩
                · go_wp2_with (first | (go_at_call 167; refine HV.out.mono ?_; rintro e w1 ⟨rfl, hb1⟩; have b1' : w1.cell? ⟨w.heap.size, 1, none⟩ = some (.slice (some ⟨b, off, none⟩) rows.length c) := (Hbox.out.on hb1).cell 1; have c2' : w1.cell? ⟨b, off + (k - 1), none⟩ = some (.slice A2 y.length C2) := ((hb1.cell (p := ⟨b, _, none⟩) hB).trans c2); have hb1' := Lib.hid hb1) | (go_at_call 116; refine (HK.out _ hb1').mono ?_; rintro e w2 ⟨rfl, hb2⟩))
                  go_roundg (rows.length - (k + 1))
                  case measure => omega
                  case rel =>
                    refine ⟨k + 1, by omega, rfl, by go_num, bch (bch hb hb1'.out) (by assumption), (Hbox.out.on hb1'.out).on (by assumption), ?_⟩
                    obtain ⟨j, rfl⟩ : ∃ j, k = j + 1 := ⟨k - 1, by omega⟩
                    exact Hp.out.succ hy.out hx.out Hq.out Hw.out (by rw [HR.out]; omega)
          · have hwb : ((x.length : Int) != W) = true := by simp [hw]
            have hf : r = false := bfalse Hr.out fun ht => hw (ht.row hx.out).2
            subst hf
            clear hw
            go_wp2
            go_ret
            exact ⟨rfl, hb⟩
        · go_wp2
          go_ret
          exact ⟨ret_bool (by rw [btrue Hr.out (Hp.out.all (by omega) HQ2.out.1 HQ2.out.2 (by omega))]), hb⟩

set_option maxHeartbeats 1000000 in
theorem sameWidth_ok (W W' : Int) (A A' : Option Addr) (c c' : Nat) (xs ys : List Row1) (w : World) (hn : xs.length ≤ maxLen) (hn' : ys.length ≤ maxLen) (h : Rws w w.heap.size A xs) (h' : Rws w w.heap.size A' ys) (r : Bool) (hr : r = true ↔ (TabOk W xs ∧ TabOk W' ys ∧ W = W')) :
    Calls Tryz.prog 92 #[.agg #[.int .i64 W, .slice A xs.length c], .agg #[.int .i64 W', .slice A' ys.length c']] w fun e w' => e = .returned (.bool r) ∧ Below w.heap.size w w' := by
  have Hr := Lib.hid hr
  clear hr
  obtain ⟨q, hq⟩ : ∃ q : Bool, q = true ↔ TabOk W xs := ⟨_, @decide_eq_true_iff _ (Classical.propDecidable _)⟩
  obtain ⟨q', hq'⟩ : ∃ q : Bool, q = true ↔ TabOk W' ys := ⟨_, @decide_eq_true_iff _ (Classical.propDecidable _)⟩
  have H1 := Lib.hid (fun (z : World) (hz : Below w.heap.size w z) => implValidTable_ok W A c xs z hn (h.on hz) q hq)
  have H2 := Lib.hid (fun (z : World) (hz : Below w.heap.size w z) => implValidTable_ok W' A' c' ys z hn' (h'.on hz) q' hq')
  have HQ := Lib.hid hq
  have HQ' := Lib.hid hq'
  clear hq hq' h h'
  cases q
  · have hf : r = false := bfalse Hr.out fun ht => by have := HQ.out.2 ht.1; cases this
    subst hf
    go_enter Tryz.func92, Tryz.ntmps92
    go_wp2_with (go_at_call 125; refine (H1.out _ (balloc (balloc (Below.refl _ _) _) _)).mono ?_; rintro e w1 ⟨rfl, hb1⟩)
    go_ret
    exact ⟨rfl, bbox2 (by assumption)⟩
  · cases q'
    · have hf : r = false := bfalse Hr.out fun ht => by have := HQ'.out.2 ht.2.1; cases this
      subst hf
      go_enter Tryz.func92, Tryz.ntmps92
      go_wp2_with fail
      refine (H1.out _ (balloc (balloc (Below.refl _ _) _) _)).mono ?_; rintro e w1 ⟨rfl, hb1⟩
      have r1 := (Row.second _ _ _ _).on hb1
      have e0 : w1.cell? ⟨w.heap.size + 1, 0, none⟩ = some (.int .i64 W') := r1.cell 0
      have e1 : w1.cell? ⟨w.heap.size + 1, 1, none⟩ = some (.slice A' ys.length c') := r1.cell 1
      have Hr1 := Lib.hid r1
      clear r1
      go_wp2_with fail
      refine (H2.out _ (bbox2 hb1)).mono ?_; rintro e w2 ⟨rfl, hb2⟩
      go_wp2
      go_ret
      exact ⟨rfl, bch (bbox2 hb1) hb2⟩
    · obtain ⟨d, hd⟩ : ∃ d, decide (W = W') = d := ⟨_, rfl⟩
      have hdb : (W == W') = d := by rw [← hd]; rfl
      have hrd : r = d := by
        have h1 := HQ.out.1 rfl
        have h2 := HQ'.out.1 rfl
        cases d
        · exact bfalse Hr.out fun ht => of_decide_eq_false hd ht.2.2
        · exact btrue Hr.out ⟨h1, h2, of_decide_eq_true hd⟩
      subst hrd
      clear hd
      go_enter Tryz.func92, Tryz.ntmps92
      go_wp2_with fail
      refine (H1.out _ (balloc (balloc (Below.refl _ _) _) _)).mono ?_; rintro e w1 ⟨rfl, hb1⟩
      have r1 := (Row.second _ _ _ _).on hb1
      have r0 := (Row.first _ _ _ _).on hb1
      have e0 : w1.cell? ⟨w.heap.size + 1, 0, none⟩ = some (.int .i64 W') := r1.cell 0
      have e1 : w1.cell? ⟨w.heap.size + 1, 1, none⟩ = some (.slice A' ys.length c') := r1.cell 1
      have Hr1 := Lib.hid r1
      have Hr0 := Lib.hid r0
      clear r1 r0
      go_wp2_with fail
      refine (H2.out _ (bbox2 hb1)).mono ?_; rintro e w2 ⟨rfl, hb2⟩
      have e2 : w2.cell? ⟨w.heap.size + 1, 0, none⟩ = some (.int .i64 W') := (Hr1.out.on hb2).cell 0
      have e3 : w2.cell? ⟨w.heap.size, 0, none⟩ = some (.int .i64 W) := (Hr0.out.on hb2).cell 0
      go_wp2
      go_ret
      exact ⟨rfl, bch (bbox2 hb1) hb2⟩

end Go.Proofs.YtlhonhacehgooaaGreat
