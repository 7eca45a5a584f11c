/-
  Contract of TopRows: the reference's.
-/
import Derived.Test.YtldndapcbgaliaaProg
import Derived.Test.YtldndapcbgaliaaIns
namespace Go.Proofs.Ytldndapcbgaliaa
open Go.RowKit Go.Qo
set_option linter.unusedVariables false
set_option linter.unusedSimpArgs false

theorem flat_take {α : Type} (sz : Nat) (enc : α → List Value) (he : ∀ x, (enc x).length = sz) : ∀ (xs : List α) (k : Nat), (xs.flatMap enc).take (k * sz) = (xs.take k).flatMap enc
  | [], k => by simp
  | x :: xs, 0 => by simp
  | x :: xs, k + 1 => by
    rw [List.flatMap_cons, List.take_succ_cons, List.flatMap_cons, List.take_append, he, Nat.add_mul, Nat.one_mul, Nat.add_sub_cancel, flat_take sz enc he xs k, List.take_of_length_le (by rw [he]; omega)]
theorem owCut {α : Type} {lo : Nat} {e : TypeId} {sz : Nat} {enc : α → List Value} {w : World} {A : Option Addr} {n c k : Nat} {xs : List α} (he : ∀ x, (enc x).length = sz) (h : Ow lo e sz enc w (.slice A n c) xs) (hk : k ≤ n) : Ow lo e sz enc w (.slice A k c) (xs.take k) := by
  have hl := h.1
  rcases h.2 with ⟨h1, h2⟩ | ⟨g, cap, cur, hv, hg, hh, hn, hm, hc, ht⟩
  · cases h1
    obtain rfl : k = 0 := by omega
    exact Ow.nil
  · cases hv
    refine ⟨by rw [flat_length sz enc he], .inr ⟨g, c, cur, ?_, hg, hh, by rw [List.length_take]; omega, hm, hc, ?_⟩⟩
    · rw [List.length_take, Nat.min_eq_left hk]
    · rw [List.length_take, Nat.min_eq_left hk, ← flat_take sz enc he xs k, ← ht, List.take_take, Nat.min_eq_left (Nat.mul_le_mul_right sz hk)]

set_option maxRecDepth 20000 in
set_option maxHeartbeats 1000000 in
theorem specTopRows_ok (W N : Int) (A AK : Option Addr) (c cK : Nat) (rows : List Row1) (keys : List Key) (w : World) (hn : rows.length ≤ 1048576) (hnk : keys.length ≤ 1048576) (h : Rws w w.heap.size A rows) (hK : Sl 2 keyC w w.heap.size AK keys) (d : Bool) (hd : d = true ↔ (TabOk W rows ∧ KeysOk W keys ∧ 0 ≤ N)) (out : List Row1) (hout : (if d then (sortK keys rows).take N.toNat else []) = out) :
    Calls Try.prog 38 #[.agg #[.int .i64 W, .slice A rows.length c], .slice AK keys.length cK, .int .i64 N] w (SomeRows out w) := by
  have HN := Lib.hid (And.intro hn hnk)
  have HH := Lib.hid (And.intro h hK)
  have Hd := Lib.hid hd
  have HOut := Lib.hid hout
  clear h hK hd hout
  have B0 := Lib.hid (balloc (Below.refl w.heap.size w) (.cells #[.int .i64 W, .slice A rows.length c] 25))
  have R0 := Lib.hid ((Row.new w 25 #[.int .i64 W, .slice A rows.length c]))
  obtain ⟨t, ht⟩ : ∃ t : Bool, t = true ↔ TabOk W rows := ⟨_, @decide_eq_true_iff _ (Classical.propDecidable _)⟩
  have HT := Lib.hid (specValidTable_ok W A c rows _ (by unfold maxLen; omega) (HH.out.1.on B0.out) t ht)
  have Ht := Lib.hid ht
  clear ht
  cases t
  · have hdf : d = false := bfalse Hd.out fun h => absurd (Ht.out.2 h.1) (by simp)
    subst hdf
    obtain rfl : [] = out := HOut.out
    go_enter Try.func38, Try.ntmps38
    go_wp2_with fail
    refine HT.out.mono ?_
    rintro e w1 ⟨rfl, hb1⟩
    go_wp2
    go_ret
    exact ⟨_, [], rfl, Ow.nil, RowsT.nil, bch B0.out hb1⟩
  · have hto := Ht.out.1 rfl
    have Hto := Lib.hid hto
    obtain ⟨q, hq⟩ : ∃ q : Bool, q = true ↔ (KeysOk W keys ∧ 1 ≤ W ∧ W ≤ 6) := ⟨_, @decide_eq_true_iff _ (Classical.propDecidable _)⟩
    have HKs := Lib.hid (fun (z : World) (hz : Below w.heap.size w z) => specValidKeys_ok AK cK keys W z (by have := HN.out.2; unfold maxLen; omega) (by have := hto.1; omega) (by have := hto.2.1; omega) (HH.out.2.on hz) q hq)
    have Hq := Lib.hid hq
    clear hq hto
    cases q
    · have hdf : d = false := bfalse Hd.out fun h => absurd (Hq.out.2 ⟨h.2.1, Hto.out.1, Hto.out.2.1⟩) (by simp)
      subst hdf
      obtain rfl : [] = out := HOut.out
      go_enter Try.func38, Try.ntmps38
      go_wp2_with fail
      refine HT.out.mono ?_
      rintro e w1 ⟨rfl, hb1⟩
      have r1 := R0.out.on hb1
      have e0 : w1.cell? ⟨w.heap.size, 0, none⟩ = some (.int .i64 W) := r1.cell 0
      have e1 : w1.cell? ⟨w.heap.size, 1, none⟩ = some (.slice A rows.length c) := r1.cell 1
      have H1 := Lib.hid (bch B0.out hb1)
      clear hb1 r1
      go_wp2_with fail
      refine (HKs.out _ H1.out).mono ?_
      rintro e w2 ⟨rfl, hb2⟩
      go_wp2
      go_ret
      exact ⟨_, [], rfl, Ow.nil, RowsT.nil, bch H1.out hb2⟩
    · have hko := (Hq.out.1 rfl).1
      have Hko := Lib.hid hko
      clear hko
      go_enter Try.func38, Try.ntmps38
      go_wp2_with fail
      refine HT.out.mono ?_
      rintro e w1 ⟨rfl, hb1⟩
      have r1 := R0.out.on hb1
      have e0 : w1.cell? ⟨w.heap.size, 0, none⟩ = some (.int .i64 W) := r1.cell 0
      have e1 : w1.cell? ⟨w.heap.size, 1, none⟩ = some (.slice A rows.length c) := r1.cell 1
      have R1 := Lib.hid r1
      have H1 := Lib.hid (bch B0.out hb1)
      clear hb1 r1
      go_wp2_with fail
      refine (HKs.out _ H1.out).mono ?_
      rintro e w2 ⟨rfl, hb2⟩
      have r2 := R1.out.on hb2
      have e0' : w2.cell? ⟨w.heap.size, 0, none⟩ = some (.int .i64 W) := r2.cell 0
      have e1' : w2.cell? ⟨w.heap.size, 1, none⟩ = some (.slice A rows.length c) := r2.cell 1
      have H2 := Lib.hid (bch H1.out hb2)
      clear hb2 r2
      by_cases hN : N < 0
      · have hdf : d = false := bfalse Hd.out fun h => absurd h.2.2 (by omega)
        subst hdf
        obtain rfl : [] = out := HOut.out
        go_wp2
        go_ret
        exact ⟨_, [], rfl, Ow.nil, RowsT.nil, H2.out⟩
      · have hN0 : 0 ≤ N := by omega
        have hdt : d = true := Hd.out.2 ⟨Hto.out, Hko.out, hN0⟩
        subst hdt
        have Hout := Lib.hid (show (sortK keys rows).take N.toNat = out from HOut.out)
        clear HOut
        go_wp2_with fail
        refine (specSortRows_ok A AK c cK rows keys W w2 HN.out.1 HN.out.2 (HH.out.1.on H2.out) (HH.out.2.on H2.out) (TabOk.allRows Hto.out) Hko.out).mono ?_
        rintro e w3 ⟨v, svs, rfl, how, hrt, hb3⟩
        obtain ⟨A3, c3, rfl, hc31, hc32, _⟩ := how.shape svC_length
        have hsl : svs.length = rows.length := by have := hrt.1; rw [sortK_length] at this; exact this
        have hsv : svs.length ≤ 1048576 := by have := HN.out.1; omega
        have hz := H2.out.size
        have HF := Lib.hid (show ∀ k, k ≤ svs.length → (sortK keys rows).take k = out → SomeRows out w (.returned (.slice A3 k c3)) w3 from fun k hk he =>
          ⟨_, svs.take k, rfl, (owCut svC_length how hk).low hz, by rw [← he]; exact (hrt.take k).low hz, bch H2.out hb3⟩)
        have HSL := Lib.hid hsl
        clear how hrt hb3 hsl
        by_cases hle : N ≤ svs.length
        · obtain ⟨k, rfl⟩ := Int.eq_ofNat_of_zero_le hN0
          have hk1 : k ≤ svs.length := by omega
          have hk2 : ¬ ((svs.length : Int) < (k : Int)) := by omega
          have hk3 : k ≤ c3 := by omega
          go_wp2
          go_ret
          exact HF.out k hk1 (by rw [← Hout.out]; rfl)
        · have hk2 : (svs.length : Int) < N := by omega
          have hk3 : ¬ (N ≤ (svs.length : Int)) := by omega
          go_wp2
          go_ret
          exact HF.out svs.length (Nat.le_refl _) (by
            have hl : (sortK keys rows).length = svs.length := by rw [sortK_length, HSL.out]
            rw [← Hout.out, List.take_of_length_le (by omega), List.take_of_length_le (by omega)])
end Go.Proofs.Ytldndapcbgaliaa
