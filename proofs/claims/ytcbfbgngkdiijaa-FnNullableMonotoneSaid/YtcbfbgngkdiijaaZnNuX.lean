/-
  Contract: which columns may be null behind a filter, as the program computes it (nullableAfterFilter).
-/
import Derived.Test.YtcbfbgngkdiijaaProg
import Derived.Test.YtcbfbgngkdiijaaZnNuR
import Derived.Test.YtcbfbgngkdiijaaZnNuW
import Derived.Test.YtcbfbgngkdiijaaZnNuI
namespace Go.Proofs.Ytcbfbgngkdiijaa
open Go.RowKit Go.Qo
set_option linter.unusedVariables false
set_option linter.unusedSimpArgs false

/-- The cells at b, o hold the plan p. -/
structure PnAt (w : World) (b o : Nat) (f : FP) (p : Pl) : Prop where
  lt : b < w.heap.size
  at_ : FpAt w b o f
  in_ : PlIn w w.heap.size f p
theorem PnAt.on {w w' : World} {b o : Nat} {f : FP} {p : Pl} (h : PnAt w b o f p) (hb : Below w.heap.size w w') : PnAt w' b o f p :=
  ⟨Nat.lt_of_lt_of_le h.lt hb.size, ⟨(hb.cell (p := ⟨_, _, none⟩) h.lt).trans h.at_.1, (hb.cell (p := ⟨_, _, none⟩) h.lt).trans h.at_.2.1, (hb.cell (p := ⟨_, _, none⟩) h.lt).trans h.at_.2.2.1, (hb.cell (p := ⟨_, _, none⟩) h.lt).trans h.at_.2.2.2.1, (hb.cell (p := ⟨_, _, none⟩) h.lt).trans h.at_.2.2.2.2⟩, h.in_.on hb⟩
theorem PnAt.cells {w : World} {b o : Nat} {f : FP} {p : Pl} (h : PnAt w b o f p) : w.cell? ⟨b, o, none⟩ = some (.int .i64 p.kind) ∧ w.cell? ⟨b, o + 1, none⟩ = some (.int .i64 p.table) ∧ w.cell? ⟨b, o + 2, none⟩ = some (.slice f.es.A p.exprs.length f.es.c) ∧ w.cell? ⟨b, o + 3, none⟩ = some (.slice f.cs.A p.cols.length f.cs.c) ∧ w.cell? ⟨b, o + 4, none⟩ = some (.slice f.ks.A p.kids.length f.ks.c) := by
  obtain ⟨a1, a2, ⟨a3, _, _⟩, ⟨a4, _, _⟩, ⟨a5, _, _⟩, _, _⟩ := h.in_.flat
  obtain ⟨c0, c1, c2, c3, c4⟩ := h.at_
  rw [a1] at c0
  rw [a2] at c1
  rw [a3] at c2
  rw [a4] at c3
  rw [a5] at c4
  exact ⟨c0, c1, c2, c3, c4⟩
theorem ow_of_row {α : Type} {lo b : Nat} {t : TypeId} {sz : Nat} {enc : α → List Value} {w : World} {L : List α} (he : ∀ x, (enc x).length = sz) (hr : Row w b t (L.flatMap enc)) (hl : lo ≤ b) (hm : L.length ≤ maxLen) : Ow lo t sz enc w (.slice (some ⟨b, 0, none⟩) L.length L.length) L :=
  ⟨flat_length sz enc he L, .inr ⟨b, L.length, _, rfl, hl, hr, Nat.le_refl _, hm, by simp [flat_length sz enc he L], by simp; rw [List.take_of_length_le (by rw [flat_length sz enc he L]; omega)]⟩⟩
theorem filled_false {L : List Bool} {k : Nat} (h : L[k]? = some false) : filled boolC [.bool false] L (k + 1) = filled boolC [.bool false] L k := by
  have hk : k < L.length := (List.getElem?_eq_some_iff.1 h).1
  have h1 := filled_next 1 boolC boolC_length [.bool false] rfl L h
  rw [← h1, Nat.mul_one]
  show (filled boolC [.bool false] L k).set k (.bool false) = _
  have hl : ((L.take k).flatMap boolC).length = k := by rw [flat_length 1 boolC boolC_length, List.length_take]; omega
  have h2 : (filled boolC [.bool false] L k)[k]? = some (.bool false) := by
    unfold filled
    rw [List.getElem?_append_right (by omega), hl, Nat.sub_self, zeros_get _ _ _ (by simp; omega)]
    rfl
  apply List.ext_getElem?
  intro j
  rw [List.getElem?_set]
  split
  · rename_i hj
    subst hj
    rw [h2]
    split
    · rfl
    · rename_i h3; rw [List.getElem?_eq_none (by omega)] at h2; cases h2
  · rfl
theorem intC_at (xs : List Int) (i : Nat) (h : i < xs.length) : (xs.flatMap intC)[i]? = some (.int .i64 xs[i]) := by
  rw [show (xs.flatMap intC) = xs.map (Value.int .i64) from by clear h; induction xs with | nil => rfl | cons a l ih => simp [intC]; exact ih ]
  rw [List.getElem?_map, List.getElem?_eq_getElem h]; rfl

set_option maxRecDepth 20000 in
set_option maxHeartbeats 4000000 in
theorem nullableAfterFilter_ok (p : Pl) (f : FP) (b o : Nat) (A : Option Addr) (c : Nat) (xs : List Bool) (w : World) (hp : PnAt w b o f p) (hx6 : xs.length ≤ 6) (h0 : 0 < p.exprs.length) (hex : ExOk (xs.length : Int) 8 p.exprs[0]) (hs : Sl 1 boolC w w.heap.size A xs) :
    Calls Try.prog 33 #[.pointer (some ⟨b, o, none⟩), .slice A xs.length c] w (OwnB (filN p.exprs[0] xs) w) := by
  have hmk := run_make_rowN (P := Try.prog) 31 4 _ _ _ Try.underlying31 zeroBoolN .i64 .i64 xs.length (by omega) (by omega)
  have hyl : (filN p.exprs[0] xs).length = xs.length := filN_len
  obtain ⟨L, hL⟩ : ∃ l, filN p.exprs[0] xs = l := ⟨_, rfl⟩
  have HL := Lib.hid (show ∀ i (hi : i < xs.length), L[i]? = some (xs[i] && Qo.has (outc ((stsOf xs).set i 4) p.exprs[0]) 2) by
    intro i hi
    rw [← hL]
    unfold filN
    rw [List.getElem?_map, List.getElem?_range hi]
    have e : xs.getD i false = xs[i] := by rw [List.getD_eq_getElem?_getD, List.getElem?_eq_getElem hi]; rfl
    rw [← e]
    rfl)
  rw [hL] at hyl ⊢
  have HS := Lib.hid hs
  have HP := Lib.hid hp
  have HEX := Lib.hid hex
  have h0I : (0 : Int) < (p.exprs.length : Int) := by omega
  have HY := Lib.hid hyl
  clear hs hp hex hL hyl
  go_enter Try.func33, Try.ntmps33
  go_wp2
  go_loopg [13] (xs.length) (fun g i wr => ∃ k : Nat, k ≤ xs.length ∧ g = xs.length - k ∧ i = .int .i64 k ∧ Below w.heap.size w wr ∧ Row wr w.heap.size 4 (filled boolC [.bool false] L k))
  case atStart =>
    exact ⟨0, by omega, by omega, rfl, balloc (Below.refl _ _) _, (Row.new _ _ _).of (by have h1 := (made_zeros [Value.bool false] L.length).trans (filled_zero boolC [Value.bool false] L).symm; rw [HY.out, show xs.length * [Value.bool false].length = xs.length from Nat.mul_one _] at h1; exact h1)⟩
  case round =>
    obtain ⟨k, hk, rfl, rfl, hb, hrow⟩ := hrel
    have HB := Lib.hid hb
    have HRow := Lib.hid hrow
    clear hb hrow
    by_cases hlt : k < xs.length
    · have hltI : (k : Int) < (xs.length : Int) := by omega
      obtain ⟨b0, o0', rfl, hB0, e0⟩ := Sl.at1 (f := fun x : Bool => Value.bool x) (HS.out.on HB.out) hlt
      have HLk := Lib.hid (HL.out k hlt)
      obtain ⟨q, hq⟩ : ∃ q, xs[k] = q := ⟨_, rfl⟩
      rw [hq] at e0 HLk
      clear hq
      cases q
      · go_wp2
        go_roundg (xs.length - (k + 1))
        case measure => omega
        case rel => exact ⟨k + 1, by omega, rfl, by go_num, HB.out, HRow.out.of (filled_false HLk.out).symm⟩
      · go_wp2_with fail
        refine (implStatesOf_ok _ _ xs _ (by omega) (HS.out.on HB.out)).mono ?_
        rintro e' w3 ⟨rfl, hb3, r3⟩
        have hle : (stsI xs).length = xs.length := stsI_len xs
        have e3 := (r3.cell k).trans (intC_at (stsI xs) k (by omega))
        have f3 := r3.frozen k
        have l3 := r3.lt
        obtain ⟨W4, hW4⟩ : ∃ z, w3.setCell ⟨wr.heap.size, k, none⟩ (.int .i64 4) = z := ⟨_, rfl⟩
        have r4 : Row W4 wr.heap.size 3 (((stsI xs).set k 4).flatMap intC) := by rw [← hW4, ← flat_setI]; exact r3.set k _
        have hb4 : Below wr.heap.size wr W4 := by rw [← hW4]; exact hb3.setCell (p := ⟨wr.heap.size, k, none⟩) (Nat.le_refl _) _
        have HB4 := Lib.hid hb4
        have HSS := Lib.hid (show Sl 1 intC W4 W4.heap.size (some ⟨wr.heap.size, 0, none⟩) (stI ((stsOf xs).set k 4)) by
          rw [stI_set, stI_of]
          exact Row.sl' (t := 3) intC_length r4)
        have HW4 := Lib.hid hW4
        clear hb3 hb4 hW4 r3 r4
        go_upto_region 8 with fail
        rw [HW4.out]
        have hp4 := (HP.out.on HB.out).on HB4.out
        obtain ⟨c0, c1, c2, c3, c4⟩ := hp4.cells
        obtain ⟨bx, ox, gx, hAx, hBx, hxat, hx⟩ := (hp4.in_.flat.2.2.2.2.2.1).at_ h0
        rw [hAx] at c2
        simp only [Nat.zero_mul, Nat.add_zero] at hxat
        have hl6 : ((stsOf xs).set k 4).length = xs.length := by rw [List.length_set, stsOf_len]
        have HOC := Lib.hid (implOutcomes_ok p.exprs[0] gx bx ox ((stsOf xs).set k 4) (some ⟨wr.heap.size, 0, none⟩) xs.length 8 W4 hBx hxat hx (by rw [hl6]; exact HEX.out) (by rw [hl6]; omega) ((stsOf_8 xs).set k 4 (by decide)) HSS.out)
        have ho8 := ((stsOf_8 xs).set k 4 (by decide)).outc p.exprs[0]
        rw [hl6] at HOC
        obtain ⟨oc, hoc⟩ : ∃ n, outc ((stsOf xs).set k 4) p.exprs[0] = n := ⟨_, rfl⟩
        rw [hoc] at HOC ho8 HLk
        have ha2 := and2 ho8
        obtain ⟨r, hr⟩ : ∃ r, Qo.has oc 2 = r := ⟨_, rfl⟩
        rw [hr] at ha2 HLk
        rw [Bool.true_and] at HLk
        clear hx hAx hl6 hoc hr hxat hp4 e0 e3 f3 l3 hle
        go_wp2_with fail
        refine HOC.out.mono ?_
        rintro e' w6 ⟨rfl, hb6⟩
        have HB6 := Lib.hid (bch HB4.out hb6)
        have r6 := HRow.out.on HB6.out
        have HR6 := Lib.hid r6
        have hlen := filled_length 1 boolC boolC_length [.bool false] rfl L (k := k) (by have := HY.out; omega)
        obtain ⟨v1, hv1⟩ : ∃ v, (filled boolC [.bool false] L k)[k]? = some v := ⟨_, List.getElem?_eq_getElem (by have := HY.out; omega)⟩
        have e1 : w6.cell? ⟨w.heap.size, k, none⟩ = some v1 := (r6.cell k).trans hv1
        have e2 := r6.frozen k
        have e4 := r6.lt
        clear hb6 hlen hv1 r6 c0 c1 c2 c3 c4
        go_wp2
        go_roundg (xs.length - (k + 1))
        case measure => omega
        case rel =>
          exact ⟨k + 1, by omega, rfl, by go_num, (bch HB.out HB6.out).setCell (p := ⟨_, _, none⟩) (Nat.le_refl _) _,
            (HR6.out.set _ _).of (by have := filled_next 1 boolC boolC_length [.bool false] rfl L HLk.out; simpa [over, boolC] using this)⟩
    · have hltI : ¬ (k : Int) < (xs.length : Int) := by omega
      have HRF := Lib.hid (HRow.out.of (filled_all _ _ _ (by have := HY.out; omega)))
      have HOF := Lib.hid (ow_of_row (lo := w.heap.size) boolC_length HRF.out (Nat.le_refl _) (by have := HY.out; unfold maxLen; omega))
      rw [HY.out] at HOF
      go_wp2
      go_ret
      exact ⟨_, rfl, HOF.out, HB.out⟩
end Go.Proofs.Ytcbfbgngkdiijaa
