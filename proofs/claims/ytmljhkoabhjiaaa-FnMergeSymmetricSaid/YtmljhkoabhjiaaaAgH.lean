/-
  Contract of the drawing of two values and a number: DrawMergeAggregates.
-/
import Derived.Test.YtmljhkoabhjiaaaProg
import Derived.Test.YtmljhkoabhjiaaaAgG
import Derived.Deep.RegionHeld3
import Derived.Deep.DeepCutAuto
namespace Go.Proofs.Ytmljhkoabhjiaaa
open Go.RowKit Go.Qo
set_option linter.unusedVariables false
set_option linter.unusedSimpArgs false

theorem below_put2 {B b : Nat} {a z : World} (h : Below B a z) (hb : B ≤ b) (u u' : Value) : Below B a ((z.setCell ⟨b, 0, none⟩ u).setCell ⟨b, 1, none⟩ u') := (h.setCell hb _).setCell hb _
set_option maxRecDepth 20000 in
set_option maxHeartbeats 2000000 in
theorem drawMerge_ok (A : Option Addr) (c : Nat) (xs : List Int) (w : World) (hn : xs.length ≤ c) (hc : c ≤ maxLen) (hg : ∀ x ∈ xs, 0 ≤ x ∧ x ≤ 255) (hs : Sl 1 byteC w w.heap.size A xs) :
    Calls Try.prog 25 #[.slice A xs.length c] w fun e w' => ∃ (x y : Val) (k : Int), e = .returned (.tuple #[.agg #[.bool x.1, .int .i64 x.2], .agg #[.bool y.1, .int .i64 y.2], .int .i64 k]) ∧ Below w.heap.size w w' := by
  obtain ⟨W2, hW2⟩ : ∃ W2, (w.alloc (.cells #[.bool false, .int .i64 0] 25)).alloc (.cells #[.bool false, .int .i64 0] 25) = W2 := ⟨_, rfl⟩
  have hB2 : Below w.heap.size w W2 := by rw [← hW2]; exact balloc (balloc (Below.refl _ _) _) _
  have hR0 : Row W2 w.heap.size 25 [.bool false, .int .i64 0] := by rw [← hW2]; exact Row.first _ _ _ _
  have hR1 : Row W2 (w.heap.size + 1) 25 [.bool false, .int .i64 0] := by rw [← hW2]; exact Row.second _ _ _ _
  have hsz2 : W2.heap.size = w.heap.size + 1 + 1 := by rw [← hW2]; simp
  obtain ⟨b, hbe⟩ : ∃ b, W2.heap.size = b := ⟨_, rfl⟩
  have HN := newReader_ok A c xs W2 hn hc hg (hs.on hB2)
  rw [hbe] at HN
  have HN := Lib.hid HN
  have hbw : w.heap.size + 1 + 1 = b := by omega
  have HBE := Lib.hid (And.intro hbe hbw)
  have HW := Lib.hid hW2
  have H2 := Lib.hid (And.intro hB2 (And.intro hR0 hR1))
  clear hs hg hc hn hbe hbw hW2 hB2 hR0 hR1 hsz2
  go_enter Try.func25, Try.ntmps25
  go_upto_region 1 with fail
  rw [HW.out]
  go_wp2_with fail
  refine HN.out.mono ?_
  rintro e w1 ⟨rfl, hb1, hRd1⟩
  have HV := Lib.hid (anyValue_ok b 0 w1 hRd1 (by omega))
  have H1 := Lib.hid (show Below W2.heap.size W2 w1 by rw [HBE.out.1]; exact hb1)
  have hlt1 := hRd1.lt
  clear hb1 hRd1
  go_wp2_with fail
  refine HV.out.mono ?_
  rintro e w2 ⟨x, rfl, _, hb2, hRd2⟩
  have HV2 := Lib.hid (anyValue_ok b (0 + 4) (w2.alloc (.cells #[.bool x.1, .int .i64 x.2] 25)) (hRd2.on (balloc (Below.refl _ _) _)) (by omega))
  have O2 := Lib.hid (And.intro hb2 (Row.new w2 25 #[.bool x.1, .int .i64 x.2]))
  have hlt2 := hRd2.lt
  clear hb2 hRd2
  go_wp2_with fail
  refine HV2.out.mono ?_
  rintro e w3 ⟨y, rfl, _, hb3, hRd3⟩
  obtain ⟨W4, hW4⟩ : ∃ W4, w3.alloc (.cells #[.bool y.1, .int .i64 y.2] 25) = W4 := ⟨_, rfl⟩
  have hz3 := hb3.size
  rw [World.size_alloc] at hz3
  have O4 : Only (fun i => i = b) W2 W4 := by
    rw [← hW4]
    exact ((((only_below H1.out).trans O2.out.1).alloc _).trans hb3).alloc _
  have R4x : Row W4 w2.heap.size 25 [.bool x.1, .int .i64 x.2] := by
    rw [← hW4]; exact (O2.out.2.only hb3 (by omega)).alloc _
  have R4y : Row W4 w3.heap.size 25 [.bool y.1, .int .i64 y.2] := by
    rw [← hW4]; exact Row.new w3 _ _
  have hRd4 : Rd W4 b 8 := by rw [← hW4]; exact hRd3.on (balloc (Below.refl _ _) _)
  have hlt4 := hRd4.lt
  have HO := Lib.hid (one_ok b 8 (some ⟨W4.heap.size, 0, none⟩) 7 [1, 2, 3, 4, 5, 0, 6] (W4.drew.alloc (.cells ([1, 2, 3, 4, 5, 0, 6].map (Value.int .i64)).toArray 3)) ((hRd4.on (Below.refl _ _).drew).on (balloc (Below.refl _ _) _)) (by omega) (by decide) (by decide) (ints5 W4.drew [1, 2, 3, 4, 5, 0, 6] 3) (by rintro a ha; cases ha; exact (show W4.heap.size ≠ b by omega)))
  have KX := Lib.hid (fun (z : World) (hz : Only (fun i => i ≤ b) W4 z) => show (z.cell? ⟨w2.heap.size, 0, none⟩ = some (.bool x.1) ∧ z.cell? ⟨w2.heap.size, 1, none⟩ = some (.int .i64 x.2) ∧ z.cell? ⟨w3.heap.size, 0, none⟩ = some (.bool y.1) ∧ z.cell? ⟨w3.heap.size, 1, none⟩ = some (.int .i64 y.2))
    from ⟨(R4x.only hz (by omega)).cell 0, (R4x.only hz (by omega)).cell 1, (R4y.only hz (by omega)).cell 0, (R4y.only hz (by omega)).cell 1⟩)
  have HR := Lib.hid (And.intro (H2.out.2.1.only O4 (by have := HBE.out.2; omega)) (H2.out.2.2.only O4 (by have := HBE.out.2; omega)))
  have HO4 := Lib.hid O4
  have HW4 := Lib.hid hW4
  have D4 := Lib.hid (show Only (fun i => i ≤ b) W4 W4.drew from (Only.refl _).drew)
  have x4 := KX.out _ D4.out
  clear hb3 hRd3 hW4 O4 R4x R4y hRd4
  go_upto_region 4 with fail
  rw [HW4.out]
  go_region_held3 (fun z => z.cell? ⟨w2.heap.size, 0, none⟩ = some (.bool x.1) ∧ z.cell? ⟨w2.heap.size, 1, none⟩ = some (.int .i64 x.2) ∧ z.cell? ⟨w3.heap.size, 0, none⟩ = some (.bool y.1) ∧ z.cell? ⟨w3.heap.size, 1, none⟩ = some (.int .i64 y.2))
    (first
      | assumption
      | exact KX.out _ (D4.out.alloc _)
      | exact KX.out _ ((H5.out.set (p := ⟨w.heap.size, 0, none⟩) (.inl (show w.heap.size ≤ b by have := HBE.out.2; omega)) _).set (p := ⟨w.heap.size, 1, none⟩) (.inl (show w.heap.size ≤ b by have := HBE.out.2; omega)) _)
      | exact KX.out _ ((H5.out.set (p := ⟨w.heap.size + 1, 0, none⟩) (.inl (show w.heap.size + 1 ≤ b by have := HBE.out.2; omega)) _).set (p := ⟨w.heap.size + 1, 1, none⟩) (.inl (show w.heap.size + 1 ≤ b by have := HBE.out.2; omega)) _)
      | exact KX.out _ ((((H5.out.set (p := ⟨w.heap.size, 0, none⟩) (.inl (show w.heap.size ≤ b by have := HBE.out.2; omega)) _).set (p := ⟨w.heap.size, 1, none⟩) (.inl (show w.heap.size ≤ b by have := HBE.out.2; omega)) _).set (p := ⟨w.heap.size + 1, 0, none⟩) (.inl (show w.heap.size + 1 ≤ b by have := HBE.out.2; omega)) _).set (p := ⟨w.heap.size + 1, 1, none⟩) (.inl (show w.heap.size + 1 ≤ b by have := HBE.out.2; omega)) _)
      | exact KX.out _ ((((H5.out.set (p := ⟨w.heap.size + 1, 0, none⟩) (.inl (show w.heap.size + 1 ≤ b by have := HBE.out.2; omega)) _).set (p := ⟨w.heap.size + 1, 1, none⟩) (.inl (show w.heap.size + 1 ≤ b by have := HBE.out.2; omega)) _).set (p := ⟨w.heap.size, 0, none⟩) (.inl (show w.heap.size ≤ b by have := HBE.out.2; omega)) _).set (p := ⟨w.heap.size, 1, none⟩) (.inl (show w.heap.size ≤ b by have := HBE.out.2; omega)) _))
    (first
      | (go_at_call 62; refine HO.out.mono ?_; rintro e w5 ⟨k, rfl, _, hb5, _, _⟩; have H5 := Lib.hid ((D4.out.alloc (.cells ([1, 2, 3, 4, 5, 0, 6].map (Value.int .i64)).toArray 3)).trans (hb5.mono (fun i _ hi => show i ≤ b by omega))); have x5 := KX.out _ H5.out; have HB5 := Lib.hid (((HO4.out.drew).alloc (.cells ([1, 2, 3, 4, 5, 0, 6].map (Value.int .i64)).toArray 3)).trans hb5); have r0 := (HR.out.1.drew.alloc (.cells ([1, 2, 3, 4, 5, 0, 6].map (Value.int .i64)).toArray 3)).only hb5 (by have := HBE.out.2; omega); have r1 := (HR.out.2.drew.alloc (.cells ([1, 2, 3, 4, 5, 0, 6].map (Value.int .i64)).toArray 3)).only hb5 (by have := HBE.out.2; omega); have q0 := r0.lt; have q1 := r0.frozen 0; have q2 := r0.frozen 1; have q3 := (show _ = some (Value.bool false) from r0.cell 0); have q4 := (show _ = some (Value.int .i64 0) from r0.cell 1); have q5 := r1.lt; have q6 := r1.frozen 0; have q7 := r1.frozen 1; have q8 := (show _ = some (Value.bool false) from r1.cell 0); have q9 := (show _ = some (Value.int .i64 0) from r1.cell 1); clear hb5 r0 r1))
  all_goals
    go_wp2_with fail
    have hwb := HBE.out.2
    have hB := Lib.hid (below_put2 (below_put2 (Only.from_ H2.out.1 rfl HB5.out (by intro i hi; omega)) (Nat.le_refl _) (.bool x.1) (.int .i64 x.2)) (show w.heap.size ≤ w.heap.size + 1 by omega) (.bool y.1) (.int .i64 y.2))
    refine bodyPost_ret (v := .tuple #[.agg #[.bool x.1, .int .i64 x.2], .agg #[.bool y.1, .int .i64 y.2], .int .i64 k]) (by simp [results, Try.results25, go_sem, q0, q1, q2, q3, q4, q5, q6, q7, q8, q9]) rfl ⟨x, y, k, rfl, ?_⟩
    exact hB.out

end Go.Proofs.Ytmljhkoabhjiaaa
