/-
  Contract of DrawIsSubtable.
-/
import Derived.Test.YtfjpmifdmpoocaaProg
import Derived.Test.YtfjpmifdmpoocaaDraT
import Derived.Test.YtfjpmifdmpoocaaBag
import Derived.Test.YtfjpmifdmpoocaaTwo
namespace Go.Proofs.Ytfjpmifdmpoocaa
open Go.RowKit Go.Qo
set_option linter.unusedVariables false
set_option linter.unusedSimpArgs false

theorem resDIsub {b b' : Nat} {v0 v1 v2 v3 : Value} (tmps : Array Value) (hp : tmps.getD 2 undef = .pointer (some ⟨b, 0, none⟩)) (hp' : tmps.getD 3 undef = .pointer (some ⟨b', 0, none⟩)) (w : World) (c0 : w.cell? ⟨b, 0, none⟩ = some v0) (c1 : w.cell? ⟨b, 1, none⟩ = some v1) (c2 : w.cell? ⟨b', 0, none⟩ = some v2) (c3 : w.cell? ⟨b', 1, none⟩ = some v3) :
    (results Try.f15 tmps).run Try.prog w = .ok (.tuple #[.agg #[v0, v1], .agg #[v2, v3]]) w := by
  simp only [Array.getD_eq_getD_getElem?] at hp hp'
  simp [results, Try.results15, go_sem, hp, hp', c0, c1, c2, c3]
set_option maxRecDepth 20000 in
set_option maxHeartbeats 4000000 in
theorem drawIsSubtable_ok (A : Option Addr) (c : Nat) (xs : List Int) (w : World) (hn : xs.length ≤ c) (hc : c ≤ maxLen) (hg : ∀ x ∈ xs, 0 ≤ x ∧ x ≤ 255) (hs : Sl 1 byteC w w.heap.size A xs) :
    Calls Try.prog 15 #[.slice A xs.length c] w fun e w' => ∃ W1 v1 W2 v2, e = .returned (.tuple #[.agg #[.int .i64 W1, v1], .agg #[.int .i64 W2, v2]]) ∧ DrawnTT w W1 v1 W2 v2 w' := by
  obtain ⟨W0, hW0⟩ : ∃ z, (w.alloc (.cells #[.int .i64 0, .slice none 0 0] 25)).alloc (.cells #[.int .i64 0, .slice none 0 0] 25) = z := ⟨_, rfl⟩
  have B0 : Below w.heap.size w W0 := by rw [← hW0]; exact balloc (balloc (Below.refl _ _) _) _
  have r1 : Row W0 w.heap.size 25 [.int .i64 0, .slice none 0 0] := by rw [← hW0]; exact Row.first _ _ _ _
  have r2 : Row W0 (w.heap.size + 1) 25 [.int .i64 0, .slice none 0 0] := by rw [← hW0]; exact Row.second _ _ _ _
  have HW := Lib.hid hW0
  have HB0 := Lib.hid (And.intro B0 (And.intro r1 r2))
  have HN := newReader_ok A c xs W0 hn hc hg (hs.on B0)
  obtain ⟨b, hbe⟩ : ∃ b, W0.heap.size = b := ⟨_, rfl⟩
  have hbe' : w.heap.size + 2 ≤ b := by have := r2.lt; omega
  rw [hbe] at HN
  have HN := Lib.hid HN
  have Hbe := Lib.hid hbe
  clear hs hg hc hn hbe B0 r1 r2 hW0
  go_enter Try.func15, Try.ntmps15
  go_upto_region 1 with fail
  rw [HW.out]
  go_wp2_with fail
  refine HN.out.mono ?_
  rintro e w1 ⟨rfl, hb1, hR1⟩
  have hb1 : Below W0.heap.size W0 w1 := by rw [Hbe.out]; exact hb1
  have HT := Lib.hid (twoTables_ok b 0 w1 hR1 (by omega))
  have H1 := Lib.hid (bch HB0.out.1 hb1)
  have R1 := Lib.hid (And.intro (HB0.out.2.1.on hb1) (HB0.out.2.2.on hb1))
  have hl1 := hR1.lt
  clear hb1 hR1
  go_wp2_with fail
  refine HT.out.mono ?_
  rintro e w2 ⟨W1, v1, svs1, rows1, W2, v2, svs2, rows2, rfl, hd1, hd2, hb2, hR2⟩
  obtain ⟨A1, c1, rfl, hc11, hc12, _⟩ := hd1.2.2.2.1.shape svC_length
  obtain ⟨A2, c2, rfl, _, _, _⟩ := hd2.2.2.2.1.shape svC_length
  have r1 := R1.out.1.only hb2 (by omega)
  have r2 := R1.out.2.only hb2 (by omega)
  have hl2 := hR2.lt
  have hz2 := H1.out.size
  have H2 := Lib.hid (show Below w.heap.size w w2 from Only.from_ H1.out rfl hb2 (by intro i hi; omega))
  obtain ⟨W4, hW4⟩ : ∃ z, (w2.alloc (.cells #[.int .i64 W1, .slice A1 svs1.length c1] 25)).alloc (.cells #[.int .i64 W2, .slice A2 svs2.length c2] 25) = z := ⟨_, rfl⟩
  have hb4 : Below w2.heap.size w2 W4 := by rw [← hW4]; exact balloc (balloc (Below.refl _ _) _) _
  have r3 : Row W4 w2.heap.size 25 [.int .i64 W1, .slice A1 svs1.length c1] := by rw [← hW4]; exact Row.first _ _ _ _
  have r4 : Row W4 (w2.heap.size + 1) 25 [.int .i64 W2, .slice A2 svs2.length c2] := by rw [← hW4]; exact Row.second _ _ _ _
  have HD := Lib.hid (show DrTab w1.heap.size W4 W1 (.slice A1 svs1.length c1) svs1 rows1 ∧ DrTab w1.heap.size W4 W2 (.slice A2 svs2.length c2) svs2 rows2 from ⟨hd1.on hb4, hd2.on hb4⟩)
  have HR4 := Lib.hid (And.intro (r1.on hb4) (And.intro (r2.on hb4) (And.intro r3 r4)))
  have HP4 := Lib.hid (pick_ok b (0 + 40000) 2 W4 (hR2.on hb4) (by omega))
  have H4 := Lib.hid (bch H2.out hb4)
  have HC1 := Lib.hid (And.intro hc11 hc12)
  have HW4 := Lib.hid hW4
  clear hd1 hd2 hb2 hR2 r1 r2 r3 r4 hb4 hW4 hz2 hc11 hc12
  go_upto_region 3 with fail
  rw [HW4.out]
  go_wp2_with fail
  refine HP4.out.mono ?_
  rintro e w5 ⟨r5, rfl, hr5, hb5, hsz5, hR5⟩
  have hz5 := hb5.size
  have hz4 := H4.out.size
  have H5 := Lib.hid (show Below w.heap.size w w5 from Only.from_ H4.out rfl hb5 (by intro i hi; omega))
  have HR5 := Lib.hid (show Row w5 w.heap.size 25 [.int .i64 0, .slice none 0 0] ∧ Row w5 (w.heap.size + 1) 25 [.int .i64 0, .slice none 0 0] ∧ Row w5 w2.heap.size 25 [.int .i64 W1, .slice A1 svs1.length c1] ∧ Row w5 (w2.heap.size + 1) 25 [.int .i64 W2, .slice A2 svs2.length c2] from
    ⟨HR4.out.1.only hb5 (by omega), HR4.out.2.1.only hb5 (by omega), HR4.out.2.2.1.only hb5 (by omega), HR4.out.2.2.2.only hb5 (by omega)⟩)
  have HD5 := Lib.hid (show DrTab 0 w5 W1 (.slice A1 svs1.length c1) svs1 rows1 ∧ DrTab 0 w5 W2 (.slice A2 svs2.length c2) svs2 rows2 from
    ⟨(HD.out.1.only hb5 fun k hk => .inl (by omega)).low (Nat.zero_le _), (HD.out.2.only hb5 fun k hk => .inl (by omega)).low (Nat.zero_le _)⟩)
  clear hb5 hr5 hsz5 hR5
  have FIN : Hid (∀ (z : World) (V1 : Int) (u1 : Value) (s1 : List SV) (o1 : List Row1), Below w.heap.size w z → TyAt z w.heap.size 25 → TyAt z (w.heap.size + 1) 25 → DrTab 0 z V1 u1 s1 o1 → DrTab 0 z W2 (.slice A2 svs2.length c2) svs2 rows2 →
      ∀ (y : World), y = (((z.setCell ⟨w.heap.size, 0, none⟩ (.int .i64 V1)).setCell ⟨w.heap.size, 1, none⟩ u1).setCell ⟨w.heap.size + 1, 0, none⟩ (.int .i64 W2)).setCell ⟨w.heap.size + 1, 1, none⟩ (.slice A2 svs2.length c2) ∨ y = (((z.setCell ⟨w.heap.size + 1, 0, none⟩ (.int .i64 W2)).setCell ⟨w.heap.size + 1, 1, none⟩ (.slice A2 svs2.length c2)).setCell ⟨w.heap.size, 0, none⟩ (.int .i64 V1)).setCell ⟨w.heap.size, 1, none⟩ u1 ∨ y = ((((z.setCell ⟨w.heap.size, 0, none⟩ (.int .i64 V1)).setCell ⟨w.heap.size, 1, none⟩ u1).setCell ⟨w.heap.size + 1, 0, none⟩ (.int .i64 W2)).setCell ⟨w.heap.size + 1, 1, none⟩ (.slice A2 svs2.length c2)).drew ∨ y = ((((z.setCell ⟨w.heap.size + 1, 0, none⟩ (.int .i64 W2)).setCell ⟨w.heap.size + 1, 1, none⟩ (.slice A2 svs2.length c2)).setCell ⟨w.heap.size, 0, none⟩ (.int .i64 V1)).setCell ⟨w.heap.size, 1, none⟩ u1).drew → DrawnTT w V1 u1 W2 (.slice A2 svs2.length c2) y) := Lib.hid (by
    intro z V1 u1 s1 o1 hb t1 t2 h1 h2 y hy
    have hS : Only (fun i => i = w.heap.size ∨ i = w.heap.size + 1) z y := by
      rcases hy with rfl | rfl | rfl | rfl
      · exact ((((Only.refl z).set (p := ⟨w.heap.size, 0, none⟩) (.inl (.inl rfl)) _).set (p := ⟨w.heap.size, 1, none⟩) (.inl (.inl rfl)) _).set (p := ⟨w.heap.size + 1, 0, none⟩) (.inl (.inr rfl)) _).set (p := ⟨w.heap.size + 1, 1, none⟩) (.inl (.inr rfl)) _
      · exact ((((Only.refl z).set (p := ⟨w.heap.size + 1, 0, none⟩) (.inl (.inr rfl)) _).set (p := ⟨w.heap.size + 1, 1, none⟩) (.inl (.inr rfl)) _).set (p := ⟨w.heap.size, 0, none⟩) (.inl (.inl rfl)) _).set (p := ⟨w.heap.size, 1, none⟩) (.inl (.inl rfl)) _
      · exact Only.drew (((((Only.refl z).set (p := ⟨w.heap.size, 0, none⟩) (.inl (.inl rfl)) _).set (p := ⟨w.heap.size, 1, none⟩) (.inl (.inl rfl)) _).set (p := ⟨w.heap.size + 1, 0, none⟩) (.inl (.inr rfl)) _).set (p := ⟨w.heap.size + 1, 1, none⟩) (.inl (.inr rfl)) _)
      · exact Only.drew (((((Only.refl z).set (p := ⟨w.heap.size + 1, 0, none⟩) (.inl (.inr rfl)) _).set (p := ⟨w.heap.size + 1, 1, none⟩) (.inl (.inr rfl)) _).set (p := ⟨w.heap.size, 0, none⟩) (.inl (.inl rfl)) _).set (p := ⟨w.heap.size, 1, none⟩) (.inl (.inl rfl)) _)
    have hk : ∀ k, (k = w.heap.size ∨ k = w.heap.size + 1) → TyAt z k 25 := by rintro k (rfl | rfl); exact t1; exact t2
    exact ⟨s1, o1, svs2, rows2, h1.only hS fun k h => .inr (hk k h), h2.only hS fun k h => .inr (hk k h), Only.from_ hb rfl hS (by intro i hi; omega)⟩)
  have s0 : w5.cell? ⟨w2.heap.size, 0, none⟩ = some (.int .i64 W1) := HR5.out.2.2.1.cell 0
  have s1 : w5.cell? ⟨w2.heap.size, 1, none⟩ = some (.slice A1 svs1.length c1) := HR5.out.2.2.1.cell 1
  have s2 : w5.cell? ⟨w2.heap.size + 1, 0, none⟩ = some (.int .i64 W2) := HR5.out.2.2.2.cell 0
  have s3 : w5.cell? ⟨w2.heap.size + 1, 1, none⟩ = some (.slice A2 svs2.length c2) := HR5.out.2.2.2.cell 1
  have u0 := HR5.out.1.cell 0
  have u1 := HR5.out.1.cell 1
  have u2 := HR5.out.1.frozen 0
  have u3 := HR5.out.1.frozen 1
  have u4 := HR5.out.1.lt
  have u5 := HR5.out.2.1.cell 0
  have u6 := HR5.out.2.1.cell 1
  have u7 := HR5.out.2.1.frozen 0
  have u8 := HR5.out.2.1.frozen 1
  have u9 := HR5.out.2.1.lt
  by_cases h0 : r5 = 0
  · subst h0
    obtain ⟨q, hq⟩ : ∃ q : Bool, q = true ↔ (TabOk W1 rows1 ∧ TabOk W2 rows2 ∧ W1 = W2) := ⟨_, @decide_eq_true_iff _ (Classical.propDecidable _)⟩
    have hsl1 := HD5.out.1.2.2.2.2.1
    have hsl2 := HD5.out.2.2.2.2.2.1
    have HI := specIntersectAll_ok W1 W2 A1 A2 c1 c2 svs1 rows1 rows2 w5 (by rw [← hsl1]; exact HC1.out.1) HC1.out.2 (by have := HD5.out.1.2.1; omega) (by have := HD5.out.2.2.1; omega) (fun r hr => by have := HD5.out.1.2.2.1 r hr; omega) (DrTab.sl HD5.out.1) HD5.out.1.2.2.2.2 (sls_of' (DrTab.sl HD5.out.2) HD5.out.2.2.2.2.2) q hq
    rw [← hsl1, ← hsl2] at HI
    have HI := Lib.hid HI
    have HQ := Lib.hid hq
    clear hsl1 hsl2 hq
    go_wp2_with fail
    refine HI.out.mono ?_
    intro e w6 hsp
    obtain ⟨W6, A6, c6, svs6, out, rfl, hD, how, hrt, hb6⟩ := hsp.read
    have hsl6 := hrt.1
    have D6 : DrTab 0 w6 W6 (.slice A6 out.length c6) svs6 out := by
      refine ⟨?_, ?_, ?_, how.low (Nat.zero_le _), hrt⟩
      · rcases hD with ⟨_, rfl, _⟩ | ⟨_, rfl, _⟩
        · omega
        · exact HD5.out.1.1
      all_goals
        have hbl := bagR_length true rows2 rows1
        rcases hD with ⟨_, _, rfl⟩ | ⟨_, _, hx⟩
        · simp
        · have h16 := HD5.out.1.2.1
          rw [if_pos (by omega)] at hx
          first
            | (rw [hx.perm.length_eq]; omega)
            | exact fun r hr => HD5.out.1.2.2.1 r (bagR_mem true rows2 rows1 r (hx.perm.mem_iff.1 hr))
    obtain ⟨w7, hw7⟩ : ∃ z, w6.alloc (.cells #[.int .i64 W6, .slice A6 out.length c6] 25) = z := ⟨_, rfl⟩
    have hb7 : Below w6.heap.size w6 w7 := by rw [← hw7]; exact balloc (Below.refl _ _) _
    have hb57 := bch hb6 hb7
    have r7 : Row w7 w6.heap.size 25 [.int .i64 W6, .slice A6 out.length c6] := by rw [← hw7]; exact Row.new _ _ _
    have H7 := Lib.hid (And.intro (bch H5.out hb57) (And.intro (D6.on hb7) (And.intro (HD5.out.1.on hb57) (HD5.out.2.on hb57))))
    have q0 : w7.cell? ⟨w6.heap.size, 0, none⟩ = some (.int .i64 W6) := r7.cell 0
    have q1 : w7.cell? ⟨w6.heap.size, 1, none⟩ = some (.slice A6 out.length c6) := r7.cell 1
    have hR1 := HR5.out.1.on hb57
    have hR2 := HR5.out.2.1.on hb57
    have hR3 := HR5.out.2.2.1.on hb57
    have hR4 := HR5.out.2.2.2.on hb57
    clear s0 s1 s2 s3 u0 u1 u2 u3 u4 u5 u6 u7 u8 u9
    have s0 : w7.cell? ⟨w2.heap.size, 0, none⟩ = some (.int .i64 W1) := hR3.cell 0
    have s1 : w7.cell? ⟨w2.heap.size, 1, none⟩ = some (.slice A1 svs1.length c1) := hR3.cell 1
    have s2 : w7.cell? ⟨w2.heap.size + 1, 0, none⟩ = some (.int .i64 W2) := hR4.cell 0
    have s3 : w7.cell? ⟨w2.heap.size + 1, 1, none⟩ = some (.slice A2 svs2.length c2) := hR4.cell 1
    have u0 := hR1.cell 0
    have u1 := hR1.cell 1
    have u2 := hR1.frozen 0
    have u3 := hR1.frozen 1
    have u4 := hR1.lt
    have u5 := hR2.cell 0
    have u6 := hR2.cell 1
    have u7 := hR2.frozen 0
    have u8 := hR2.frozen 1
    have u9 := hR2.lt
    have HR7 := Lib.hid (And.intro hR1.ty hR2.ty)
    have Hw7 := Lib.hid hw7
    clear hsp hD how hrt hb6 hb7 hb57 r7 hR1 hR2 hR3 hR4 hw7 D6 hsl6
    go_upto_region 5 with fail
    rw [Hw7.out]
    cases q
    all_goals (
      go_wp2
      go_region
      all_goals (
        go_wp2
        first
          | (refine bodyPost_ret (v := .tuple #[.agg #[.int .i64 W1, .slice A1 svs1.length c1], .agg #[.int .i64 W2, .slice A2 svs2.length c2]]) (by simp [results, Try.results15, go_sem, u0, u1, u2, u3, u4, u5, u6, u7, u8, u9]) rfl ?_
             exact ⟨W1, _, W2, _, rfl, FIN.out _ W1 _ svs1 rows1 H7.out.1 HR7.out.1 HR7.out.2 H7.out.2.2.1 H7.out.2.2.2 _ (by first | exact .inr (.inr (.inl rfl)) | exact .inr (.inr (.inr rfl)) | exact .inl rfl | exact .inr (.inl rfl))⟩)
          | (refine bodyPost_ret (v := .tuple #[.agg #[.int .i64 W6, .slice A6 out.length c6], .agg #[.int .i64 W2, .slice A2 svs2.length c2]]) (by simp [results, Try.results15, go_sem, u0, u1, u2, u3, u4, u5, u6, u7, u8, u9]) rfl ?_
             exact ⟨W6, _, W2, _, rfl, FIN.out _ W6 _ svs6 out H7.out.1 HR7.out.1 HR7.out.2 H7.out.2.1 H7.out.2.2.2 _ (by first | exact .inr (.inr (.inl rfl)) | exact .inr (.inr (.inr rfl)) | exact .inl rfl | exact .inr (.inl rfl))⟩)))
  · have h0' : (r5 == 0) = false := by simp [h0]
    go_wp2
    go_region
    all_goals (
      go_wp2
      refine bodyPost_ret (v := .tuple #[.agg #[.int .i64 W1, .slice A1 svs1.length c1], .agg #[.int .i64 W2, .slice A2 svs2.length c2]]) (by simp [results, Try.results15, go_sem, u0, u1, u2, u3, u4, u5, u6, u7, u8, u9]) rfl ?_
      exact ⟨W1, _, W2, _, rfl, FIN.out _ W1 _ svs1 rows1 H5.out HR5.out.1.ty HR5.out.2.1.ty HD5.out.1 HD5.out.2 _ (by first | exact .inr (.inr (.inl rfl)) | exact .inr (.inr (.inr rfl)) | exact .inl rfl | exact .inr (.inl rfl))⟩)

end Go.Proofs.Ytfjpmifdmpoocaa
