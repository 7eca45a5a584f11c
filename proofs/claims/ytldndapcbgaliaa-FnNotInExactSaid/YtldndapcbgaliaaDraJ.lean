/-
  Contracts of the drawing of two tables and two columns: joined and what hands it on.
-/
import Derived.Test.YtldndapcbgaliaaProg
import Derived.Test.YtldndapcbgaliaaDraT
namespace Go.Proofs.Ytldndapcbgaliaa
open Go.RowKit Go.Qo
set_option linter.unusedVariables false
set_option linter.unusedSimpArgs false

/-- Two drawn tables and columns. -/
def JoinTab (b p : Nat) (w : World) (e : Ending) (w' : World) : Prop :=
  ∃ (W1 : Int) (v1 : Value) (svs1 : List SV) (rows1 : List Row1) (W2 : Int) (v2 : Value) (svs2 : List SV) (rows2 : List Row1) (ca cb : Int), e = .returned (.tuple #[.agg #[.int .i64 W1, v1], .agg #[.int .i64 W2, v2], .int .i64 ca, .int .i64 cb]) ∧ -1 ≤ ca ∧ ca ≤ 16 ∧ 0 ≤ cb ∧ cb ≤ 16 ∧
    DrTab w.heap.size w' W1 v1 svs1 rows1 ∧ DrTab w.heap.size w' W2 v2 svs2 rows2 ∧ But b w w' ∧ Rd w' b p
theorem intsJ (w : World) (x y : Int) (t : TypeId) : Sl 1 intC (w.alloc (.cells #[.int .i64 x, .int .i64 y] t)) (w.alloc (.cells #[.int .i64 x, .int .i64 y] t)).heap.size (some ⟨w.heap.size, 0, none⟩) [x, y] :=
  Row.sl' (t := t) intC_length ((Row.new w _ _).of rfl)
theorem resJoined {b b' : Nat} {v0 v1 v2 v3 k0 k1 : Value} (tmps : Array Value) (hp : tmps.getD 2 undef = .pointer (some ⟨b, 0, none⟩)) (hp' : tmps.getD 3 undef = .pointer (some ⟨b', 0, none⟩)) (hk : tmps.getD 4 undef = k0) (hk' : tmps.getD 5 undef = k1) (w : World) (c0 : w.cell? ⟨b, 0, none⟩ = some v0) (c1 : w.cell? ⟨b, 1, none⟩ = some v1) (c2 : w.cell? ⟨b', 0, none⟩ = some v2) (c3 : w.cell? ⟨b', 1, none⟩ = some v3) :
    (results Try.f61 tmps).run Try.prog w = .ok (.tuple #[.agg #[v0, v1], .agg #[v2, v3], k0, k1]) w := by
  simp only [Array.getD_eq_getD_getElem?] at hp hp' hk hk'
  simp [results, Try.results61, go_sem, hp, hp', hk, hk', c0, c1, c2, c3]

set_option maxRecDepth 20000 in
set_option maxHeartbeats 4000000 in
theorem joined_ok (b p : Nat) (w : World) (h : Rd w b p) (hp : p + 190000 ≤ 1099511627776) :
    Calls Try.prog 61 #[.pointer (some ⟨b, 0, none⟩)] w (JoinTab b (p + 80000) w) := by
  have hlt := h.lt
  obtain ⟨W0, hW0⟩ : ∃ z, (w.alloc (.cells #[.int .i64 0, .slice none 0 0] 25)).alloc (.cells #[.int .i64 0, .slice none 0 0] 25) = z := ⟨_, rfl⟩
  have B0 : Below w.heap.size w W0 := by rw [← hW0]; exact balloc (balloc (Below.refl _ _) _) _
  have r1 : Row W0 w.heap.size 25 [.int .i64 0, .slice none 0 0] := by rw [← hW0]; exact Row.first _ _ _ _
  have r2 : Row W0 (w.heap.size + 1) 25 [.int .i64 0, .slice none 0 0] := by rw [← hW0]; exact Row.second _ _ _ _
  have HW := Lib.hid hW0
  have HB0 := Lib.hid (And.intro B0 (And.intro r1 r2))
  have HP := Lib.hid (pick_ok b p 3 W0 (h.on B0) (by omega))
  clear h B0 r1 r2 hW0
  go_enter Try.func61, Try.ntmps61
  go_upto_region 1 with fail
  rw [HW.out]
  go_wp2_with fail
  refine HP.out.mono ?_
  rintro e w1 ⟨r0, rfl, hr0, hb1, hsz1, hR1⟩
  have q0 := hr0.1
  have q1 := hr0.2.1 (by omega)
  have S1 := Lib.hid (show But b w w1 ∧ Row w1 w.heap.size 25 [.int .i64 0, .slice none 0 0] ∧ Row w1 (w.heap.size + 1) 25 [.int .i64 0, .slice none 0 0] ∧ Rd w1 b (p + 1) from
    ⟨(only_below HB0.out.1).trans hb1, HB0.out.2.1.only hb1 (by omega), HB0.out.2.2.only hb1 (by omega), hR1⟩)
  obtain ⟨Wa, hWa⟩ : ∃ W, 1 + r0 = W := ⟨_, rfl⟩
  have ha1 : 1 ≤ Wa := by omega
  have ha2 : Wa ≤ 3 := by omega
  have HP1 := Lib.hid (pick_ok b (p + 1) 3 w1 hR1 (by omega))
  clear hb1 hR1 hr0
  go_wp2_with fail
  refine HP1.out.mono ?_
  rintro e w2 ⟨r3, rfl, hr3, hb2, hsz2, hR2⟩
  have q2 := hr3.1
  have q3 := hr3.2.1 (by omega)
  have S2 := Lib.hid (show But b w w2 ∧ Row w2 w.heap.size 25 [.int .i64 0, .slice none 0 0] ∧ Row w2 (w.heap.size + 1) 25 [.int .i64 0, .slice none 0 0] ∧ Rd w2 b (p + 1 + 1) from
    ⟨S1.out.1.trans hb2, S1.out.2.1.only hb2 (by omega), S1.out.2.2.1.only hb2 (by omega), hR2⟩)
  obtain ⟨Wb, hWb⟩ : ∃ W, 1 + r3 = W := ⟨_, rfl⟩
  have hb1 : 1 ≤ Wb := by omega
  have hbb2 : Wb ≤ 3 := by omega
  have HT := Lib.hid (anyTable_ok b (p + 1 + 1) Wa 6 w2 hR2 (by omega) (by omega) (by omega) (by omega) (by omega))
  clear hb2 hR2 hr3
  go_wp2_with fail
  refine HT.out.mono ?_
  rintro e w3 ⟨W3, v3, svs, rows, rfl, hW3, hrl, hrw, how3, hrt3, hb3, hR3⟩
  obtain ⟨A3, c3, rfl, _, _, _⟩ := how3.shape svC_length
  have hz3 := hb3.size
  have hsz0 : w.heap.size + 2 ≤ w2.heap.size := by have := S2.out.2.2.1.lt; omega
  obtain ⟨w4, hw4⟩ : ∃ w4, w3.alloc (.cells #[.int .i64 W3, .slice A3 svs.length c3] 25) = w4 := ⟨_, rfl⟩
  have hb4 : Below w3.heap.size w3 w4 := by rw [← hw4]; exact balloc (Below.refl _ _) _
  have hx4 : Row w4 w3.heap.size 25 [.int .i64 W3, .slice A3 svs.length c3] := by rw [← hw4]; exact Row.new _ _ _
  have S4 := Lib.hid (show But b w w4 ∧ Row w4 w.heap.size 25 [.int .i64 0, .slice none 0 0] ∧ Row w4 (w.heap.size + 1) 25 [.int .i64 0, .slice none 0 0] ∧ Rd w4 b (p + 1 + 1 + 17000) ∧ Row w4 w3.heap.size 25 [.int .i64 W3, .slice A3 svs.length c3] ∧ DrTab (w.heap.size + 2) w4 W3 (.slice A3 svs.length c3) svs rows from
    ⟨(S2.out.1.trans hb3).trans (only_below hb4), (S2.out.2.1.only hb3 (by omega)).on hb4, (S2.out.2.2.1.only hb3 (by omega)).on hb4, hR3.on hb4, hx4, DrTab.on ⟨hW3, by have : (6 : Int).toNat = 6 := rfl; omega, hrw, how3.low hsz0, hrt3.low hsz0⟩ hb4⟩)
  have hbl := hR3.lt
  have hl4 := hx4.lt
  have Hw4 := Lib.hid hw4
  have HT4 := Lib.hid (anyTable_ok b (p + 1 + 1 + 17000) Wb 6 w4 (hR3.on hb4) (by omega) (by omega) (by omega) (by omega) (by omega))
  clear how3 hrt3 hb3 hR3 hrw hrl hW3 hw4 hb4 hx4
  go_upto_region 4 with fail
  rw [Hw4.out]
  go_wp2_with fail
  refine HT4.out.mono ?_
  rintro e w5 ⟨W5, v5, svs5, rows5, rfl, hW5, hrl5, hrw5, how5, hrt5, hb5, hR5⟩
  obtain ⟨A5, c5, rfl, _, _, _⟩ := how5.shape svC_length
  have hz5 := hb5.size
  have hsz4 : w.heap.size + 2 ≤ w4.heap.size := by have := S4.out.2.2.2.2.1.lt; have := S4.out.2.2.1.lt; omega
  obtain ⟨w6, hw6⟩ : ∃ w6, w5.alloc (.cells #[.int .i64 W5, .slice A5 svs5.length c5] 25) = w6 := ⟨_, rfl⟩
  have hb6 : Below w5.heap.size w5 w6 := by rw [← hw6]; exact balloc (Below.refl _ _) _
  have hx6 : Row w6 w5.heap.size 25 [.int .i64 W5, .slice A5 svs5.length c5] := by rw [← hw6]; exact Row.new _ _ _
  have hne3 : w3.heap.size ≠ b := by omega
  have hbl5 := hR5.lt
  have S6 := Lib.hid (show But b w w6 ∧ Row w6 w.heap.size 25 [.int .i64 0, .slice none 0 0] ∧ Row w6 (w.heap.size + 1) 25 [.int .i64 0, .slice none 0 0] ∧ Row w6 w3.heap.size 25 [.int .i64 W3, .slice A3 svs.length c3] ∧ DrTab (w.heap.size + 2) w6 W3 (.slice A3 svs.length c3) svs rows ∧ Row w6 w5.heap.size 25 [.int .i64 W5, .slice A5 svs5.length c5] ∧ DrTab (w.heap.size + 2) w6 W5 (.slice A5 svs5.length c5) svs5 rows5 from
    ⟨(S4.out.1.trans hb5).trans (only_below hb6), (S4.out.2.1.only hb5 (by omega)).on hb6, (S4.out.2.2.1.only hb5 (by omega)).on hb6, (S4.out.2.2.2.2.1.only hb5 hne3).on hb6, (S4.out.2.2.2.2.2.only hb5 fun k hk => .inl (by omega)).on hb6, hx6, DrTab.on ⟨hW5, by have : (6 : Int).toNat = 6 := rfl; omega, hrw5, how5.low hsz4, hrt5.low hsz4⟩ hb6⟩)
  have Hw6 := Lib.hid hw6
  have HP6 := Lib.hid (pick_ok b (p + 1 + 1 + 17000 + 17000) Wa w6 (hR5.on hb6) (by omega))
  clear how5 hrt5 hb5 hR5 hrw5 hrl5 hW5 hw6 hb6 hx6
  go_upto_region 5 with fail
  rw [Hw6.out]
  go_wp2_with fail
  refine HP6.out.mono ?_
  rintro e w7 ⟨ca, rfl, hca, hb7, _, hR7⟩
  have ka0 := hca.1
  have ka1 := hca.2.1 (by omega)
  have H7 := Lib.hid hb7
  have HP7 := Lib.hid (pick_ok b (p + 1 + 1 + 17000 + 17000 + 1) Wb w7 hR7 (by omega))
  clear hb7 hR7 hca
  go_wp2_with fail
  refine HP7.out.mono ?_
  rintro e w8 ⟨cb, rfl, hcb, hb8, _, hR8⟩
  have kb0 := hcb.1
  have kb1 := hcb.2.1 (by omega)
  have H8 := Lib.hid (show But b w6 w8 from H7.out.trans hb8)
  have HP8 := Lib.hid (pick_ok b (p + 1 + 1 + 17000 + 17000 + 1 + 1) 16 w8 hR8 (by omega))
  clear hb8 hR8 hcb
  go_wp2_with fail
  refine HP8.out.mono ?_
  rintro e w9 ⟨r9, rfl, hr9, hb9, _, hR9⟩
  have H9 := Lib.hid (show But b w6 w9 from H8.out.trans hb9)
  have HR9 := Lib.hid hR9
  clear hb9 hR9 hr9
  have hne5 : w5.heap.size ≠ b := by omega
  have hl30 := S4.out.2.2.1.lt
  have hz34 : w.heap.size + 2 ≤ w3.heap.size := by omega
  have hz45 : w3.heap.size ≤ w5.heap.size := by omega
  have x1 : ¬ (w3.heap.size = w.heap.size) := by omega
  have x2 : ¬ (w3.heap.size = w.heap.size + 1) := by omega
  have x3 : ¬ (w5.heap.size = w.heap.size) := by omega
  have x4 : ¬ (w5.heap.size = w.heap.size + 1) := by omega
  have x5 : ¬ (w.heap.size = w3.heap.size) := by omega
  have x6 : ¬ (w.heap.size + 1 = w3.heap.size) := by omega
  have x7 : ¬ (w.heap.size = w5.heap.size) := by omega
  have x8 : ¬ (w.heap.size + 1 = w5.heap.size) := by omega
  -- the end, from any world behind w6
  have ENDS : Hid (∀ (z : World), But b w6 z → (Row z w.heap.size 25 [.int .i64 0, .slice none 0 0] ∧ Row z (w.heap.size + 1) 25 [.int .i64 0, .slice none 0 0] ∧ Row z w3.heap.size 25 [.int .i64 W3, .slice A3 svs.length c3] ∧ Row z w5.heap.size 25 [.int .i64 W5, .slice A5 svs5.length c5])) := Lib.hid (fun z hz =>
    ⟨S6.out.2.1.only hz (by omega), S6.out.2.2.1.only hz (by omega), S6.out.2.2.2.1.only hz hne3, S6.out.2.2.2.2.2.1.only hz hne5⟩)
  have FIN : Hid (∀ (z : World) (ka : Int), But b w6 z → Rd z b (p + 80000) → -1 ≤ ka → ka ≤ 16 → ∀ (y : World), (y = (((z.setCell ⟨w.heap.size, 0, none⟩ (.int .i64 W3)).setCell ⟨w.heap.size, 1, none⟩ (.slice A3 svs.length c3)).setCell ⟨w.heap.size + 1, 0, none⟩ (.int .i64 W5)).setCell ⟨w.heap.size + 1, 1, none⟩ (.slice A5 svs5.length c5) ∨ y = (((z.setCell ⟨w.heap.size + 1, 0, none⟩ (.int .i64 W5)).setCell ⟨w.heap.size + 1, 1, none⟩ (.slice A5 svs5.length c5)).setCell ⟨w.heap.size, 0, none⟩ (.int .i64 W3)).setCell ⟨w.heap.size, 1, none⟩ (.slice A3 svs.length c3)) →
      JoinTab b (p + 80000) w (.returned (.tuple #[.agg #[.int .i64 W3, .slice A3 svs.length c3], .agg #[.int .i64 W5, .slice A5 svs5.length c5], .int .i64 ka, .int .i64 cb])) y ∧ JoinTab b (p + 80000) w (.returned (.tuple #[.agg #[.int .i64 W3, .slice A3 svs.length c3], .agg #[.int .i64 W5, .slice A5 svs5.length c5], .int .i64 ka, .int .i64 cb])) y.drew) := Lib.hid (by
    intro z ka hz hRz h1 h2 y hy
    obtain ⟨e1, e2, _, _⟩ := ENDS.out z hz
    have hlz := hRz.lt
    have hzz := hz.size
    have hs6 : w.heap.size + 2 ≤ w6.heap.size := by have := S6.out.2.2.1.lt; omega
    have hS : Only (fun i => i = w.heap.size ∨ i = w.heap.size + 1) z y ∧ Rd y b (p + 80000) := by
      rcases hy with rfl | rfl
      · exact ⟨((((Only.refl z).set (p := ⟨w.heap.size, 0, none⟩) (.inl (.inl rfl)) _).set (p := ⟨w.heap.size, 1, none⟩) (.inl (.inl rfl)) _).set (p := ⟨w.heap.size + 1, 0, none⟩) (.inl (.inr rfl)) _).set (p := ⟨w.heap.size + 1, 1, none⟩) (.inl (.inr rfl)) _,
          (((hRz.set (a := ⟨_, _, none⟩) (by simp; omega) _).set (a := ⟨_, _, none⟩) (by simp; omega) _).set (a := ⟨_, _, none⟩) (by simp; omega) _).set (a := ⟨_, _, none⟩) (by simp; omega) _⟩
      · exact ⟨((((Only.refl z).set (p := ⟨w.heap.size + 1, 0, none⟩) (.inl (.inr rfl)) _).set (p := ⟨w.heap.size + 1, 1, none⟩) (.inl (.inr rfl)) _).set (p := ⟨w.heap.size, 0, none⟩) (.inl (.inl rfl)) _).set (p := ⟨w.heap.size, 1, none⟩) (.inl (.inl rfl)) _,
          (((hRz.set (a := ⟨_, _, none⟩) (by simp; omega) _).set (a := ⟨_, _, none⟩) (by simp; omega) _).set (a := ⟨_, _, none⟩) (by simp; omega) _).set (a := ⟨_, _, none⟩) (by simp; omega) _⟩
    have hk : ∀ k, (k = w.heap.size ∨ k = w.heap.size + 1) → TyAt z k 25 := by rintro k (rfl | rfl); exact e1.ty; exact e2.ty
    have hd1 := ((S6.out.2.2.2.2.1.only hz fun k hk => .inl (by omega)).only hS.1 fun k h => .inr (hk k h)).low (show w.heap.size ≤ w.heap.size + 2 by omega)
    have hd2 := ((S6.out.2.2.2.2.2.2.only hz fun k hk => .inl (by omega)).only hS.1 fun k h => .inr (hk k h)).low (show w.heap.size ≤ w.heap.size + 2 by omega)
    have hbt : But b w y := (S6.out.1.trans hz).step hS.1 fun i hi => .inr (by omega)
    exact ⟨⟨W3, _, svs, rows, W5, _, svs5, rows5, ka, cb, rfl, h1, h2, kb0, by omega, hd1, hd2, hbt, hS.2⟩, ⟨W3, _, svs, rows, W5, _, svs5, rows5, ka, cb, rfl, h1, h2, kb0, by omega, hd1.on (Below.refl _ _).drew, hd2.on (Below.refl _ _).drew, hbt.drew, hS.2.on (Below.refl _ _).drew⟩⟩)
  by_cases h0 : r9 = 0
  · subst h0
    obtain ⟨w10, hw10⟩ : ∃ z, w9.alloc (.cells #[.int .i64 (-1), .int .i64 Wa] 3) = z := ⟨_, rfl⟩
    have hbA : Below w9.heap.size w9 w10 := by rw [← hw10]; exact balloc (Below.refl _ _) _
    have hsA := intsJ w9 (-1) Wa 3
    rw [hw10] at hsA
    have hl9 := HR9.out.lt
    have HO := Lib.hid (one_ok b (p + 1 + 1 + 17000 + 17000 + 1 + 1 + 1) (some ⟨w9.heap.size, 0, none⟩) 2 [-1, Wa] w10 (HR9.out.on hbA) (by omega) (by simp) (by simp) hsA (by rintro a ha; cases ha; exact (show w9.heap.size ≠ b by omega)))
    have H10 := Lib.hid (show But b w6 w10 from H9.out.trans (only_below hbA))
    have HW10 := Lib.hid hw10
    clear hbA hsA hw10
    go_wp2_with fail
    rw [HW10.out]
    refine HO.out.mono ?_
    rintro e w11 ⟨r, rfl, hr, hb11, _, hR11⟩
    have hka : -1 ≤ r ∧ r ≤ 16 := by simp at hr; omega
    obtain ⟨hka0, hka1⟩ := hka
    have H11 := Lib.hid (show But b w6 w11 from H10.out.trans hb11)
    have HR11 := Lib.hid (hR11.mono (show p + 1 + 1 + 17000 + 17000 + 1 + 1 + 1 + 1 ≤ p + 80000 by omega))
    obtain ⟨e1, e2, e3, e4⟩ := ENDS.out _ H11.out
    have u0 := e1.cell 0
    have u1 := e1.cell 1
    have u2 := e1.frozen 0
    have u3 := e1.frozen 1
    have u4 := e1.lt
    have u5 := e2.cell 0
    have u6 := e2.cell 1
    have u7 := e2.frozen 0
    have u8 := e2.frozen 1
    have u9 := e2.lt
    have s0 : w11.cell? ⟨w3.heap.size, 0, none⟩ = some (.int .i64 W3) := e3.cell 0
    have s1 : w11.cell? ⟨w3.heap.size, 1, none⟩ = some (.slice A3 svs.length c3) := e3.cell 1
    have s2 : w11.cell? ⟨w5.heap.size, 0, none⟩ = some (.int .i64 W5) := e4.cell 0
    have s3 : w11.cell? ⟨w5.heap.size, 1, none⟩ = some (.slice A5 svs5.length c5) := e4.cell 1
    clear hb11 hR11 hr e1 e2 e3 e4
    go_wp2
    go_region
    all_goals (
      go_wp2
      refine bodyPost_ret (v := .tuple #[.agg #[.int .i64 W3, .slice A3 svs.length c3], .agg #[.int .i64 W5, .slice A5 svs5.length c5], .int .i64 r, .int .i64 cb]) (by simp [results, Try.results61, go_sem, u0, u1, u2, u3, u4, u5, u6, u7, u8, u9]) rfl ?_
      first
        | exact (FIN.out _ r H11.out HR11.out hka0 hka1 _ (.inl rfl)).2
        | exact (FIN.out _ r H11.out HR11.out hka0 hka1 _ (.inr rfl)).2
        | exact (FIN.out _ r H11.out HR11.out hka0 hka1 _ (.inl rfl)).1
        | exact (FIN.out _ r H11.out HR11.out hka0 hka1 _ (.inr rfl)).1)
  · have h0' : (r9 == 0) = false := by simp [h0]
    have HR11 := Lib.hid (HR9.out.mono (show p + 1 + 1 + 17000 + 17000 + 1 + 1 + 1 ≤ p + 80000 by omega))
    obtain ⟨e1, e2, e3, e4⟩ := ENDS.out _ H9.out
    have u0 := e1.cell 0
    have u1 := e1.cell 1
    have u2 := e1.frozen 0
    have u3 := e1.frozen 1
    have u4 := e1.lt
    have u5 := e2.cell 0
    have u6 := e2.cell 1
    have u7 := e2.frozen 0
    have u8 := e2.frozen 1
    have u9 := e2.lt
    have s0 : w9.cell? ⟨w3.heap.size, 0, none⟩ = some (.int .i64 W3) := e3.cell 0
    have s1 : w9.cell? ⟨w3.heap.size, 1, none⟩ = some (.slice A3 svs.length c3) := e3.cell 1
    have s2 : w9.cell? ⟨w5.heap.size, 0, none⟩ = some (.int .i64 W5) := e4.cell 0
    have s3 : w9.cell? ⟨w5.heap.size, 1, none⟩ = some (.slice A5 svs5.length c5) := e4.cell 1
    clear e1 e2 e3 e4
    go_wp2
    go_region
    all_goals (
      go_wp2
      refine bodyPost_ret (v := .tuple #[.agg #[.int .i64 W3, .slice A3 svs.length c3], .agg #[.int .i64 W5, .slice A5 svs5.length c5], .int .i64 ca, .int .i64 cb]) (by simp [results, Try.results61, go_sem, u0, u1, u2, u3, u4, u5, u6, u7, u8, u9]) rfl ?_
      first
        | exact (FIN.out _ ca H9.out HR11.out (by omega) (by omega) _ (.inl rfl)).2
        | exact (FIN.out _ ca H9.out HR11.out (by omega) (by omega) _ (.inr rfl)).2
        | exact (FIN.out _ ca H9.out HR11.out (by omega) (by omega) _ (.inl rfl)).1
        | exact (FIN.out _ ca H9.out HR11.out (by omega) (by omega) _ (.inr rfl)).1)
/-- Two drawn tables and columns, all memory the call's own. -/
def DrawnJ (w : World) (W1 : Int) (v1 : Value) (W2 : Int) (v2 : Value) (ca cb : Int) (w' : World) : Prop :=
  -1 ≤ ca ∧ ca ≤ 16 ∧ 0 ≤ cb ∧ cb ≤ 16 ∧ DrawnTT w W1 v1 W2 v2 w'
theorem resDrawMergeJoin {b b' : Nat} {v0 v1 v2 v3 k0 k1 : Value} (tmps : Array Value) (hp : tmps.getD 2 undef = .pointer (some ⟨b, 0, none⟩)) (hp' : tmps.getD 3 undef = .pointer (some ⟨b', 0, none⟩)) (hk : tmps.getD 4 undef = k0) (hk' : tmps.getD 5 undef = k1) (w : World) (c0 : w.cell? ⟨b, 0, none⟩ = some v0) (c1 : w.cell? ⟨b, 1, none⟩ = some v1) (c2 : w.cell? ⟨b', 0, none⟩ = some v2) (c3 : w.cell? ⟨b', 1, none⟩ = some v3) :
    (results Try.f25 tmps).run Try.prog w = .ok (.tuple #[.agg #[v0, v1], .agg #[v2, v3], k0, k1]) w := by
  simp only [Array.getD_eq_getD_getElem?] at hp hp' hk hk'
  simp [results, Try.results25, go_sem, hp, hp', hk, hk', c0, c1, c2, c3]
set_option maxRecDepth 20000 in
set_option maxHeartbeats 2000000 in
theorem dDrawMergeJoin_ok (A : Option Addr) (c : Nat) (xs : List Int) (w : World) (hn : xs.length ≤ c) (hc : c ≤ maxLen) (hg : ∀ x ∈ xs, 0 ≤ x ∧ x ≤ 255) (hs : Sl 1 byteC w w.heap.size A xs) :
    Calls Try.prog 25 #[.slice A xs.length c] w fun e w' => ∃ W1 v1 W2 v2 ca cb, e = .returned (.tuple #[.agg #[.int .i64 W1, v1], .agg #[.int .i64 W2, v2], .int .i64 ca, .int .i64 cb]) ∧ DrawnJ w W1 v1 W2 v2 ca cb w' := by
  obtain ⟨W0, hW0⟩ : ∃ z, (w.alloc (.cells #[.int .i64 0, .slice none 0 0] 25)).alloc (.cells #[.int .i64 0, .slice none 0 0] 25) = z := ⟨_, rfl⟩
  have B0 : Below w.heap.size w W0 := by rw [← hW0]; exact balloc (balloc (Below.refl _ _) _) _
  have r1 : Row W0 w.heap.size 25 [.int .i64 0, .slice none 0 0] := by rw [← hW0]; exact Row.first _ _ _ _
  have r2 : Row W0 (w.heap.size + 1) 25 [.int .i64 0, .slice none 0 0] := by rw [← hW0]; exact Row.second _ _ _ _
  have HW := Lib.hid hW0
  have HB0 := Lib.hid (And.intro B0 (And.intro r1 r2))
  have HN := newReader_ok A c xs W0 hn hc hg (hs.on B0)
  obtain ⟨b, hbe⟩ : ∃ b, W0.heap.size = b := ⟨_, rfl⟩
  have hbe' : w.heap.size + 2 ≤ b := by have := r2.lt; omega
  rw [hbe] at HN
  have HN := Lib.hid HN
  have Hbe := Lib.hid hbe
  clear hs hg hc hn hbe B0 r1 r2 hW0
  go_enter Try.func25, Try.ntmps25
  go_upto_region 1 with fail
  rw [HW.out]
  go_wp2_with fail
  refine HN.out.mono ?_
  rintro e w1 ⟨rfl, hb1, hR1⟩
  have hb1 : Below W0.heap.size W0 w1 := by rw [Hbe.out]; exact hb1
  have HT := Lib.hid (joined_ok b 0 w1 hR1 (by omega))
  have H1 := Lib.hid (bch HB0.out.1 hb1)
  have R1 := Lib.hid (And.intro (HB0.out.2.1.on hb1) (HB0.out.2.2.on hb1))
  have hl1 := hR1.lt
  clear hb1 hR1
  go_wp2_with fail
  refine HT.out.mono ?_
  rintro e w2 ⟨W1, v1, svs1, rows1, W2, v2, svs2, rows2, ca, cb, rfl, ha0, ha1, hcb0, hcb1, hd1, hd2, hb2, hR2⟩
  obtain ⟨A1, c1, rfl, _, _, _⟩ := hd1.2.2.2.1.shape svC_length
  obtain ⟨A2, c2, rfl, _, _, _⟩ := hd2.2.2.2.1.shape svC_length
  have r1 := R1.out.1.only hb2 (by omega)
  have r2 := R1.out.2.only hb2 (by omega)
  have u0 := r1.cell 0
  have u1 := r1.cell 1
  have u2 := r1.frozen 0
  have u3 := r1.frozen 1
  have u4 := r1.lt
  have u5 := r2.cell 0
  have u6 := r2.cell 1
  have u7 := r2.frozen 0
  have u8 := r2.frozen 1
  have u9 := r2.lt
  have H2 := Lib.hid (And.intro hd1 (And.intro hd2 (And.intro hb2 (And.intro r1 r2))))
  have HC := Lib.hid (And.intro ha0 (And.intro ha1 (And.intro hcb0 hcb1)))
  clear hd1 hd2 hb2 hR2 r1 r2 ha0 ha1 hcb0 hcb1
  go_wp2
  obtain ⟨hd1, hd2, hb2, r1, r2⟩ := H2.out
  have hz1 := H1.out.size
  have hS0 := Only.set (S := fun i => i = w.heap.size ∨ i = w.heap.size + 1) (p := ⟨w.heap.size, 0, none⟩) (Only.refl w2) (.inl (.inl rfl)) (.int .i64 W1)
  have hS1 := hS0.set (p := ⟨w.heap.size, 1, none⟩) (.inl (.inl rfl)) (.slice A1 svs1.length c1)
  have hS2 := hS1.set (p := ⟨w.heap.size + 1, 0, none⟩) (.inl (.inr rfl)) (.int .i64 W2)
  have hS3 := hS2.set (p := ⟨w.heap.size + 1, 1, none⟩) (.inl (.inr rfl)) (.slice A2 svs2.length c2)
  have hk : ∀ k, (k = w.heap.size ∨ k = w.heap.size + 1) → TyAt w2 k 25 := by rintro k (rfl | rfl); exact r1.ty; exact r2.ty
  refine bodyPost_ret (v := .tuple #[.agg #[.int .i64 W1, .slice A1 svs1.length c1], .agg #[.int .i64 W2, .slice A2 svs2.length c2], .int .i64 ca, .int .i64 cb]) (by simp [results, Try.results25, go_sem, u0, u1, u2, u3, u4, u5, u6, u7, u8, u9]) rfl ?_
  exact ⟨W1, _, W2, _, ca, cb, rfl, HC.out.1, HC.out.2.1, HC.out.2.2.1, HC.out.2.2.2, svs1, rows1, svs2, rows2, (hd1.only hS3 fun k h => .inr (hk k h)).low (Nat.zero_le _), (hd2.only hS3 fun k h => .inr (hk k h)).low (Nat.zero_le _), Only.from_ (Only.from_ H1.out rfl hb2 (by intro i hi; omega)) rfl hS3 (by intro i hi; omega)⟩
end Go.Proofs.Ytldndapcbgaliaa
