/-
  Contracts of the drawing of two tables.
-/
import Derived.Test.YtfjpmifdmpoocaaProg
import Derived.Test.YtfjpmifdmpoocaaAnyT
namespace Go.Proofs.Ytfjpmifdmpoocaa
open Go.RowKit Go.Qo
set_option linter.unusedVariables false
set_option linter.unusedSimpArgs false

/-- A drawn table's value v in w, its memory from lo on. -/
def DrTab (lo : Nat) (w : World) (W : Int) (v : Value) (svs : List SV) (rows : List Row1) : Prop :=
  W ≤ 16 ∧ rows.length ≤ 16 ∧ (∀ r ∈ rows, r.length ≤ 16) ∧ Ow lo 40 1 svC w v svs ∧ RowsT 46 2 valC lo w svs rows
theorem DrTab.low {lo lo' : Nat} {w : World} {W : Int} {v : Value} {svs : List SV} {rows : List Row1} (h : DrTab lo w W v svs rows) (hl : lo' ≤ lo) : DrTab lo' w W v svs rows := ⟨h.1, h.2.1, h.2.2.1, h.2.2.2.1.low hl, h.2.2.2.2.low hl⟩
theorem DrTab.on {lo : Nat} {w w' : World} {W : Int} {v : Value} {svs : List SV} {rows : List Row1} (h : DrTab lo w W v svs rows) (hb : Below w.heap.size w w') : DrTab lo w' W v svs rows := ⟨h.1, h.2.1, h.2.2.1, h.2.2.2.1.on hb, h.2.2.2.2.on hb⟩
theorem DrTab.only {lo : Nat} {w w' : World} {S : Nat → Prop} {W : Int} {v : Value} {svs : List SV} {rows : List Row1} (h : DrTab lo w W v svs rows) (hb : Only S w w') (hS : ∀ k, S k → k < lo ∨ TyAt w k 25) : DrTab lo w' W v svs rows :=
  ⟨h.1, h.2.1, h.2.2.1, h.2.2.2.1.only hb fun k hk => (hS k hk).imp id fun ht => ⟨_, by decide, ht⟩, h.2.2.2.2.only hb fun k hk => (hS k hk).imp id fun ht => ⟨_, by decide, ht⟩⟩
theorem DrTab.sl {lo : Nat} {w : World} {W : Int} {A : Option Addr} {n c : Nat} {svs : List SV} {rows : List Row1} (h : DrTab lo w W (.slice A n c) svs rows) : Sl 1 svC w w.heap.size A svs := by
  obtain ⟨A2, c2, e, _, _, h2⟩ := h.2.2.2.1.shape svC_length
  injection e with e1 e2 e3
  subst e1
  exact h2.sl
/-- Two drawn tables. -/
def TwoTab (b p : Nat) (w : World) (e : Ending) (w' : World) : Prop :=
  ∃ (W1 : Int) (v1 : Value) (svs1 : List SV) (rows1 : List Row1) (W2 : Int) (v2 : Value) (svs2 : List SV) (rows2 : List Row1), e = .returned (.tuple #[.agg #[.int .i64 W1, v1], .agg #[.int .i64 W2, v2]]) ∧
    DrTab w.heap.size w' W1 v1 svs1 rows1 ∧ DrTab w.heap.size w' W2 v2 svs2 rows2 ∧ But b w w' ∧ Rd w' b p
/-- Two drawn tables, all memory the call's own. -/
def DrawnTT (w : World) (W1 : Int) (v1 : Value) (W2 : Int) (v2 : Value) (w' : World) : Prop :=
  ∃ (svs1 : List SV) (rows1 : List Row1) (svs2 : List SV) (rows2 : List Row1), DrTab 0 w' W1 v1 svs1 rows1 ∧ DrTab 0 w' W2 v2 svs2 rows2 ∧ Below w.heap.size w w'

theorem resTwo {b b' : Nat} {v0 v1 v2 v3 : Value} (tmps : Array Value) (hp : tmps.getD 2 undef = .pointer (some ⟨b, 0, none⟩)) (hp' : tmps.getD 3 undef = .pointer (some ⟨b', 0, none⟩)) (w : World) (c0 : w.cell? ⟨b, 0, none⟩ = some v0) (c1 : w.cell? ⟨b, 1, none⟩ = some v1) (c2 : w.cell? ⟨b', 0, none⟩ = some v2) (c3 : w.cell? ⟨b', 1, none⟩ = some v3) :
    (results Try.f41 tmps).run Try.prog w = .ok (.tuple #[.agg #[v0, v1], .agg #[v2, v3]]) w := by
  simp only [Array.getD_eq_getD_getElem?] at hp hp'
  simp [results, Try.results41, go_sem, hp, hp', c0, c1, c2, c3]

set_option maxRecDepth 20000 in
set_option maxHeartbeats 4000000 in
theorem twoTables_ok (b p : Nat) (w : World) (h : Rd w b p) (hp : p + 90000 ≤ 1099511627776) :
    Calls Try.prog 41 #[.pointer (some ⟨b, 0, none⟩)] w (TwoTab b (p + 40000) w) := by
  have hlt := h.lt
  obtain ⟨W0, hW0⟩ : ∃ z, (w.alloc (.cells #[.int .i64 0, .slice none 0 0] 25)).alloc (.cells #[.int .i64 0, .slice none 0 0] 25) = z := ⟨_, rfl⟩
  have B0 : Below w.heap.size w W0 := by rw [← hW0]; exact balloc (balloc (Below.refl _ _) _) _
  have r1 : Row W0 w.heap.size 25 [.int .i64 0, .slice none 0 0] := by rw [← hW0]; exact Row.first _ _ _ _
  have r2 : Row W0 (w.heap.size + 1) 25 [.int .i64 0, .slice none 0 0] := by rw [← hW0]; exact Row.second _ _ _ _
  have HW := Lib.hid hW0
  have HB0 := Lib.hid (And.intro B0 (And.intro r1 r2))
  have HP := Lib.hid (pick_ok b p 2 W0 (h.on B0) (by omega))
  clear h B0 r1 r2 hW0
  go_enter Try.func41, Try.ntmps41
  go_upto_region 1 with fail
  rw [HW.out]
  go_wp2_with fail
  refine HP.out.mono ?_
  rintro e w1 ⟨r0, rfl, hr0, hb1, hsz1, hR1⟩
  have q0 := hr0.1
  have q1 := hr0.2.1 (by omega)
  have hz1 := hb1.size
  have H1 := Lib.hid (show But b w w1 from (only_below HB0.out.1).trans hb1)
  have HR1 := Lib.hid (And.intro (HB0.out.2.1.only hb1 (by omega)) (HB0.out.2.2.only hb1 (by omega)))
  obtain ⟨Wd, hWd⟩ : ∃ W, 1 + r0 = W := ⟨_, rfl⟩
  have HT := Lib.hid (anyTable_ok b (p + 1) Wd 6 w1 hR1 (by omega) (by omega) (by omega) (by omega) (by omega))
  have hW1 : 1 ≤ Wd := by omega
  have hW2 : Wd ≤ 3 := by omega
  clear hb1 hR1 hr0
  go_wp2_with fail
  refine HT.out.mono ?_
  rintro e w3 ⟨W3, v3, svs, rows, rfl, hW3, hrl, hrw, how3, hrt3, hb3, hR3⟩
  obtain ⟨A3, c3, rfl, hc31, hc32, hs3⟩ := how3.shape svC_length
  have hz3 := hb3.size
  have H3 := Lib.hid (show But b w w3 from H1.out.trans hb3)
  have HR3 := Lib.hid (And.intro (HR1.out.1.only hb3 (by omega)) (HR1.out.2.only hb3 (by omega)))
  have hsz0 : w.heap.size + 2 ≤ w1.heap.size := by have := HR1.out.2.lt; omega
  have D3 := Lib.hid (show DrTab (w.heap.size + 2) w3 W3 (.slice A3 svs.length c3) svs rows from ⟨hW3, by have : (6 : Int).toNat = 6 := rfl; omega, hrw, how3.low hsz0, hrt3.low hsz0⟩)
  have HRd3 := Lib.hid hR3
  clear how3 hrt3 hb3 hR3 hs3 hrw hrl hW3 hz1 hsz0
  obtain ⟨w4, hw4⟩ : ∃ w4, w3.alloc (.cells #[.int .i64 W3, .slice A3 svs.length c3] 25) = w4 := ⟨_, rfl⟩
  have hb4 : Below w3.heap.size w3 w4 := by rw [← hw4]; exact balloc (Below.refl _ _) _
  have hx4 : Row w4 w3.heap.size 25 [.int .i64 W3, .slice A3 svs.length c3] := by rw [← hw4]; exact Row.new _ _ _
  have HP4 := Lib.hid (pick_ok b (p + 1 + 17000) 12 w4 (HRd3.out.on hb4) (by omega))
  have H4 := Lib.hid (And.intro (H3.out.trans (only_below hb4)) (And.intro (HR3.out.1.on hb4) (And.intro (HR3.out.2.on hb4) (And.intro hx4 (D3.out.on hb4)))))
  have Hw4 := Lib.hid hw4
  clear hw4 hb4 hx4 hz3
  go_upto_region 3 with fail
  rw [Hw4.out]
  go_wp2_with fail
  refine HP4.out.mono ?_
  rintro e w5 ⟨r5, rfl, hr5, hb5, hsz5, hR5⟩
  have hbl := HRd3.out.lt
  have H5 := Lib.hid (show But b w w5 from H4.out.1.trans hb5)
  have HR5 := Lib.hid (show Row w5 w.heap.size 25 [.int .i64 0, .slice none 0 0] ∧ Row w5 (w.heap.size + 1) 25 [.int .i64 0, .slice none 0 0] ∧ Row w5 w3.heap.size 25 [.int .i64 W3, .slice A3 svs.length c3] ∧ DrTab (w.heap.size + 2) w5 W3 (.slice A3 svs.length c3) svs rows from
    ⟨H4.out.2.1.only hb5 (by omega), H4.out.2.2.1.only hb5 (by omega), H4.out.2.2.2.1.only hb5 (by omega), H4.out.2.2.2.2.only hb5 fun k hk => .inl (by omega)⟩)
  have HRd5 := Lib.hid hR5
  clear hb5 hR5 hr5 hsz5
  have s0 : w5.cell? ⟨w3.heap.size, 0, none⟩ = some (.int .i64 W3) := HR5.out.2.2.1.cell 0
  have s1 : w5.cell? ⟨w3.heap.size, 1, none⟩ = some (.slice A3 svs.length c3) := HR5.out.2.2.1.cell 1
  have a0 : w5.cell? ⟨w.heap.size, 0, none⟩ = some (.int .i64 0) := HR5.out.1.cell 0
  have a1 : w5.cell? ⟨w.heap.size, 1, none⟩ = some (.slice none 0 0) := HR5.out.1.cell 1
  have f0 := HR5.out.1.frozen 0
  have f1 := HR5.out.1.frozen 1
  have l0 := HR5.out.1.lt
  have a2 : w5.cell? ⟨w.heap.size + 1, 0, none⟩ = some (.int .i64 0) := HR5.out.2.1.cell 0
  have a3 : w5.cell? ⟨w.heap.size + 1, 1, none⟩ = some (.slice none 0 0) := HR5.out.2.1.cell 1
  have f2 := HR5.out.2.1.frozen 0
  have f3 := HR5.out.2.1.frozen 1
  have l2 := HR5.out.2.1.lt
  have HK := Lib.hid (fun (Wz : Int) (h1 : 1 ≤ Wz) (h2 : Wz ≤ 3) (z : World) (hz : Rd z b (p + 1 + 17000 + 1)) => anyTable_ok b (p + 1 + 17000 + 1) Wz 6 z hz (by omega) (by omega) h1 (by omega) (by omega))
  by_cases h0 : r5 = 0
  all_goals (
    first
      | subst h0
      | have h0' : (r5 == 0) = false := by simp [h0]
    go_upto_region 5 with fail
    go_region_law (go_simp; go_at_call 77; refine (HK.out _ (by omega) (by omega) _ (HRd5.out.on (Below.refl _ _).drew)).mono ?_; rintro e w6 ⟨W6, v6, svs6, rows6, rfl, hW6, hrl6, hrw6, how6, hrt6, hb6', hR6⟩; have hb6 : But b w5 w6 := (Only.refl w5).drew.trans hb6'; obtain ⟨A6, c6, rfl, _, _, _⟩ := how6.shape svC_length; have D6 := Lib.hid (show DrTab w5.heap.size w6 W6 (.slice A6 svs6.length c6) svs6 rows6 from ⟨hW6, (by have : (6 : Int).toNat = 6 := rfl; omega), hrw6, how6, hrt6⟩); clear hb6' hW6 hrl6 hrw6 how6 hrt6; have hr6 := HR5.out.1.only hb6 (by omega); have hr7 := HR5.out.2.1.only hb6 (by omega); have hq6 := HR5.out.2.2.1.only hb6 (by omega); have t0 : w6.cell? ⟨w3.heap.size, 0, none⟩ = some (.int .i64 W3) := hq6.cell 0; have t1 : w6.cell? ⟨w3.heap.size, 1, none⟩ = some (.slice A3 svs.length c3) := hq6.cell 1; clear hq6; have u0 := hr6.cell 0; have u1 := hr6.cell 1; have u2 := hr6.frozen 0; have u3 := hr6.frozen 1; have u4 := hr6.lt; have u5 := hr7.cell 0; have u6 := hr7.cell 1; have u7 := hr7.frozen 0; have u8 := hr7.frozen 1; have u9 := hr7.lt; have H6 := Lib.hid (And.intro hb6 (And.intro hr6 (And.intro hr7 hR6))); clear hb6 hR6 hr6 hr7)
    all_goals (
      go_wp2
      obtain ⟨hb6, hr6, hr7, hR6⟩ := H6.out
      have hz6 := H5.out.size
      have hS0 := Only.set (S := fun i => i = w.heap.size ∨ i = w.heap.size + 1) (p := ⟨w.heap.size, 0, none⟩) (Only.refl w6) (.inl (.inl rfl)) (.int .i64 W3)
      have hS1 := hS0.set (p := ⟨w.heap.size, 1, none⟩) (.inl (.inl rfl)) (.slice A3 svs.length c3)
      have hS2 := hS1.set (p := ⟨w.heap.size + 1, 0, none⟩) (.inl (.inr rfl)) (.int .i64 W6)
      have hS3 := hS2.set (p := ⟨w.heap.size + 1, 1, none⟩) (.inl (.inr rfl)) (.slice A6 svs6.length c6)
      refine bodyPost_ret (v := .tuple #[.agg #[.int .i64 W3, .slice A3 svs.length c3], .agg #[.int .i64 W6, .slice A6 svs6.length c6]]) (by simp [results, Try.results41, go_sem, u0, u1, u2, u3, u4, u5, u6, u7, u8, u9]) rfl ?_
      have hk : ∀ k, (k = w.heap.size ∨ k = w.heap.size + 1) → TyAt w6 k 25 := by rintro k (rfl | rfl); exact hr6.ty; exact hr7.ty
      have hlx : b < w6.heap.size := hR6.lt
      refine ⟨W3, _, svs, rows, W6, _, svs6, rows6, rfl, ((HR5.out.2.2.2.only hb6 fun k hk => .inl (by omega)).only hS3 fun k h => .inr (hk k h)).low (by omega), (D6.out.only hS3 fun k h => .inr (hk k h)).low (by omega), (H5.out.trans hb6).step hS3 fun i hi => .inr (by omega), ((((hR6.set (a := ⟨_, _, none⟩) (by simp; omega) _).set (a := ⟨_, _, none⟩) (by simp; omega) _).set (a := ⟨_, _, none⟩) (by simp; omega) _).set (a := ⟨_, _, none⟩) (by simp; omega) _).mono (by omega)⟩))

theorem resDrawExceptAll {b b' : Nat} {v0 v1 v2 v3 : Value} (tmps : Array Value) (hp : tmps.getD 2 undef = .pointer (some ⟨b, 0, none⟩)) (hp' : tmps.getD 3 undef = .pointer (some ⟨b', 0, none⟩)) (w : World) (c0 : w.cell? ⟨b, 0, none⟩ = some v0) (c1 : w.cell? ⟨b, 1, none⟩ = some v1) (c2 : w.cell? ⟨b', 0, none⟩ = some v2) (c3 : w.cell? ⟨b', 1, none⟩ = some v3) :
    (results Try.f27 tmps).run Try.prog w = .ok (.tuple #[.agg #[v0, v1], .agg #[v2, v3]]) w := by
  simp only [Array.getD_eq_getD_getElem?] at hp hp'
  simp [results, Try.results27, go_sem, hp, hp', c0, c1, c2, c3]
set_option maxRecDepth 20000 in
set_option maxHeartbeats 2000000 in
theorem dDrawExceptAll_ok (A : Option Addr) (c : Nat) (xs : List Int) (w : World) (hn : xs.length ≤ c) (hc : c ≤ maxLen) (hg : ∀ x ∈ xs, 0 ≤ x ∧ x ≤ 255) (hs : Sl 1 byteC w w.heap.size A xs) :
    Calls Try.prog 27 #[.slice A xs.length c] w fun e w' => ∃ W1 v1 W2 v2, e = .returned (.tuple #[.agg #[.int .i64 W1, v1], .agg #[.int .i64 W2, v2]]) ∧ DrawnTT w W1 v1 W2 v2 w' := by
  obtain ⟨W0, hW0⟩ : ∃ z, (w.alloc (.cells #[.int .i64 0, .slice none 0 0] 25)).alloc (.cells #[.int .i64 0, .slice none 0 0] 25) = z := ⟨_, rfl⟩
  have B0 : Below w.heap.size w W0 := by rw [← hW0]; exact balloc (balloc (Below.refl _ _) _) _
  have r1 : Row W0 w.heap.size 25 [.int .i64 0, .slice none 0 0] := by rw [← hW0]; exact Row.first _ _ _ _
  have r2 : Row W0 (w.heap.size + 1) 25 [.int .i64 0, .slice none 0 0] := by rw [← hW0]; exact Row.second _ _ _ _
  have HW := Lib.hid hW0
  have HB0 := Lib.hid (And.intro B0 (And.intro r1 r2))
  have HN := newReader_ok A c xs W0 hn hc hg (hs.on B0)
  obtain ⟨b, hbe⟩ : ∃ b, W0.heap.size = b := ⟨_, rfl⟩
  have hbe' : w.heap.size + 2 ≤ b := by have := r2.lt; omega
  rw [hbe] at HN
  have HN := Lib.hid HN
  have Hbe := Lib.hid hbe
  clear hs hg hc hn hbe B0 r1 r2 hW0
  go_enter Try.func27, Try.ntmps27
  go_upto_region 1 with fail
  rw [HW.out]
  go_wp2_with fail
  refine HN.out.mono ?_
  rintro e w1 ⟨rfl, hb1, hR1⟩
  have hb1 : Below W0.heap.size W0 w1 := by rw [Hbe.out]; exact hb1
  have HT := Lib.hid (twoTables_ok b 0 w1 hR1 (by omega))
  have H1 := Lib.hid (bch HB0.out.1 hb1)
  have R1 := Lib.hid (And.intro (HB0.out.2.1.on hb1) (HB0.out.2.2.on hb1))
  have hl1 := hR1.lt
  clear hb1 hR1
  go_wp2_with fail
  refine HT.out.mono ?_
  rintro e w2 ⟨W1, v1, svs1, rows1, W2, v2, svs2, rows2, rfl, hd1, hd2, hb2, hR2⟩
  obtain ⟨A1, c1, rfl, _, _, _⟩ := hd1.2.2.2.1.shape svC_length
  obtain ⟨A2, c2, rfl, _, _, _⟩ := hd2.2.2.2.1.shape svC_length
  have r1 := R1.out.1.only hb2 (by omega)
  have r2 := R1.out.2.only hb2 (by omega)
  have u0 := r1.cell 0
  have u1 := r1.cell 1
  have u2 := r1.frozen 0
  have u3 := r1.frozen 1
  have u4 := r1.lt
  have u5 := r2.cell 0
  have u6 := r2.cell 1
  have u7 := r2.frozen 0
  have u8 := r2.frozen 1
  have u9 := r2.lt
  have H2 := Lib.hid (And.intro hd1 (And.intro hd2 (And.intro hb2 (And.intro r1 r2))))
  clear hd1 hd2 hb2 hR2 r1 r2
  go_wp2
  obtain ⟨hd1, hd2, hb2, r1, r2⟩ := H2.out
  have hz1 := H1.out.size
  have hS0 := Only.set (S := fun i => i = w.heap.size ∨ i = w.heap.size + 1) (p := ⟨w.heap.size, 0, none⟩) (Only.refl w2) (.inl (.inl rfl)) (.int .i64 W1)
  have hS1 := hS0.set (p := ⟨w.heap.size, 1, none⟩) (.inl (.inl rfl)) (.slice A1 svs1.length c1)
  have hS2 := hS1.set (p := ⟨w.heap.size + 1, 0, none⟩) (.inl (.inr rfl)) (.int .i64 W2)
  have hS3 := hS2.set (p := ⟨w.heap.size + 1, 1, none⟩) (.inl (.inr rfl)) (.slice A2 svs2.length c2)
  have hk : ∀ k, (k = w.heap.size ∨ k = w.heap.size + 1) → TyAt w2 k 25 := by rintro k (rfl | rfl); exact r1.ty; exact r2.ty
  refine bodyPost_ret (v := .tuple #[.agg #[.int .i64 W1, .slice A1 svs1.length c1], .agg #[.int .i64 W2, .slice A2 svs2.length c2]]) (by simp [results, Try.results27, go_sem, u0, u1, u2, u3, u4, u5, u6, u7, u8, u9]) rfl ?_
  exact ⟨W1, _, W2, _, rfl, svs1, rows1, svs2, rows2, (hd1.only hS3 fun k h => .inr (hk k h)).low (Nat.zero_le _), (hd2.only hS3 fun k h => .inr (hk k h)).low (Nat.zero_le _), Only.from_ (Only.from_ H1.out rfl hb2 (by intro i hi; omega)) rfl hS3 (by intro i hi; omega)⟩

theorem resDrawIntersectAll {b b' : Nat} {v0 v1 v2 v3 : Value} (tmps : Array Value) (hp : tmps.getD 2 undef = .pointer (some ⟨b, 0, none⟩)) (hp' : tmps.getD 3 undef = .pointer (some ⟨b', 0, none⟩)) (w : World) (c0 : w.cell? ⟨b, 0, none⟩ = some v0) (c1 : w.cell? ⟨b, 1, none⟩ = some v1) (c2 : w.cell? ⟨b', 0, none⟩ = some v2) (c3 : w.cell? ⟨b', 1, none⟩ = some v3) :
    (results Try.f30 tmps).run Try.prog w = .ok (.tuple #[.agg #[v0, v1], .agg #[v2, v3]]) w := by
  simp only [Array.getD_eq_getD_getElem?] at hp hp'
  simp [results, Try.results30, go_sem, hp, hp', c0, c1, c2, c3]
set_option maxRecDepth 20000 in
set_option maxHeartbeats 2000000 in
theorem dDrawIntersectAll_ok (A : Option Addr) (c : Nat) (xs : List Int) (w : World) (hn : xs.length ≤ c) (hc : c ≤ maxLen) (hg : ∀ x ∈ xs, 0 ≤ x ∧ x ≤ 255) (hs : Sl 1 byteC w w.heap.size A xs) :
    Calls Try.prog 30 #[.slice A xs.length c] w fun e w' => ∃ W1 v1 W2 v2, e = .returned (.tuple #[.agg #[.int .i64 W1, v1], .agg #[.int .i64 W2, v2]]) ∧ DrawnTT w W1 v1 W2 v2 w' := by
  obtain ⟨W0, hW0⟩ : ∃ z, (w.alloc (.cells #[.int .i64 0, .slice none 0 0] 25)).alloc (.cells #[.int .i64 0, .slice none 0 0] 25) = z := ⟨_, rfl⟩
  have B0 : Below w.heap.size w W0 := by rw [← hW0]; exact balloc (balloc (Below.refl _ _) _) _
  have r1 : Row W0 w.heap.size 25 [.int .i64 0, .slice none 0 0] := by rw [← hW0]; exact Row.first _ _ _ _
  have r2 : Row W0 (w.heap.size + 1) 25 [.int .i64 0, .slice none 0 0] := by rw [← hW0]; exact Row.second _ _ _ _
  have HW := Lib.hid hW0
  have HB0 := Lib.hid (And.intro B0 (And.intro r1 r2))
  have HN := newReader_ok A c xs W0 hn hc hg (hs.on B0)
  obtain ⟨b, hbe⟩ : ∃ b, W0.heap.size = b := ⟨_, rfl⟩
  have hbe' : w.heap.size + 2 ≤ b := by have := r2.lt; omega
  rw [hbe] at HN
  have HN := Lib.hid HN
  have Hbe := Lib.hid hbe
  clear hs hg hc hn hbe B0 r1 r2 hW0
  go_enter Try.func30, Try.ntmps30
  go_upto_region 1 with fail
  rw [HW.out]
  go_wp2_with fail
  refine HN.out.mono ?_
  rintro e w1 ⟨rfl, hb1, hR1⟩
  have hb1 : Below W0.heap.size W0 w1 := by rw [Hbe.out]; exact hb1
  have HT := Lib.hid (twoTables_ok b 0 w1 hR1 (by omega))
  have H1 := Lib.hid (bch HB0.out.1 hb1)
  have R1 := Lib.hid (And.intro (HB0.out.2.1.on hb1) (HB0.out.2.2.on hb1))
  have hl1 := hR1.lt
  clear hb1 hR1
  go_wp2_with fail
  refine HT.out.mono ?_
  rintro e w2 ⟨W1, v1, svs1, rows1, W2, v2, svs2, rows2, rfl, hd1, hd2, hb2, hR2⟩
  obtain ⟨A1, c1, rfl, _, _, _⟩ := hd1.2.2.2.1.shape svC_length
  obtain ⟨A2, c2, rfl, _, _, _⟩ := hd2.2.2.2.1.shape svC_length
  have r1 := R1.out.1.only hb2 (by omega)
  have r2 := R1.out.2.only hb2 (by omega)
  have u0 := r1.cell 0
  have u1 := r1.cell 1
  have u2 := r1.frozen 0
  have u3 := r1.frozen 1
  have u4 := r1.lt
  have u5 := r2.cell 0
  have u6 := r2.cell 1
  have u7 := r2.frozen 0
  have u8 := r2.frozen 1
  have u9 := r2.lt
  have H2 := Lib.hid (And.intro hd1 (And.intro hd2 (And.intro hb2 (And.intro r1 r2))))
  clear hd1 hd2 hb2 hR2 r1 r2
  go_wp2
  obtain ⟨hd1, hd2, hb2, r1, r2⟩ := H2.out
  have hz1 := H1.out.size
  have hS0 := Only.set (S := fun i => i = w.heap.size ∨ i = w.heap.size + 1) (p := ⟨w.heap.size, 0, none⟩) (Only.refl w2) (.inl (.inl rfl)) (.int .i64 W1)
  have hS1 := hS0.set (p := ⟨w.heap.size, 1, none⟩) (.inl (.inl rfl)) (.slice A1 svs1.length c1)
  have hS2 := hS1.set (p := ⟨w.heap.size + 1, 0, none⟩) (.inl (.inr rfl)) (.int .i64 W2)
  have hS3 := hS2.set (p := ⟨w.heap.size + 1, 1, none⟩) (.inl (.inr rfl)) (.slice A2 svs2.length c2)
  have hk : ∀ k, (k = w.heap.size ∨ k = w.heap.size + 1) → TyAt w2 k 25 := by rintro k (rfl | rfl); exact r1.ty; exact r2.ty
  refine bodyPost_ret (v := .tuple #[.agg #[.int .i64 W1, .slice A1 svs1.length c1], .agg #[.int .i64 W2, .slice A2 svs2.length c2]]) (by simp [results, Try.results30, go_sem, u0, u1, u2, u3, u4, u5, u6, u7, u8, u9]) rfl ?_
  exact ⟨W1, _, W2, _, rfl, svs1, rows1, svs2, rows2, (hd1.only hS3 fun k h => .inr (hk k h)).low (Nat.zero_le _), (hd2.only hS3 fun k h => .inr (hk k h)).low (Nat.zero_le _), Only.from_ (Only.from_ H1.out rfl hb2 (by intro i hi; omega)) rfl hS3 (by intro i hi; omega)⟩

end Go.Proofs.Ytfjpmifdmpoocaa
