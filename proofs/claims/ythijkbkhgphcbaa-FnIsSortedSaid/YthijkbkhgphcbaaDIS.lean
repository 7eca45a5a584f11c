/-
  Contract of DrawIsSorted.
-/
import Derived.Test.YthijkbkhgphcbaaProg
import Derived.Test.YthijkbkhgphcbaaKeyG
namespace Go.Proofs.Ythijkbkhgphcbaa
open Go.RowKit Go.Qo
set_option linter.unusedVariables false
set_option linter.unusedSimpArgs false

/-- What the two drawn lists are. -/
def DrawnRK (w : World) (v1 v2 : Value) (w' : World) : Prop :=
  ∃ (svs : List SV) (rows : List Row1) (keys : List Key), rows.length ≤ 400 ∧ keys.length ≤ 17 ∧ (∀ r ∈ rows, r.length ≤ 16) ∧ Ow w.heap.size 69 1 svC w' v1 svs ∧ RowsT 85 2 valC w.heap.size w' svs rows ∧ Ow w.heap.size 63 2 keyC w' v2 keys ∧ Below w.heap.size w w'
/-- The drawn rows and keys while the reader at b is in use. -/
def Half (w : World) (b p : Nat) (v1 v2 : Value) (w' : World) : Prop :=
  ∃ (svs : List SV) (rows : List Row1) (keys : List Key), rows.length ≤ 400 ∧ keys.length ≤ 17 ∧ (∀ r ∈ rows, r.length ≤ 16) ∧ Ow (b + 1) 69 1 svC w' v1 svs ∧ RowsT 85 2 valC (b + 1) w' svs rows ∧ Ow (b + 1) 63 2 keyC w' v2 keys ∧ Below w.heap.size w w' ∧ Rd w' b p
theorem Half.done {w w' : World} {b p : Nat} {v1 v2 : Value} (h : Half w b p v1 v2 w') (hb : w.heap.size ≤ b) : DrawnRK w v1 v2 w' := by
  obtain ⟨svs, rows, keys, h1, h2, h3, h4, h5, h6, h7, h8⟩ := h
  exact ⟨svs, rows, keys, h1, h2, h3, h4.low (by omega), h5.low (by omega), h6.low (by omega), h7⟩
theorem Half.but {w w1 w2 : World} {b p q : Nat} {v1 v2 : Value} (h : Half w b p v1 v2 w1) (hb : w.heap.size ≤ b) (k : But b w1 w2) (hR : Rd w2 b q) : Half w b q v1 v2 w2 := by
  obtain ⟨svs, rows, keys, h1, h2, h3, h4, h5, h6, h7, h8⟩ := h
  exact ⟨svs, rows, keys, h1, h2, h3, h4.only k (by intro i hi; left; omega), h5.only k (by intro i hi; left; omega), h6.only k (by intro i hi; left; omega), Only.from_ h7 rfl k (by intro i hi; omega), hR⟩

theorem Half.put {w wb : World} {b p g n c : Nat} {v2 : Value} (h : Half w b p (.slice (some ⟨g, 0, none⟩) n c) v2 wb) (hb : w.heap.size ≤ b) (hn : 0 < n) {Ab : Option Addr} {cb : Nat} {ys : List Val} (hy : SlT 85 2 valC (b + 1) wb Ab ys) (hy1 : ys.length ≤ cb) (hy2 : cb ≤ maxLen) (hy3 : ys.length ≤ 16) :
    Half w b p (.slice (some ⟨g, 0, none⟩) n c) v2 (wb.setCell ⟨g, 0, none⟩ (.slice Ab ys.length cb)) := by
  obtain ⟨svs, rows, keys, h1, h2, h3, h4, h5, h6, h7, h8⟩ := h
  obtain ⟨hg1, hg2, hty⟩ := h4.ty g rfl
  have hS0 := Only.set (S := fun i => i = g) (p := ⟨g, 0, none⟩) (Only.refl wb) (.inl rfl) (.slice Ab ys.length cb)
  have hp := h4.put 0 (.slice Ab ys.length cb)
  have hne : 0 < svs.length := by
    rcases h4.2 with ⟨e, _⟩ | ⟨g', cap, cur, e, _⟩
    · cases e
    · cases e; exact hn
  rw [flat_setS svs 0 ⟨Ab, ys.length, cb⟩ hne] at hp
  refine ⟨svs.set 0 ⟨Ab, ys.length, cb⟩, rows.set 0 ys, keys, by simpa using h1, h2, ?_, by unfold Ow; rw [List.length_set]; exact hp, ?_, ?_, ?_, ?_⟩
  · intro r hr
    rcases List.mem_or_eq_of_mem_set hr with h | h
    · exact h3 r h
    · subst h; exact hy3
  · exact (h5.only hS0 fun k hk => .inr ⟨69, by decide, by subst hk; exact hty⟩).set rfl hy1 hy2 (hy.only hS0 fun k hk => .inr ⟨69, by decide, by subst hk; exact hty⟩)
  · exact h6.only hS0 fun k hk => .inr ⟨69, by decide, by subst hk; exact hty⟩
  · exact h7.setCell (p := ⟨g, 0, none⟩) (show w.heap.size ≤ g by omega) _
  · exact h8.set (show b < g by omega) _

theorem Half.shape {w w1 : World} {b p : Nat} {v1 v2 : Value} (h : Half w b p v1 v2 w1) : ∃ A n c, v1 = .slice A n c := by
  obtain ⟨svs, rows, keys, h1, h2, h3, h4, h5, h6, h7, h8⟩ := h
  obtain ⟨A, c, e, _⟩ := h4.shape svC_length
  exact ⟨A, _, c, e⟩
theorem Half.len {w w1 : World} {b p n c : Nat} {A : Option Addr} {v2 : Value} (h : Half w b p (.slice A n c) v2 w1) : n ≤ 400 ∧ Rd w1 b p ∧ (0 < n → ∃ g y, A = some ⟨g, 0, none⟩ ∧ b < g ∧ g < w1.heap.size ∧ w1.cell? ⟨g, 0, none⟩ = some y ∧ w1.frozen? ⟨g, 0, none⟩ = false) := by
  obtain ⟨svs, rows, keys, h1, h2, h3, h4, h5, h6, h7, h8⟩ := h
  obtain ⟨A', c', e, h9, _, _⟩ := h4.shape svC_length
  injection e with e1 e2 e3
  subst e1; subst e2; subst e3
  refine ⟨by have := h5.1; omega, h8, fun hz => ?_⟩
  obtain ⟨g, hA8, _, hg, hgl, hty, hf, hcs⟩ := h4.head svC_length hz
  have hfl := flat_length 1 svC svC_length svs
  obtain ⟨y1, hy1⟩ : ∃ y, (svs.flatMap svC)[0]? = some y := ⟨_, List.getElem?_eq_getElem (by omega)⟩
  exact ⟨g, y1, hA8, by omega, hgl, hcs _ _ hy1, hf 0⟩

set_option maxRecDepth 20000 in
set_option maxHeartbeats 2000000 in
theorem drawIsSorted_ok (A : Option Addr) (c : Nat) (xs : List Int) (w : World) (hn : xs.length ≤ c) (hc : c ≤ maxLen) (hg : ∀ x ∈ xs, 0 ≤ x ∧ x ≤ 255) (hs : Sl 1 byteC w w.heap.size A xs) :
    Calls Try.prog 30 #[.slice A xs.length c] w fun e w' => ∃ v1 v2, e = .returned (.tuple #[v1, v2]) ∧ DrawnRK w v1 v2 w' := by
  have HN := Lib.hid (newReader_ok A c xs w hn hc hg hs)
  obtain ⟨b, hbe⟩ : ∃ b, w.heap.size = b := ⟨_, rfl⟩
  have Hbe := Lib.hid (show w.heap.size ≤ b by omega)
  rw [hbe] at HN
  have HB0 := Lib.hid hbe
  clear hs hg hc hn hbe
  go_enter Try.func30, Try.ntmps30
  go_wp2_with fail
  refine HN.out.mono ?_
  rintro e w1 ⟨rfl, hb1, hR1⟩
  have HP := Lib.hid (pick_ok b 0 3 w1 hR1 (by omega))
  have H1 := Lib.hid (show Below w.heap.size w w1 by rw [HB0.out]; exact hb1)
  clear hb1 hR1
  go_wp2_with fail
  refine HP.out.mono ?_
  rintro e w2 ⟨r0, rfl, hr0, hb2, hsz2, hR2⟩
  have q0 := hr0.1
  have q1 := hr0.2.1 (by omega)
  have H2 := Lib.hid (Only.from_ H1.out rfl hb2 (by intro i hi; have := Hbe.out; omega))
  obtain ⟨W, hW⟩ : ∃ W, 1 + r0 = W := ⟨_, rfl⟩
  have HT := Lib.hid (randomTable_ok b 1 W 6 w2 hR2 (by omega) (by omega) (by omega) (by omega))
  have hW1 : 1 ≤ W := by omega
  have hW2 : W ≤ 3 := by omega
  have hbl2 := hR2.lt
  clear hb2 hR2 hr0
  go_wp2_with fail
  refine HT.out.mono ?_
  rintro e w3 ⟨v3, svs, rows0, rows, rfl, hrl, hrv, hbt, how3, hrt3, hb3, hR3⟩
  obtain ⟨A3, c3, rfl, hc31, hc32, hs3⟩ := how3.shape svC_length
  have hz3 := hb3.size
  have HB3 := Lib.hid (balloc (Below.refl _ w3) (.cells #[.int .i64 W, .slice A3 svs.length c3] 35))
  have Hbox := Lib.hid (Row.new w3 35 #[.int .i64 W, .slice A3 svs.length c3])
  have HO3 := Lib.hid ((how3.low (show b + 1 ≤ w2.heap.size by omega)).on HB3.out)
  have HT3 := Lib.hid ((hrt3.low (show b + 1 ≤ w2.heap.size by omega)).on HB3.out)
  have H3 := Lib.hid ((Only.from_ H2.out rfl hb3 (by intro i hi; have := Hbe.out; omega)).alloc (by have := H2.out.size; omega) (.cells #[.int .i64 W, .slice A3 svs.length c3] 35))
  have hrw : rows.length ≤ 6 := by have := hbt.perm.length_eq; omega
  have hrw2 : ∀ r ∈ rows, r.length ≤ 16 := fun r hr => by have := (hrv r (hbt.perm.mem_iff.1 hr)).1; omega
  have HRW := Lib.hid (And.intro hrw hrw2)
  have hsl : svs.length = rows.length := hrt3.1
  have HK := Lib.hid (someKeys_ok b (1 + 16001) W _ (hR3.on HB3.out) (by omega) hW1 (by omega))
  have HSL := Lib.hid hsl
  have hsv6 : svs.length ≤ 6 := by omega
  clear how3 hrt3 hrv hbt hb3 hR3 hs3 hrw hrw2 hrl hsl
  go_wp2_with fail
  refine HK.out.mono ?_
  rintro e w4 ⟨v4, keys, rfl, hkl, hko, how4, hb4, hR4⟩
  obtain ⟨A4, c4, rfl, hc41, hc42, hs4⟩ := how4.shape keyC_length
  have hz4 := hb4.size
  have hbx4 := Hbox.out.only hb4 (by omega)
  have b0 : w4.cell? ⟨w3.heap.size, 0, none⟩ = some (.int .i64 W) := hbx4.cell 0
  have b1 : w4.cell? ⟨w3.heap.size, 1, none⟩ = some (.slice A3 svs.length c3) := hbx4.cell 1
  have Hbx4 := Lib.hid hbx4
  have HO4 := Lib.hid (HO3.out.only hb4 (by intro k hk; left; omega))
  have HT4 := Lib.hid (HT3.out.only hb4 (by intro k hk; left; omega))
  have HK4 := Lib.hid (how4.low (show b + 1 ≤ (w3.alloc (.cells #[.int .i64 W, .slice A3 svs.length c3] 35)).heap.size by simp; omega))
  have H4 := Lib.hid (Only.from_ H3.out rfl hb4 (by intro i hi; have := Hbe.out; omega))
  have HR4 := Lib.hid hR4
  obtain ⟨A3', c3', hv3, _, _, hs3'⟩ := HO4.out.shape svC_length
  cases hv3
  obtain ⟨d, hd⟩ : ∃ d : Bool, d = true ↔ (TabOk W rows ∧ KeysOk W keys) := ⟨_, @decide_eq_true_iff _ (Classical.propDecidable _)⟩
  have Hd := Lib.hid hd
  have HS := Lib.hid (specSortRowsT_ok W A3 A4 c3 c4 rows keys w4 (by have := HRW.out.1; omega) (by omega) (sls_of hs3' HT4.out) hs4.sl d hd)
  rw [← HSL.out] at HS
  have hkl' := Lib.hid hkl
  clear how4 hb4 hR4 hs3' hs4 hbx4 hko hd
  go_wp2_with fail
  refine HS.out.mono ?_
  rintro e w5 ⟨v5, svs5, rfl, how5, hrt5, hb5⟩
  have hz5 := hb5.size
  have hlw : b + 1 ≤ w4.heap.size := by simp at hz4; omega
  have HH5 : Half w b (1 + 16001 + 64) v5 (.slice A4 keys.length c4) w5 := by
    refine ⟨svs5, _, keys, ?_, hkl'.out, ?_, how5.low hlw, hrt5.low hlw, HK4.out.on hb5, bch H4.out hb5, HR4.out.on hb5⟩
    · split
      · rw [sortK_length]; have := HRW.out.1; omega
      · simp
    · intro r hr
      split at hr
      · rename_i hd
        have hd' := Hd.out.1 hd
        exact HRW.out.2 r ((sortK_perm hd'.2.1 (TabOk.allRows hd'.1)).mem_iff.1 hr)
      · simp at hr
  have H5 := Lib.hid HH5
  have HP5 := Lib.hid (pick_ok b (1 + 16001 + 64) 2 w5 (HR4.out.on hb5) (by omega))
  have Hbx5 := Lib.hid (Hbx4.out.on hb5)
  have HO5 := Lib.hid (HO4.out.on hb5)
  have HT5 := Lib.hid (HT4.out.on hb5)
  clear how5 hrt5 hb5 HH5 b0 b1
  go_wp2_with fail
  refine HP5.out.mono ?_
  rintro e w6 ⟨r6, rfl, hr6, hb6, hsz6, hR6⟩
  have H6 := Lib.hid (H5.out.but Hbe.out hb6 hR6)
  have hz6 := hb6.size
  by_cases h60 : r6 = 0
  · subst h60
    have hbx6 := Hbx5.out.only hb6 (show w3.heap.size ≠ b by omega)
    have b0 : w6.cell? ⟨w3.heap.size, 0, none⟩ = some (.int .i64 W) := hbx6.cell 0
    have b1 : w6.cell? ⟨w3.heap.size, 1, none⟩ = some (.slice A3 svs.length c3) := hbx6.cell 1
    have hl36 := hbx6.lt
    have HO6 := Lib.hid (HO5.out.only hb6 (by intro k hk; left; omega))
    have HT6 := Lib.hid (HT5.out.only hb6 (by intro k hk; left; omega))
    have BA := Lib.hid (balloc (Below.refl _ w6) (.cells #[] 69))
    have L0 := Lib.hid (Ow.lit (w := w6) (lo := w6.heap.size) (e := 69) (enc := svC) (xs := ([] : List SV)) (cs := #[]) (sz := 1) rfl rfl (Nat.le_refl _) (by decide))
    obtain ⟨A3', c3', hv3, _, _, hs3'⟩ := HO6.out.shape svC_length
    cases hv3
    have S6 := Lib.hid ((hs3'.on BA.out).sl)
    have hsz6' : w6.heap.size ≤ (w6.alloc (.cells #[] 69)).heap.size := by simp
    clear hs3' hbx6 hb6 hR6 hr6 hsz6
    have HXF := Lib.hid (fun (A8 : Option Addr) (c8 : Nat) (w8 : World) (how8 : Ow w6.heap.size 69 1 svC w8 (.slice A8 svs.length c8) svs) (B8 : Below w6.heap.size w6 w8) => show Hid (Half w b (1 + 16001 + 64 + 1) (.slice A8 svs.length c8) (.slice A4 keys.length c4) w8) from by
      refine Lib.hid ?_
      obtain ⟨svs', rows', keys', h1, h2, h3, h4, h5, h6, h7, h8⟩ := H6.out
      exact ⟨svs, rows, keys', by have := HRW.out.1; omega, h2, HRW.out.2, how8.low (by omega), HT6.out.on B8, h6.on B8, bch h7 B8, h8.on B8⟩)
    rcases Nat.eq_zero_or_pos svs.length with hz | hz
    · have hz0 : ¬ ((0 : Int) < (svs.length : Int)) := by omega
      have hzz := Lib.hid hz
      clear hz
      go_wp2_with (at_builtin; refine wpList_app rfl (.tmp 26) (.tmp 28) 33 rfl w6.heap.size 69 _ 1 24 svC Try.underlying33 zeroRow rfl (by decide) (by decide) svC_length svC_one _ [] rfl L0.out A3 svs.length c3 svs rfl rfl S6.out (by simp <;> omega) hsz6' ?_; intro v8 w8 how8 hgr8; rw [List.nil_append] at how8; obtain ⟨A8, c8, rfl, _, _, _⟩ := how8.shape svC_length; have B8 := Lib.hid (BA.out.grown hgr8 hsz6' fun q hq => (L0.out.ty q hq).1); have HX := HXF.out _ _ _ how8 B8.out; clear how8 hgr8)
      go_ret2
      exact ⟨_, _, rfl, HX.out.done Hbe.out⟩
    · have hz0 : ((0 : Int) < (svs.length : Int)) := by omega
      go_wp2_with (at_builtin; refine wpList_app rfl (.tmp 26) (.tmp 28) 33 rfl w6.heap.size 69 _ 1 24 svC Try.underlying33 zeroRow rfl (by decide) (by decide) svC_length svC_one _ [] rfl L0.out A3 svs.length c3 svs rfl rfl S6.out (by simp <;> omega) hsz6' ?_; intro v8 w8 how8 hgr8; rw [List.nil_append] at how8; obtain ⟨A8, c8, rfl, _, _, _⟩ := how8.shape svC_length; have B8 := Lib.hid (BA.out.grown hgr8 hsz6' fun q hq => (L0.out.ty q hq).1); have HX := HXF.out _ _ _ how8 B8.out; clear how8 hgr8)
      obtain ⟨hL4, hRL, hLen⟩ := HX.out.len
      have hblt := hRL.lt
      have HP8 := Lib.hid (pick_ok b (1 + 16001 + 64 + 1) 12 w8 hRL (by omega))
      obtain ⟨g, y0, hA8, hg, hgl, hyc, hyf⟩ := hLen hz
      subst hA8
      clear hyc hyf hRL hLen
      refine HP8.out.mono ?_
      rintro e wa ⟨ra, rfl, hra, hba, hsza, hRa⟩
      have HXa := Lib.hid (HX.out.but Hbe.out hba hRa)
      have hza := hba.size
      by_cases hra0 : ra = 0
      · subst hra0
        have HAR := Lib.hid (anyRow_ok b ((1 + 16001 + 64 + 1) + 1) W wa hRa (by omega) (by omega) hW1)
        clear hra hba hRa hsza
        go_wp2_with fail
        refine HAR.out.mono ?_
        rintro e wb ⟨vb, ys, rfl, hyl, hyv, howb, hbb, hRb⟩
        obtain ⟨Ab, cb, rfl, hcb1, hcb2, hsb⟩ := howb.shape valC_length
        have HXb := Lib.hid (HXa.out.but Hbe.out hbb hRb)
        have HSB := Lib.hid (And.intro (hsb.low (show b + 1 ≤ wa.heap.size by omega)) (And.intro hcb1 (And.intro hcb2 hyl)))
        obtain ⟨g', y1, hg', _, _, c0, f0⟩ := HXb.out.len.2.2 hz
        cases hg'
        clear hsb howb hbb hRb hyv hyl hcb1 hcb2
        go_wp2
        go_ret2
        exact ⟨_, _, rfl, (HXb.out.put Hbe.out hz HSB.out.1 HSB.out.2.1 HSB.out.2.2.1 HSB.out.2.2.2).done Hbe.out⟩
      · clear hra hba hRa hsza
        go_wp2
        go_ret2
        exact ⟨_, _, rfl, HXa.out.done Hbe.out⟩
  · clear hb6 hR6 hr6 hsz6
    obtain ⟨A8, n8, c8, rfl⟩ := H6.out.shape
    have HX := H6
    obtain ⟨hL4, hRL, hLen⟩ := HX.out.len
    have HP8 := Lib.hid (pick_ok b (1 + 16001 + 64 + 1) 12 w6 hRL (by omega))
    have hblt := hRL.lt
    have HLen := Lib.hid hLen
    clear hRL hLen
    rcases Nat.eq_zero_or_pos n8 with hz | hz
    · have hz0 : ¬ ((0 : Int) < (n8 : Int)) := by omega
      have hzz := Lib.hid hz
      clear hz
      go_wp2_with fail
      go_ret2
      exact ⟨_, _, rfl, HX.out.done Hbe.out⟩
    · have hz0 : ((0 : Int) < (n8 : Int)) := by omega
      obtain ⟨g, y0, hA8, hg, hgl, hyc, hyf⟩ := HLen.out hz
      subst hA8
      clear hyc hyf
      go_wp2_with fail
      refine HP8.out.mono ?_
      rintro e wa ⟨ra, rfl, hra, hba, hsza, hRa⟩
      have HXa := Lib.hid (HX.out.but Hbe.out hba hRa)
      have hza := hba.size
      by_cases hra0 : ra = 0
      · subst hra0
        have HAR := Lib.hid (anyRow_ok b ((1 + 16001 + 64 + 1) + 1) W wa hRa (by omega) (by omega) hW1)
        clear hra hba hRa hsza
        go_wp2_with fail
        refine HAR.out.mono ?_
        rintro e wb ⟨vb, ys, rfl, hyl, hyv, howb, hbb, hRb⟩
        obtain ⟨Ab, cb, rfl, hcb1, hcb2, hsb⟩ := howb.shape valC_length
        have HXb := Lib.hid (HXa.out.but Hbe.out hbb hRb)
        have HSB := Lib.hid (And.intro (hsb.low (show b + 1 ≤ wa.heap.size by omega)) (And.intro hcb1 (And.intro hcb2 hyl)))
        obtain ⟨g', y1, hg', _, _, c0, f0⟩ := HXb.out.len.2.2 hz
        cases hg'
        clear hsb howb hbb hRb hyv hyl hcb1 hcb2
        go_wp2
        go_ret2
        exact ⟨_, _, rfl, (HXb.out.put Hbe.out hz HSB.out.1 HSB.out.2.1 HSB.out.2.2.1 HSB.out.2.2.2).done Hbe.out⟩
      · clear hra hba hRa hsza
        go_wp2
        go_ret2
        exact ⟨_, _, rfl, HXa.out.done Hbe.out⟩
end Go.Proofs.Ythijkbkhgphcbaa
