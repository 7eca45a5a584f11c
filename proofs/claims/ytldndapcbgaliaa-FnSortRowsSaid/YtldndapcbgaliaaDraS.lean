/-
  Contracts of DrawSortRows, DrawTopRows.
-/
import Derived.Test.YtldndapcbgaliaaProg
import Derived.Test.YtldndapcbgaliaaAnyT
import Derived.Test.YtldndapcbgaliaaKeyG
namespace Go.Proofs.Ytldndapcbgaliaa
open Go.RowKit Go.Qo
set_option linter.unusedVariables false
set_option linter.unusedSimpArgs false

/-- A drawn table and keys. -/
def DrawnTK (w : World) (W : Int) (v1 v2 : Value) (w' : World) : Prop :=
  ∃ (svs : List SV) (rows : List Row1) (keys : List Key), W ≤ 16 ∧ rows.length ≤ 16 ∧ keys.length ≤ 17 ∧ (∀ r ∈ rows, r.length ≤ 16) ∧ Ow w.heap.size 41 1 svC w' v1 svs ∧ RowsT 40 2 valC w.heap.size w' svs rows ∧ Ow w.heap.size 109 2 keyC w' v2 keys ∧ Below w.heap.size w w'

theorem resDS {b : Nat} {v0 v1 v2 : Value} (tmps : Array Value) (hp : tmps.getD 2 undef = .pointer (some ⟨b, 0, none⟩)) (hk : tmps.getD 3 undef = v2) (w : World) (c0 : w.cell? ⟨b, 0, none⟩ = some v0) (c1 : w.cell? ⟨b, 1, none⟩ = some v1) :
    (results Try.f12 tmps).run Try.prog w = .ok (.tuple #[.agg #[v0, v1], v2]) w := by
  simp only [Array.getD_eq_getD_getElem?] at hp hk
  simp [results, Try.results12, go_sem, hp, hk, c0, c1]

set_option maxRecDepth 20000 in
set_option maxHeartbeats 2000000 in
theorem drawSortRows_ok (A : Option Addr) (c : Nat) (xs : List Int) (w : World) (hn : xs.length ≤ c) (hc : c ≤ maxLen) (hg : ∀ x ∈ xs, 0 ≤ x ∧ x ≤ 255) (hs : Sl 1 byteC w w.heap.size A xs) :
    Calls Try.prog 12 #[.slice A xs.length c] w fun e w' => ∃ W v1 v2, e = .returned (.tuple #[.agg #[.int .i64 W, v1], v2]) ∧ DrawnTK w W v1 v2 w' := by
  have HB0 := Lib.hid (balloc (Below.refl w.heap.size w) (.cells #[.int .i64 0, .slice none 0 0] 25))
  have R0 := Lib.hid (Row.new w 25 #[.int .i64 0, .slice none 0 0])
  have HN := Lib.hid (newReader_ok A c xs _ hn hc hg (hs.on HB0.out))
  have HNS := HB0.out.size
  obtain ⟨b, hbe⟩ : ∃ b, (w.alloc (.cells #[.int .i64 0, .slice none 0 0] 25)).heap.size = b := ⟨_, rfl⟩
  rw [hbe] at HN
  have hbe' : w.heap.size + 1 = b := by rw [← hbe]; simp
  have Hbe := Lib.hid hbe
  clear hs hg hc hn hbe HNS
  go_enter Try.func12, Try.ntmps12
  go_wp2_with fail
  refine HN.out.mono ?_
  rintro e w1 ⟨rfl, hb1, hR1⟩
  rw [← Hbe.out] at hb1
  have HP := Lib.hid (pick_ok b 0 3 w1 hR1 (by omega))
  have H1 := Lib.hid (bch HB0.out hb1)
  have r1 := Lib.hid (R0.out.on hb1)
  clear hb1 hR1
  go_wp2_with fail
  refine HP.out.mono ?_
  rintro e w2 ⟨r0, rfl, hr0, hb2, hsz2, hR2⟩
  have q0 := hr0.1
  have q1 := hr0.2.1 (by omega)
  have H2 := Lib.hid (Only.from_ H1.out rfl hb2 (by intro i hi; omega))
  have r2 := Lib.hid (r1.out.only hb2 (by omega))
  obtain ⟨W, hW⟩ : ∃ W, 1 + r0 = W := ⟨_, rfl⟩
  have HT := Lib.hid (anyTable_ok b 1 W 7 w2 hR2 (by omega) (by omega) (by omega) (by omega) (by omega))
  have hW1 : 1 ≤ W := by omega
  have hW2 : W ≤ 3 := by omega
  have hbl2 := hR2.lt
  clear hb2 hR2 hr0
  go_wp2_with fail
  refine HT.out.mono ?_
  rintro e w3 ⟨W3, v3, svs, rows, rfl, hW3, hrl, hrw, how3, hrt3, hb3, hR3⟩
  obtain ⟨A3, c3, rfl, hc31, hc32, hs3⟩ := how3.shape svC_length
  have hz3 := hb3.size
  have HB3 := Lib.hid (balloc (Below.refl _ w3) (.cells #[.int .i64 W3, .slice A3 svs.length c3] 25))
  have HO3 := Lib.hid ((how3.low (show b + 1 ≤ w2.heap.size by omega)).on HB3.out)
  have HT3 := Lib.hid ((hrt3.low (show b + 1 ≤ w2.heap.size by omega)).on HB3.out)
  have H3 := Lib.hid ((Only.from_ H2.out rfl hb3 (by intro i hi; omega)).alloc (by have := H2.out.size; omega) (.cells #[.int .i64 W3, .slice A3 svs.length c3] 25))
  have r3 := Lib.hid ((r2.out.only hb3 (by omega)).alloc (.cells #[.int .i64 W3, .slice A3 svs.length c3] 25))
  have Hbox := Lib.hid (Row.new w3 25 #[.int .i64 W3, .slice A3 svs.length c3])
  have HL3 := Lib.hid (And.intro hrl (And.intro hrw hW3))
  have HR3 := Lib.hid (hR3.on HB3.out)
  clear how3 hrt3 hb3 hR3 hs3 hrw hrl hW3
  obtain ⟨w4, hw4⟩ : ∃ w4, w3.alloc (.cells #[.int .i64 W3, .slice A3 svs.length c3] 25) = w4 := ⟨_, rfl⟩
  have hz4 : w3.heap.size + 1 = w4.heap.size := by rw [← hw4]; simp
  rw [hw4] at HB3 HO3 HT3 H3 r3 Hbox HR3
  have Hw4 := Lib.hid hw4
  clear hw4
  go_wp2
  rw [Hw4.out]
  have b0 : w4.cell? ⟨w3.heap.size, 0, none⟩ = some (.int .i64 W3) := Hbox.out.cell 0
  have b1 : w4.cell? ⟨w3.heap.size, 1, none⟩ = some (.slice A3 svs.length c3) := Hbox.out.cell 1
  have a0 : w4.cell? ⟨w.heap.size, 0, none⟩ = some (.int .i64 0) := r3.out.cell 0
  have a1 : w4.cell? ⟨w.heap.size, 1, none⟩ = some (.slice none 0 0) := r3.out.cell 1
  have f0 := r3.out.frozen 0
  have f1 := r3.out.frozen 1
  have l0 := r3.out.lt
  have HK := Lib.hid (fun (z : World) (hz : Rd z b (1 + 17000)) => someKeys_ok b (1 + 17000) W z hz (by omega) hW1 (by omega))
  go_region_law (go_simp; go_at_call 49; refine (HK.out _ (HR3.out.on (Below.refl _ _).drew)).mono ?_; rintro e w5 ⟨v5, keys, rfl, hkl, hko, how5, hb5', hR5⟩; have hb5 : But b w4 w5 := (Only.refl w4).drew.trans hb5'; clear hb5'; have hr5 := r3.out.only hb5 (by omega); have hq5 := Hbox.out.only hb5 (by omega); have t0 : w5.cell? ⟨w3.heap.size, 0, none⟩ = some (.int .i64 W3) := hq5.cell 0; have t1 : w5.cell? ⟨w3.heap.size, 1, none⟩ = some (.slice A3 svs.length c3) := hq5.cell 1; clear hq5; have s0 := hr5.cell 0; have s1 := hr5.cell 1; have s2 := hr5.frozen 0; have s3 := hr5.frozen 1; have s4 := hr5.lt; have H5 := Lib.hid (And.intro hkl (And.intro how5 (And.intro hb5 hr5))); clear hkl hko how5 hb5 hR5 hr5)
  all_goals (
    go_wp2
    obtain ⟨hkl, how5, hb5, hr5⟩ := H5.out
    obtain ⟨A5, c5, rfl, _, _, _⟩ := how5.shape keyC_length
    have hw3 := H3.out.size
    have hS1 := (Only.set (S := fun i => i = w.heap.size) (p := ⟨w.heap.size, 0, none⟩) (Only.refl w5) (.inl rfl) (.int .i64 W3)).set (p := ⟨w.heap.size, 1, none⟩) (.inl rfl) (.slice A3 svs.length c3)
    refine bodyPost_ret (v := .tuple #[.agg #[.int .i64 W3, .slice A3 svs.length c3], .slice A5 keys.length c5]) (by simp [results, Try.results12, go_sem, s0, s1, s2, s3, s4]) rfl ⟨W3, _, _, rfl, svs, rows, keys, HL3.out.2.2, by have := HL3.out.1; simp at this; omega, hkl, HL3.out.2.1, ?_, ?_, ?_, ?_⟩
    · exact ((HO3.out.only hb5 (by intro k hk; left; omega)).only hS1 fun i hi => .inr ⟨25, by decide, by subst hi; exact hr5.ty⟩).low (by omega)
    · exact ((HT3.out.only hb5 (by intro k hk; left; omega)).only hS1 fun i hi => .inr ⟨25, by decide, by subst hi; exact hr5.ty⟩).low (by omega)
    · exact (how5.only hS1 fun i hi => .inr ⟨25, by decide, by subst hi; exact hr5.ty⟩).low (show w.heap.size ≤ w4.drew.heap.size from hw3)
    · exact ((Only.from_ H3.out rfl hb5 (by intro i hi; omega)).setCell (p := ⟨w.heap.size, 0, none⟩) (Nat.le_refl _) _).setCell (p := ⟨w.heap.size, 1, none⟩) (Nat.le_refl _) _)
end Go.Proofs.Ytldndapcbgaliaa
