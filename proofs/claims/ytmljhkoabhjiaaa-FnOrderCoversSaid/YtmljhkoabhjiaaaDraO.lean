/-
  Contract of DrawOrderCovers.
-/
import Derived.Test.YtmljhkoabhjiaaaProg
import Derived.Test.YtmljhkoabhjiaaaKeyG
namespace Go.Proofs.Ytmljhkoabhjiaaa
open Go.RowKit Go.Qo
set_option linter.unusedVariables false
set_option linter.unusedSimpArgs false

/-- Two drawn lists of keys. -/
def DrawnKK (w : World) (v1 v2 : Value) (w' : World) : Prop :=
  ∃ (k1 k2 : List Key), k1.length ≤ 17 ∧ k2.length ≤ 17 ∧ Ow w.heap.size 92 2 keyC w' v1 k1 ∧ Ow w.heap.size 92 2 keyC w' v2 k2 ∧ Below w.heap.size w w'

set_option maxRecDepth 20000 in
set_option maxHeartbeats 2000000 in
theorem drawOrderCovers_ok (A : Option Addr) (c : Nat) (xs : List Int) (w : World) (hn : xs.length ≤ c) (hc : c ≤ maxLen) (hg : ∀ x ∈ xs, 0 ≤ x ∧ x ≤ 255) (hs : Sl 1 byteC w w.heap.size A xs) :
    Calls Try.prog 26 #[.slice A xs.length c] w fun e w' => ∃ v1 v2, e = .returned (.tuple #[v1, v2]) ∧ DrawnKK w v1 v2 w' := by
  have HN := Lib.hid (newReader_ok A c xs w hn hc hg hs)
  obtain ⟨b, hbe⟩ : ∃ b, w.heap.size = b := ⟨_, rfl⟩
  have Hbe := Lib.hid (show w.heap.size ≤ b by omega)
  rw [hbe] at HN
  have HB0 := Lib.hid hbe
  clear hs hg hc hn hbe
  go_enter Try.func26, Try.ntmps26
  go_wp2_with fail
  refine HN.out.mono ?_
  rintro e w1 ⟨rfl, hb1, hR1⟩
  have H1 := Lib.hid (show Below w.heap.size w w1 by rw [HB0.out]; exact hb1)
  have hz1 := hR1.lt
  have HK := Lib.hid (fun (p : Nat) (z : World) (hz : Rd z b p) (hp : p ≤ 1000) => someKeys_ok b p 3 z hz (by omega) (by omega) (by omega))
  have HR1 := Lib.hid hR1
  clear hb1 hR1
  go_wp2_with fail
  refine (HK.out 0 _ HR1.out (by omega)).mono ?_
  rintro e w2 ⟨v2, k1, rfl, hkl1, _, how2, hb2, hR2⟩
  obtain ⟨A2, c2, rfl, hc21, hc22, hs2⟩ := how2.shape keyC_length
  have hz2 := hb2.size
  have H2 := Lib.hid (Only.from_ H1.out rfl hb2 (by intro i hi; have := Hbe.out; omega))
  have HP2 := Lib.hid (pick_ok b (0 + 64) 2 w2 hR2 (by omega))
  have HO2 := Lib.hid (how2.low (show b + 1 ≤ w1.heap.size by omega))
  clear hs2 hb2 hR2 how2
  go_wp2_with fail
  refine HP2.out.mono ?_
  rintro e w3 ⟨r3, rfl, hr3, hb3, _, hR3⟩
  have H3 := Lib.hid (Only.from_ H2.out rfl hb3 (by intro i hi; have := Hbe.out; omega))
  have HO3 := Lib.hid (HO2.out.only hb3 (by intro k hk; left; omega))
  have HR3 := Lib.hid hR3
  have hz3 := hb3.size
  clear hb3 hR3 hr3
  by_cases h0 : r3 = 0
  · subst h0
    obtain ⟨A3, c3, hv3, hc31, hc32, hs3⟩ := HO3.out.shape keyC_length
    cases hv3
    have BA := Lib.hid (balloc (Below.refl _ w3) (.cells #[] 92))
    have L0 := Lib.hid (Ow.lit (w := w3) (lo := w3.heap.size) (e := 92) (enc := keyC) (xs := ([] : List Key)) (cs := #[]) (sz := 2) rfl rfl (Nat.le_refl _) (by decide))
    have HP4 := Lib.hid (pick_ok b (0 + 64 + 1) ((k1.length : Int) + 1) _ (HR3.out.on BA.out) (by omega))
    have HS3 := Lib.hid (hs3.on BA.out)
    have HO4 := Lib.hid (HO3.out.on BA.out)
    clear hs3
    go_wp2_with fail
    refine HP4.out.mono ?_
    rintro e w4 ⟨r4, rfl, hr4, hb4, _, hR4⟩
    have q0 := hr4.1
    have q1 := hr4.2.1 (by omega)
    obtain ⟨n, rfl⟩ := Int.eq_ofNat_of_zero_le q0
    have hn1 : n ≤ k1.length := by omega
    have hn2 : n ≤ c2 := by omega
    have hz4 := hb4.size
    rw [World.size_alloc] at hz4
    have L4 := Lib.hid (L0.out.only hb4 (by intro k hk; left; omega))
    have HO5 := Lib.hid (HO4.out.only hb4 (by intro k hk; left; omega))
    have HC5 := Lib.hid (((SlT.only HS3.out hb4 (by intro k hk; left; omega)).sl).cut n)
    have hln : (k1.take n).length = n := by rw [List.length_take]; omega
    have HLN := Lib.hid hln
    have H4 := Lib.hid (Only.from_ ((H3.out.alloc (H3.out.size) (.cells #[] 92))) rfl hb4 (by intro i hi; have := Hbe.out; omega))
    have hsz5 : w3.heap.size ≤ w4.heap.size := by omega
    have HB4 := Lib.hid hb4
    clear hb4 hR4 hr4 hln
    go_wp2_with (at_builtin; refine wpList_app rfl (.tmp 14) (.tmp 21) 44 rfl w3.heap.size 92 _ 2 16 keyC Try.underlying44 zeroKey rfl (by decide) (by decide) keyC_length keyC_one _ [] rfl L4.out A2 n c2 (k1.take n) rfl HLN.out.symm HC5.out (by rw [HLN.out]; simp; omega) hsz5 ?_; intro v6 w6 how6 hgr6; rw [List.nil_append] at how6)
    go_ret2
    have hrow : ∀ q, Value.ownBlock _ = some q → w3.heap.size ≤ q := fun q hq => (L4.out.ty q hq).1
    have hw := Hbe.out
    have hlt : ∀ k, k < w3.heap.size → w6.heap[k]? = w4.heap[k]? := fun k hk => hgr6.block k (by omega) fun e => by have := hrow _ e.symm; omega
    have hz6 := hgr6.size
    refine ⟨_, _, rfl, k1, k1.take n, hkl1, by rw [HLN.out]; omega, (HO3.out.keep fun k h1 h2 _ => (hlt k h2).trans ((HB4.out.block k (by simp; omega) (by omega)).trans (BA.out.block k h2))).low (by omega), how6.low (by omega), ?_⟩
    exact H4.out.grown hgr6 H4.out.size fun k hk => by have := hrow _ hk; have := H3.out.size; omega
  · have HK3 := Lib.hid (HK.out (0 + 64 + 1) _ HR3.out (by omega))
    go_wp2_with fail
    refine HK3.out.mono ?_
    rintro e w4 ⟨v4, k2, rfl, hkl2, _, how4, hb4, hR4⟩
    go_wp2
    go_ret2
    have hw := Hbe.out
    exact ⟨_, _, rfl, k1, k2, hkl1, hkl2, (HO3.out.only hb4 (by intro k hk; left; omega)).low (by omega), how4.low (by omega), Only.from_ H3.out rfl hb4 (by intro i hi; omega)⟩
end Go.Proofs.Ytmljhkoabhjiaaa
