/-
  Contract of the drawing of keys: someKeys.
-/
import Derived.Test.YtldndapcbgaliaaProg
import Derived.Test.YtldndapcbgaliaaTabG
import Derived.Test.YtldndapcbgaliaaMemR
namespace Go.Proofs.Ytldndapcbgaliaa
open Go.RowKit Go.Qo
set_option linter.unusedVariables false
set_option linter.unusedSimpArgs false

theorem keyC_one (x : Key) : ∀ u ∈ keyC x, u.oneCell' = true := by intro u hu; simp [keyC] at hu; rcases hu with rfl | rfl <;> rfl
def GotKeys (b p : Nat) (w : World) (e : Ending) (w' : World) : Prop :=
  ∃ (v : Value) (keys : List Key), e = .returned v ∧ keys.length ≤ 17 ∧ (∀ k ∈ keys, -1 ≤ k.1 ∧ k.1 ≤ 16) ∧ Ow w.heap.size 109 2 keyC w' v keys ∧ But b w w' ∧ Rd w' b p

set_option maxRecDepth 20000 in
set_option maxHeartbeats 1000000 in
theorem someKeys_ok (b p : Nat) (W : Int) (w : World) (h : Rd w b p) (hp : p + 64 ≤ 1099511627776) (hW1 : 1 ≤ W) (hW : W ≤ 16) :
    Calls Try.prog 49 #[.pointer (some ⟨b, 0, none⟩), .int .i64 W] w (GotKeys b (p + 64) w) := by
  have hlt := h.lt
  have HR := Lib.hid h
  clear h
  go_enter Try.func49, Try.ntmps49
  go_wp2
  go_loopg [5, 6] W.toNat (fun g v i wr => ∃ (k : Nat) (keys : List Key), k ≤ W.toNat ∧ g = W.toNat - k ∧ i = .int .i64 k ∧ keys.length ≤ k ∧ (∀ k ∈ keys, -1 ≤ k.1 ∧ k.1 ≤ 16) ∧ Ow w.heap.size 109 2 keyC wr v keys ∧ But b w wr ∧ Rd wr b (p + 3 * k))
  case atStart => exact ⟨0, [], by omega, by omega, rfl, by simp, by simp, Ow.lit (xs := ([] : List Key)) rfl rfl (Nat.le_refl _) (by decide), (Only.refl w).alloc _, HR.out.on (balloc (Below.refl _ _) _)⟩
  case round =>
    obtain ⟨k, keys, hk, rfl, rfl, hkl, hok, how, hb, hR⟩ := hrel
    have hsz := hb.size
    have hk16 : k ≤ 16 := by omega
    have HB := Lib.hid (And.intro how (And.intro hb (And.intro hR hok)))
    obtain ⟨A, c, rfl, hc1, hc2, hs⟩ := how.shape keyC_length
    clear how hb hok hs
    by_cases hlt2 : (k : Int) < W
    · have HP := Lib.hid (pick_ok b (p + 3 * k) 2 wr hR (by omega))
      clear hR
      go_wp2_with fail
      refine HP.out.mono ?_
      rintro e w1 ⟨r, rfl, hr, hb1, hsz1, hR1⟩
      have HO1 := Lib.hid (HB.out.1.only hb1 (by intro k hk; left; omega))
      have HB1 := Lib.hid (HB.out.2.1.trans hb1)
      have hz1 := hb1.size
      clear hb1
      by_cases h0 : r = 0
      · subst h0
        have HP2 := Lib.hid (pick_ok b (p + 3 * k + 1) W w1.drew (hR1.on (Below.refl _ _).drew) (by omega))
        have HR1 := Lib.hid hR1
        clear hR1 hr
        go_wp2
        go_region_law (first
          | (go_simp; go_at_call 47; refine (HP3.out).mono ?_; rintro e w3 ⟨r3, rfl, hr3, hb3, hsz3, hR3⟩; have HO3 := Lib.hid ((HO2.out.only hb3 (by intro k hk; left; omega)).on (balloc (Below.refl _ _) (.cells #[.int .i64 col, .bool (r3 == 0)] 109))); have HS3 := Lib.hid (Row.sl' (w := w3.alloc (.cells #[.int .i64 col, .bool (r3 == 0)] 109)) (t := 109) (xs := [((col, r3 == 0) : Key)]) keyC_length ((Row.new w3 _ _).of rfl)); have hz3 := hb3.size; have hsz4 : w.heap.size ≤ (w3.alloc (.cells #[.int .i64 col, .bool (r3 == 0)] 109)).heap.size := (by simp; omega); have HB3 := Lib.hid (HB2.out.trans hb3); have HR3 := Lib.hid hR3; clear hb3 hR3 hr3)
          | (go_simp; go_at_call 47; refine (HP2.out).mono ?_; rintro e w2 ⟨r2, rfl, hr2, hb2, hsz2, hR2⟩; have HP3 := Lib.hid (pick_ok b (p + 3 * k + 2) 2 w2 hR2 (by omega)); have q0 := hr2.1; have q1 := hr2.2.1 hW1; obtain ⟨col, hcol⟩ : ∃ col, ((k : Int) + r2).tmod W = col := ⟨_, rfl⟩; have hw0 : ¬ W = 0 := (by omega); have hwr : IntKind.i64.wrap ((k : Int) + r2) = (k : Int) + r2 := IntWalk.i64_in _ (by omega); have hcb := Lib.hid (show 0 ≤ col ∧ col < W from hcol ▸ ⟨Int.tmod_nonneg _ (by omega), Int.tmod_lt_of_pos _ (by omega)⟩); have HO2 := Lib.hid ((HO1.out.on (Below.refl _ _).drew).only hb2 (by intro k hk; left; omega)); have HB2 := Lib.hid (HB1.out.drew.trans hb2); have hz2 : w1.heap.size ≤ w2.heap.size := hb2.size; clear hb2 hR2 hr2)
          | (refine step_app rfl (.tmp 16) (.tmp 28) 26 rfl w.heap.size 109 _ 2 16 keyC Try.underlying26 zeroKey rfl (by decide) (by decide) keyC_length keyC_one _ keys rfl HO3.out (some ⟨w3.heap.size, 0, none⟩) 1 1 [((col, r3 == 0) : Key)] rfl rfl HS3.out (by simp <;> omega) hsz4 ?_; intro v4 w4 how4 hgr4))
        all_goals (
          go_wp2
          go_roundg (W.toNat - (k + 1))
          case measure => omega
          case rel =>
            refine ⟨k + 1, keys ++ [(col, r3 == 0)], by omega, rfl, by go_num, by simp; omega, ?_, how4, ?_, ?_⟩
            · intro x hx
              rcases List.mem_append.1 hx with h1 | h1
              · exact HB.out.2.2.2 x h1
              · simp only [List.mem_singleton] at h1
                subst h1
                have := hcb.out
                show -1 ≤ col ∧ col ≤ 16
                omega
            · exact (HB3.out.alloc _).grown hgr4 fun q hq => .inr (HO3.out.ty q hq).1
            · exact ((HR3.out.on (balloc (Below.refl _ _) _)).grown hgr4 fun q hq => by have := (HO3.out.ty q hq).1; omega).mono (by omega))
      · go_wp2
        go_roundg (W.toNat - (k + 1))
        case measure => omega
        case rel => exact ⟨k + 1, keys, by omega, rfl, by go_num, by omega, HB.out.2.2.2, HO1.out, HB1.out, hR1.mono (by omega)⟩
    · have HP := Lib.hid (pick_ok b (p + 3 * k) 16 wr hR (by omega))
      clear hR
      go_wp2_with fail
      refine HP.out.mono ?_
      rintro e w1 ⟨r, rfl, hr, hb1, hsz1, hR1⟩
      have HO1 := Lib.hid (HB.out.1.only hb1 (by intro k hk; left; omega))
      have HB1 := Lib.hid (HB.out.2.1.trans hb1)
      have hz1 := hb1.size
      clear hb1
      by_cases h0 : r = 0
      · subst h0
        have HQ := Lib.hid (one_ok b (p + 3 * k + 1) (some ⟨w1.heap.size, 0, none⟩) 2 [-1, W] _ (hR1.on (balloc (Below.refl _ _) (.cells ([-1, W].map (Value.int .i64)).toArray 3))) (by omega) (by simp) (by simp) (ints5 w1 [-1, W] 3) (by rintro a ha; cases ha; exact (show w1.heap.size ≠ b by omega)))
        clear hR1 hr
        go_wp2_with (first
          | (go_at_call 84; refine (HQ.out).mono ?_; rintro e w2 ⟨r2, rfl, hr2, hb2, hsz2, hR2⟩; have hz2 := hb2.size; have hc2 : -1 ≤ r2 ∧ r2 ≤ 16 := (by simp at hr2; omega); have HO2 := Lib.hid ((((HO1.out.on (balloc (Below.refl _ _) (.cells ([-1, W].map (Value.int .i64)).toArray 3))).only hb2 (by intro k hk; left; omega)).on (balloc (Below.refl _ _) (.cells #[.int .i64 r2, .bool false] 109)))); have HS2 := Lib.hid (Row.sl' (w := w2.alloc (.cells #[.int .i64 r2, .bool false] 109)) (t := 109) (xs := [((r2, false) : Key)]) keyC_length ((Row.new w2 _ _).of rfl)); have hszw : w1.heap.size ≤ w2.heap.size := (by simp at hz2; omega); have hsz4 : w.heap.size ≤ (w2.alloc (.cells #[.int .i64 r2, .bool false] 109)).heap.size := (by simp; omega); have HB2 := Lib.hid ((HB1.out.alloc (.cells ([-1, W].map (Value.int .i64)).toArray 3)).trans hb2); have HR2 := Lib.hid hR2; have Hc2 := Lib.hid hc2; clear hb2 hR2 hr2 hc2)
          | (at_builtin; refine wpList_app rfl (.tmp 33) (.tmp 39) 26 rfl w.heap.size 109 _ 2 16 keyC Try.underlying26 zeroKey rfl (by decide) (by decide) keyC_length keyC_one _ keys rfl HO2.out (some ⟨w2.heap.size, 0, none⟩) 1 1 [((r2, false) : Key)] rfl rfl HS2.out (by simp <;> omega) hsz4 ?_; intro v4 w4 how4 hgr4))
        go_ret
        refine ⟨_, keys ++ [(r2, false)], rfl, by simp; omega, ?_, how4, ?_, ?_⟩
        · intro x hx
          rcases List.mem_append.1 hx with h1 | h1
          · exact HB.out.2.2.2 x h1
          · simp only [List.mem_singleton] at h1
            subst h1
            exact Hc2.out
        · exact (HB2.out.alloc _).grown hgr4 fun q hq => .inr (HO2.out.ty q hq).1
        · exact ((HR2.out.on (balloc (Below.refl _ _) _)).grown hgr4 fun q hq => by have := (HO2.out.ty q hq).1; omega).mono (by omega)
      · go_wp2
        go_ret
        exact ⟨_, keys, rfl, by omega, HB.out.2.2.2, HO1.out, HB1.out, hR1.mono (by omega)⟩
end Go.Proofs.Ytldndapcbgaliaa
