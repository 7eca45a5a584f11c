/-
  Contract: CheapestPlan of both.
-/
import Derived.Test.YtnecmacjlggkeaaProg
import Derived.Test.YtnecmacjlggkeaaEsb
import Derived.Test.YtnecmacjlggkeaaGeP
namespace Go.Proofs.Ytnecmacjlggkeaa
open Go.RowKit Go.Qo
set_option linter.unusedVariables false
set_option linter.unusedSimpArgs false

/-- A list of plans in memory. -/
def PlsIn (w : World) (B : Nat) (A : Option Addr) (ps : List Pl) : Prop :=
  ∃ fs : List FP, fs.length = ps.length ∧ Sl 5 fpC w B A fs ∧ ∀ (i : Nat) (g : FP) (x : Pl), fs[i]? = some g → ps[i]? = some x → PlIn w B g x
theorem PlsIn.on {w w' : World} {A : Option Addr} {ps : List Pl} (h : PlsIn w w.heap.size A ps) (hb : Below w.heap.size w w') : PlsIn w' w'.heap.size A ps := by
  obtain ⟨fs, h1, h2, h3⟩ := h
  exact ⟨fs, h1, h2.on hb, fun i g x hg hx => (h3 i g x hg hx).on hb⟩
theorem PlsIn.at_ {w : World} {B : Nat} {A : Option Addr} {ps : List Pl} (h : PlsIn w B A ps) {i : Nat} (hi : i < ps.length) : ∃ b o g, A = some ⟨b, o, none⟩ ∧ b < B ∧ FpAt w b (o + i * 5) g ∧ PlIn w B g ps[i] := by
  obtain ⟨fs, h1, h2, h3⟩ := h
  have hi' : i < fs.length := by omega
  obtain ⟨b, o, hA, hB, hc⟩ := h2 (by omega)
  have hx := List.getElem?_eq_getElem hi'
  exact ⟨b, o, fs[i], hA, hB, ⟨hc i _ hx 0 _ rfl, hc i _ hx 1 _ rfl, hc i _ hx 2 _ rfl, hc i _ hx 3 _ rfl, hc i _ hx 4 _ rfl⟩, h3 i _ _ hx (List.getElem?_eq_getElem hi)⟩
theorem PlsT.in_ {S : Nat → Prop} {w : World} {A : Option Addr} {ps : List Pl} (h : PlsT S w A ps) : PlsIn w w.heap.size A ps := by
  obtain ⟨fs, h1, h2, h3⟩ := h
  exact ⟨fs, h1, h2.sl, fun i g x hg hx => (h3 i g x hg hx).in_⟩

/-- The first of the cheapest among the first plans, and its cost. -/
noncomputable def chk (ss : List St) (ps : List Pl) : Nat → Int × Int
  | 0 => (-1, 0)
  | i + 1 => if 0 ≤ ecP ss (kidP ps i) ∧ ((chk ss ps i).1 = -1 ∨ ecP ss (kidP ps i) < (chk ss ps i).2) then ((i : Int), ecP ss (kidP ps i)) else chk ss ps i
noncomputable def cheP (ss : List St) (ps : List Pl) : Int := if ps.length ≤ 20 then (chk ss ps ps.length).1 else -1
theorem kidP_get {ps : List Pl} {i : Nat} (h : i < ps.length) : kidP ps i = ps[i] := by
  unfold kidP; rw [List.getD_eq_getElem?_getD, List.getElem?_eq_getElem h]; rfl
theorem ecP_range {ss : List St} {p : Pl} : ecP ss p = -1 ∨ (0 ≤ ecP ss p ∧ ecP ss p ≤ 511000000000) := by
  by_cases h : esOk ss p
  · right
    rw [ecP_yes h]
    exact cost_range h.1 (esOk_w h).2.1 (Nat.le_refl 8)
  · left; exact ecP_no h
/-- What is known of the cheapest. -/
theorem chk_spec (ss : List St) (ps : List Pl) : ∀ n : Nat, ((chk ss ps n).1 = -1 ∧ ∀ j, j < n → ecP ss (kidP ps j) = -1) ∨
    ∃ k : Nat, k < n ∧ (chk ss ps n).1 = k ∧ (chk ss ps n).2 = ecP ss (kidP ps k) ∧ 0 ≤ ecP ss (kidP ps k) ∧ ∀ j, j < n → 0 ≤ ecP ss (kidP ps j) → ecP ss (kidP ps k) ≤ ecP ss (kidP ps j) ∧ (j < k → ecP ss (kidP ps k) < ecP ss (kidP ps j))
  | 0 => .inl ⟨rfl, fun j hj => absurd hj (by omega)⟩
  | n + 1 => by
    have ih := chk_spec ss ps n
    have hr := @ecP_range ss (kidP ps n)
    unfold chk
    split
    · rename_i hc
      right
      refine ⟨n, by omega, rfl, rfl, hc.1, fun j hj h0 => ?_⟩
      rcases ih with ⟨h1, h2⟩ | ⟨k, h1, h2, h3, h4, h5⟩
      · by_cases hjn : j = n
        · subst hjn; exact ⟨Int.le_refl _, fun h => absurd h (by omega)⟩
        · have := h2 j (by omega); omega
      · have hlt : ecP ss (kidP ps n) < ecP ss (kidP ps k) := by
          rcases hc.2 with h | h
          · omega
          · rw [h3] at h; exact h
        by_cases hjn : j = n
        · subst hjn; exact ⟨Int.le_refl _, fun h => absurd h (by omega)⟩
        · have := h5 j (by omega) h0
          exact ⟨by omega, fun _ => by omega⟩
    · rename_i hc
      rcases ih with ⟨h1, h2⟩ | ⟨k, h1, h2, h3, h4, h5⟩
      · left
        refine ⟨h1, fun j hj => ?_⟩
        by_cases hjn : j = n
        · subst hjn
          rcases hr with h | h
          · exact h
          · exact absurd ⟨h.1, .inl h1⟩ hc
        · exact h2 j (by omega)
      · right
        refine ⟨k, by omega, h2, h3, h4, fun j hj h0 => ?_⟩
        by_cases hjn : j = n
        · subst hjn
          refine ⟨?_, fun h => absurd h (by omega)⟩
          have : ¬ ecP ss (kidP ps j) < (chk ss ps j).2 := fun h => hc ⟨h0, .inr h⟩
          rw [h3] at this
          omega
        · exact h5 j (by omega) h0

set_option maxRecDepth 20000 in
set_option maxHeartbeats 4000000 in
theorem implCheapestPlan_ok (ps : List Pl) (ss : List St) (A A2 : Option Addr) (c c2 : Nat) (w : World) (K : Int) (h : PlsIn w w.heap.size A ps) (hsl : StsIn w w.heap.size A2 ss) (hsm : ∀ s ∈ ss, StSm s) (hs4 : ss.length ≤ 1000) (hps : ps.length ≤ 1000) (hK : cheP ss ps = K) :
    Calls Try.prog 19 #[.slice A ps.length c, .slice A2 ss.length c2] w fun e w' => e = .returned (.int .i64 K) ∧ Below w.heap.size w w' := by
  have HS := Lib.hid (fun (z : World) (x : Pl) (g : FP) (C : Int) (hx : PlIn z z.heap.size g x) (hC : ecP ss x = C) (hz : Below w.heap.size w z) => implEstimateCost_ok x g ss A2 c2 z C hx (hsl.on hz) hsm hs4 hC)
  unfold fpV at HS
  have HP := Lib.hid (fun (z : World) (hz : Below w.heap.size w z) => h.on hz)
  have HK := Lib.hid hK
  clear h hsl hsm hK hs4
  by_cases h20 : 20 < ps.length
  · have hI : (20 : Int) < (ps.length : Int) := by omega
    have hKm : K = -1 := by rw [← HK.out]; unfold cheP; rw [if_neg (by omega)]
    have HKm := Lib.hid hKm
    clear hKm
    go_enter Try.func19, Try.ntmps19
    go_wp2
    go_ret
    exact ⟨by show Ending.returned (.int .i64 (-1)) = _; rw [HKm.out], Below.refl _ _⟩
  · have hI : ¬ (20 : Int) < (ps.length : Int) := by omega
    have HKc := Lib.hid (show (chk ss ps ps.length).1 = K by rw [← HK.out]; unfold cheP; rw [if_pos (by omega)])
    go_enter Try.func19, Try.ntmps19
    go_wp2
    go_loopg [5, 6, 14] ps.length (fun g bv cv iv wr => ∃ (i : Nat) (Y : Int), i ≤ ps.length ∧ g = ps.length - i ∧ iv = .int .i64 i ∧ bv = .int .i64 (chk ss ps i).1 ∧ cv = .int .i64 Y ∧ ((chk ss ps i).1 ≠ -1 → Y = (chk ss ps i).2) ∧ Below w.heap.size w wr)
    case atStart => exact ⟨0, -1, by omega, by omega, rfl, rfl, rfl, fun h => absurd rfl h, Below.refl _ _⟩
    case round =>
      obtain ⟨i, Y, hi, rfl, rfl, rfl, rfl, hY, hb⟩ := hrel
      have HB := Lib.hid hb
      have HY := Lib.hid hY
      clear hb hY
      by_cases hil : i < ps.length
      · have hiI : (i : Int) < (ps.length : Int) := by omega
        obtain ⟨bp, op, g, hA, hB, ⟨k0, k1, k2, k3, k4⟩, hpx⟩ := (HP.out _ HB.out).at_ hil
        obtain ⟨C, hC⟩ : ∃ C, ecP ss ps[i] = C := ⟨_, rfl⟩
        obtain ⟨X, hX⟩ : ∃ X, (chk ss ps i).1 = X := ⟨_, rfl⟩
        have HC := Lib.hid (HS.out _ _ g C hpx hC HB.out)
        have hn : chk ss ps (i + 1) = if 0 ≤ C ∧ (X = -1 ∨ C < (chk ss ps i).2) then ((i : Int), C) else chk ss ps i := by rw [← hC, ← hX, ← kidP_get hil]; rfl
        have hcr := @ecP_range ss ps[i]
        rw [hC] at hcr
        have hx0 : X = -1 ∨ 0 ≤ X := by rcases chk_spec ss ps i with ⟨h, _⟩ | ⟨k, _, h, _⟩ <;> rw [hX] at h <;> omega
        have HX0 := Lib.hid hx0
        have HN := Lib.hid hn
        have HX := Lib.hid hX
        subst hA
        rw [hX] at HY ⊢
        clear hC hX hn hpx hx0
        go_wp2_with fail
        refine HC.out.mono ?_
        rintro e w8 ⟨rfl, hb8⟩
        have H8 := Lib.hid (bch HB.out hb8)
        clear hb8
        by_cases hC0 : 0 ≤ C
        · have hc1 : (C != -1) = true := by simp; omega
          have hc2 : ¬ C < 0 := by omega
          clear hcr
          by_cases hX1 : X = -1
          · have hn : chk ss ps (i + 1) = ((i : Int), C) := by rw [HN.out, if_pos ⟨hC0, .inl hX1⟩]
            have HN1 := Lib.hid hn
            subst hX1
            clear hn
            go_wp2
            go_roundg (ps.length - (i + 1))
            case measure => omega
            case rel => exact ⟨i + 1, C, by omega, rfl, by go_num, by rw [HN1.out], rfl, fun _ => by rw [HN1.out], H8.out⟩
          · have hx1 : (X == -1) = false := by simpa using hX1
            have hyy := HY.out hX1
            have hx2 : ¬ X < 0 := by have := HX0.out; omega
            clear hX1
            by_cases hlt : C < Y
            · have hn : chk ss ps (i + 1) = ((i : Int), C) := by rw [HN.out, if_pos ⟨hC0, .inr (by rw [← hyy]; exact hlt)⟩]
              have HN1 := Lib.hid hn
              clear hn hyy
              go_wp2
              go_roundg (ps.length - (i + 1))
              case measure => omega
              case rel => exact ⟨i + 1, C, by omega, rfl, by go_num, by rw [HN1.out], rfl, fun _ => by rw [HN1.out], H8.out⟩
            · have hn : chk ss ps (i + 1) = chk ss ps i := by
                rw [HN.out, if_neg]
                rintro ⟨_, h | h⟩
                · rw [h] at hx1; cases hx1
                · rw [← hyy] at h; exact hlt h
              have HN1 := Lib.hid hn
              have HYY := Lib.hid hyy
              clear hn hyy
              go_wp2
              go_roundg (ps.length - (i + 1))
              case measure => omega
              case rel => exact ⟨i + 1, Y, by omega, rfl, by go_num, by rw [HN1.out, HX.out], rfl, fun _ => by rw [HN1.out, HYY.out], H8.out⟩
        · have hCm : C = -1 := by omega
          have hn : chk ss ps (i + 1) = chk ss ps i := by rw [HN.out, if_neg fun h => hC0 h.1]
          have HN1 := Lib.hid hn
          clear hn hC0 hcr
          subst hCm
          go_wp2
          go_roundg (ps.length - (i + 1))
          case measure => omega
          case rel => exact ⟨i + 1, Y, by omega, rfl, by go_num, by rw [HN1.out, HX.out], rfl, fun h => by rw [HN1.out]; exact HY.out (by rwa [HN1.out, HX.out] at h), H8.out⟩
      · have hiI : ¬ (i : Int) < (ps.length : Int) := by omega
        have hin : i = ps.length := by omega
        have HKi := Lib.hid (show (chk ss ps i).1 = K by rw [hin]; exact HKc.out)
        clear hin
        go_wp2
        go_ret
        exact ⟨by show Ending.returned (.int .i64 (chk ss ps i).1) = _; rw [HKi.out], HB.out⟩
set_option maxRecDepth 20000 in
set_option maxHeartbeats 4000000 in
theorem specCheapestPlan_ok (ps : List Pl) (ss : List St) (A A2 : Option Addr) (c c2 : Nat) (w : World) (K : Int) (h : PlsIn w w.heap.size A ps) (hsl : StsIn w w.heap.size A2 ss) (hsm : ∀ s ∈ ss, StSm s) (hs4 : ss.length ≤ 1000) (hps : ps.length ≤ 1000) (hK : cheP ss ps = K) :
    Calls Try.prog 20 #[.slice A ps.length c, .slice A2 ss.length c2] w fun e w' => e = .returned (.int .i64 K) ∧ Below w.heap.size w w' := by
  have HS := Lib.hid (fun (z : World) (x : Pl) (g : FP) (C : Int) (hx : PlIn z z.heap.size g x) (hC : ecP ss x = C) (hz : Below w.heap.size w z) => specEstimateCost_ok x g ss A2 c2 z C hx (hsl.on hz) hsm hs4 hC)
  unfold fpV at HS
  have HP := Lib.hid (fun (z : World) (hz : Below w.heap.size w z) => h.on hz)
  have HK := Lib.hid hK
  clear h hsl hsm hK hs4
  by_cases h20 : 20 < ps.length
  · have hI : (20 : Int) < (ps.length : Int) := by omega
    have hKm : K = -1 := by rw [← HK.out]; unfold cheP; rw [if_neg (by omega)]
    have HKm := Lib.hid hKm
    clear hKm
    go_enter Try.func20, Try.ntmps20
    go_wp2
    go_ret
    exact ⟨by show Ending.returned (.int .i64 (-1)) = _; rw [HKm.out], Below.refl _ _⟩
  · have hI : ¬ (20 : Int) < (ps.length : Int) := by omega
    have HKc := Lib.hid (show (chk ss ps ps.length).1 = K by rw [← HK.out]; unfold cheP; rw [if_pos (by omega)])
    go_enter Try.func20, Try.ntmps20
    go_wp2
    go_loopg [5, 6, 7] ps.length (fun g bv cv iv wr => ∃ (i : Nat) (Y : Int), i ≤ ps.length ∧ g = ps.length - i ∧ iv = .int .i64 i ∧ bv = .int .i64 (chk ss ps i).1 ∧ cv = .int .i64 Y ∧ ((chk ss ps i).1 ≠ -1 → Y = (chk ss ps i).2) ∧ Below w.heap.size w wr)
    case atStart => exact ⟨0, 0, by omega, by omega, rfl, rfl, rfl, fun h => absurd rfl h, Below.refl _ _⟩
    case round =>
      obtain ⟨i, Y, hi, rfl, rfl, rfl, rfl, hY, hb⟩ := hrel
      have HB := Lib.hid hb
      have HY := Lib.hid hY
      clear hb hY
      by_cases hil : i < ps.length
      · have hiI : (i : Int) < (ps.length : Int) := by omega
        obtain ⟨bp, op, g, hA, hB, ⟨k0, k1, k2, k3, k4⟩, hpx⟩ := (HP.out _ HB.out).at_ hil
        obtain ⟨C, hC⟩ : ∃ C, ecP ss ps[i] = C := ⟨_, rfl⟩
        obtain ⟨X, hX⟩ : ∃ X, (chk ss ps i).1 = X := ⟨_, rfl⟩
        have HC := Lib.hid (HS.out _ _ g C hpx hC HB.out)
        have hn : chk ss ps (i + 1) = if 0 ≤ C ∧ (X = -1 ∨ C < (chk ss ps i).2) then ((i : Int), C) else chk ss ps i := by rw [← hC, ← hX, ← kidP_get hil]; rfl
        have hcr := @ecP_range ss ps[i]
        rw [hC] at hcr
        have hx0 : X = -1 ∨ 0 ≤ X := by rcases chk_spec ss ps i with ⟨h, _⟩ | ⟨k, _, h, _⟩ <;> rw [hX] at h <;> omega
        have HX0 := Lib.hid hx0
        have HN := Lib.hid hn
        have HX := Lib.hid hX
        subst hA
        rw [hX] at HY ⊢
        clear hC hX hn hpx hx0
        go_wp2_with fail
        refine HC.out.mono ?_
        rintro e w8 ⟨rfl, hb8⟩
        have H8 := Lib.hid (bch HB.out hb8)
        clear hb8
        by_cases hC0 : 0 ≤ C
        · have hc1 : (C != -1) = true := by simp; omega
          have hc2 : ¬ C < 0 := by omega
          clear hcr
          by_cases hX1 : X = -1
          · have hn : chk ss ps (i + 1) = ((i : Int), C) := by rw [HN.out, if_pos ⟨hC0, .inl hX1⟩]
            have HN1 := Lib.hid hn
            subst hX1
            clear hn
            go_wp2
            go_roundg (ps.length - (i + 1))
            case measure => omega
            case rel => exact ⟨i + 1, C, by omega, rfl, by go_num, by rw [HN1.out], rfl, fun _ => by rw [HN1.out], H8.out⟩
          · have hx1 : (X == -1) = false := by simpa using hX1
            have hyy := HY.out hX1
            have hx2 : ¬ X < 0 := by have := HX0.out; omega
            clear hX1
            by_cases hlt : C < Y
            · have hn : chk ss ps (i + 1) = ((i : Int), C) := by rw [HN.out, if_pos ⟨hC0, .inr (by rw [← hyy]; exact hlt)⟩]
              have HN1 := Lib.hid hn
              clear hn hyy
              go_wp2
              go_roundg (ps.length - (i + 1))
              case measure => omega
              case rel => exact ⟨i + 1, C, by omega, rfl, by go_num, by rw [HN1.out], rfl, fun _ => by rw [HN1.out], H8.out⟩
            · have hn : chk ss ps (i + 1) = chk ss ps i := by
                rw [HN.out, if_neg]
                rintro ⟨_, h | h⟩
                · rw [h] at hx1; cases hx1
                · rw [← hyy] at h; exact hlt h
              have HN1 := Lib.hid hn
              have HYY := Lib.hid hyy
              clear hn hyy
              go_wp2
              go_roundg (ps.length - (i + 1))
              case measure => omega
              case rel => exact ⟨i + 1, Y, by omega, rfl, by go_num, by rw [HN1.out, HX.out], rfl, fun _ => by rw [HN1.out, HYY.out], H8.out⟩
        · have hCm : C = -1 := by omega
          have hn : chk ss ps (i + 1) = chk ss ps i := by rw [HN.out, if_neg fun h => hC0 h.1]
          have HN1 := Lib.hid hn
          clear hn hC0 hcr
          subst hCm
          go_wp2
          go_roundg (ps.length - (i + 1))
          case measure => omega
          case rel => exact ⟨i + 1, Y, by omega, rfl, by go_num, by rw [HN1.out, HX.out], rfl, fun h => by rw [HN1.out]; exact HY.out (by rwa [HN1.out, HX.out] at h), H8.out⟩
      · have hiI : ¬ (i : Int) < (ps.length : Int) := by omega
        have hin : i = ps.length := by omega
        have HKi := Lib.hid (show (chk ss ps i).1 = K by rw [hin]; exact HKc.out)
        clear hin
        go_wp2
        go_ret
        exact ⟨by show Ending.returned (.int .i64 (chk ss ps i).1) = _; rw [HKi.out], HB.out⟩
end Go.Proofs.Ytnecmacjlggkeaa
