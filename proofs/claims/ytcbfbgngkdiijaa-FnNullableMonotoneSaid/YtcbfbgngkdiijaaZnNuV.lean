/-
  Contract: whether there are flags for all columns (the reference's validFlags).
-/
import Derived.Test.YtcbfbgngkdiijaaProg
import Derived.Test.YtcbfbgngkdiijaaZnFls
import Derived.Test.YtcbfbgngkdiijaaZnGb
namespace Go.Proofs.Ytcbfbgngkdiijaa
open Go.RowKit Go.Qo
set_option linter.unusedVariables false
set_option linter.unusedSimpArgs false

/-- One flag for each column of each table. -/
def FlOk (ws : List Int) (rs : List (List Bool)) : Prop := rs.length = ws.length ∧ ∀ (i : Nat) (r : List Bool) (x : Int), rs[i]? = some r → ws[i]? = some x → (r.length : Int) = x
set_option maxHeartbeats 1000000 in
theorem validFlags_ok (ws : List Int) (rs : List (List Bool)) (A B : Option Addr) (c d : Nat) (w : World) (q : Bool) (hq : q = true ↔ FlOk ws rs) (hn : ws.length ≤ maxLen) (hm : rs.length ≤ maxLen) (hl : ∀ r ∈ rs, r.length ≤ maxLen) (h : Sl 1 intC w w.heap.size A ws) (g : FlIn w w.heap.size B rs) :
    Calls Try.prog 18 #[.slice A ws.length c, .slice B rs.length d] w fun e w' => e = .returned (.bool q) ∧ Below w.heap.size w w' := by
  unfold maxLen at hn hm
  by_cases hlen : rs.length = ws.length
  case neg =>
    have hqf : q = false := by
      cases q with
      | false => rfl
      | true => exact absurd (hq.1 rfl).1 hlen
    subst hqf
    have hI : ((rs.length : Int) != (ws.length : Int)) = true := by rw [bne_iff_ne]; omega
    clear hq h g hl
    go_enter Try.func18, Try.ntmps18
    go_wp2
    go_ret
    exact ⟨rfl, Below.refl _ _⟩
  have HQ := Lib.hid hq
  have HS := Lib.hid h
  have HG := Lib.hid g
  have HL := Lib.hid hl
  have HLen := Lib.hid hlen
  have hI : ((rs.length : Int) != (ws.length : Int)) = false := by rw [bne_eq_false_iff_eq]; omega
  clear hq h g hl hlen
  go_enter Try.func18, Try.ntmps18
  go_wp2
  go_loopg [5] ws.length (fun gg iv wr => ∃ i : Nat, i ≤ ws.length ∧ gg = ws.length - i ∧ iv = .int .i64 i ∧ Below w.heap.size w wr ∧ ∀ j, j < i → ∀ (r : List Bool) (x : Int), rs[j]? = some r → ws[j]? = some x → (r.length : Int) = x)
  case atStart => exact ⟨0, by omega, by omega, rfl, Below.refl _ _, fun j hj => by omega⟩
  case round =>
    obtain ⟨i, hi, rfl, rfl, hb, hall⟩ := hrel
    have HB := Lib.hid hb
    have HA := Lib.hid hall
    have hsz := hb.size
    clear hb hall
    by_cases hil : i < ws.length
    · have hiI : (i : Int) < (ws.length : Int) := by omega
      have hir : i < rs.length := by have := HLen.out; omega
      have hiR : (i : Int) < (rs.length : Int) := by omega
      obtain ⟨b1, o1, rfl, hB1, c1⟩ := Ints.at_ (HS.out.on HB.out) hil
      obtain ⟨b2, o2, s, rfl, hB2, c2, hs1, hs2, _⟩ := (HG.out.on HB.out).at_ hir
      have hw : ws[i]? = some ws[i] := List.getElem?_eq_getElem hil
      have hr : rs[i]? = some rs[i] := List.getElem?_eq_getElem hir
      obtain ⟨x, hx⟩ : ∃ x, ws[i] = x := ⟨_, rfl⟩
      obtain ⟨r, hrr⟩ : ∃ r, rs[i] = r := ⟨_, rfl⟩
      rw [hx] at c1 hw
      rw [hrr] at c2 hr hs1
      have HX := Lib.hid (And.intro hw hr)
      have C1 := fun z : Aft wr.heap.size wr => z.cell hB1 c1
      have C2 := fun z : Aft wr.heap.size wr => z.cell hB2 c2
      clear hw hr hx hrr
      unfold maxLen at hs2
      by_cases he : (r.length : Int) = x
      · have heb : ((r.length : Int) != x) = false := by rw [bne_eq_false_iff_eq]; exact he
        have HE := Lib.hid he
        clear he
        go_wp2
        go_quiet (fail)
        go_wp2
        go_roundg (ws.length - (i + 1))
        case measure => omega
        case rel =>
          refine ⟨i + 1, by omega, rfl, by go_num, bdrewN HB.out _, fun j hj r' x' h1 h2 => ?_⟩
          by_cases hji : j = i
          · rw [hji, HX.out.2] at h1
            rw [hji, HX.out.1] at h2
            cases h1
            cases h2
            exact HE.out
          · exact HA.out j (by omega) r' x' h1 h2
      · have heb : ((r.length : Int) != x) = true := by rw [bne_iff_ne]; exact he
        have hqf : q = false := by
          cases q with
          | false => rfl
          | true => exact absurd ((HQ.out.1 rfl).2 i r x HX.out.2 HX.out.1) he
        subst hqf
        clear he
        go_wp2
        go_quiet (fail)
        go_wp2
        go_ret
        exact ⟨rfl, bdrewN HB.out _⟩
    · have hiI : ¬ (i : Int) < (ws.length : Int) := by omega
      have hqt : q = true := HQ.out.2 ⟨HLen.out, fun j r x h1 h2 => by
        have hj : j < ws.length := by
          rcases Nat.lt_or_ge j ws.length with h | h
          · exact h
          · rw [List.getElem?_eq_none h] at h2; cases h2
        exact HA.out j (by omega) r x h1 h2⟩
      subst hqt
      go_wp2
      go_ret
      exact ⟨rfl, HB.out⟩
end Go.Proofs.Ytcbfbgngkdiijaa
