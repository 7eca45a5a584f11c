/-
  Contract: eachPart, for any function that is handed the parts.
-/
import Derived.Test.YtooeicfhciefoaaProg
import Derived.Test.YtooeicfhciefoaaPzD
namespace Go.Proofs.Ytooeicfhciefoaa
open Go.RowKit Go.Qo
set_option linter.unusedVariables false
set_option linter.unusedSimpArgs false

/-- What a visiting function does to a state s, which the memory holds by I; the block cb alone may change. -/
def Visits {α : Type} (gf : FuncId) (cap : Array Value) (B cb : Nat) (I : α → World → Prop) (step : α → Pl → α) : Prop :=
  ∀ (s : α) (x : Pl) (f : FP) (b o : Nat) (z : World), PlIn z B f x → b < B → B ≤ z.heap.size → FpAt z b o f → I s z → Calls Try.prog gf (#[.pointer (some ⟨b, o, none⟩)] ++ cap) z fun e w' => (∃ v, e = .returned v) ∧ I (step s x) w' ∧ But cb z w'

def EachOk (p : Pl) : Prop := ∀ {α : Type} (gf : FuncId) (cap : Array Value) (B cb : Nat) (I : α → World → Prop) (step : α → Pl → α) (eg : ∀ args w, (callFunc gf args).run Try.prog w = .ok (.enter gf args) w) (hV : Visits gf cap B cb I step) (hcb : B ≤ cb)
  (s : α) (f : FP) (b o : Nat) (w : World), PlIn w B f p → b < B → B ≤ w.heap.size → FpAt w b o f → I s w →
  Calls Try.prog 31 #[.pointer (some ⟨b, o, none⟩), .func (.func gf) #[] cap] w fun e w' => (∃ v, e = .returned v) ∧ I (p.parts.foldl step s) w' ∧ But cb w w'

set_option maxRecDepth 20000 in
set_option maxHeartbeats 2000000 in
theorem eachPart_ok : ∀ p : Pl, EachOk p := Pl.ind fun p ih α gf cap B cb I step eg hV hcb s f b o w h hb hB hat hI => by
  obtain ⟨a1, a2, ⟨a3, a3', a3''⟩, ⟨a4, a4', a4''⟩, ⟨a5, a5', a5''⟩, a6, a7⟩ := h.flat
  have HV := Lib.hid (hV s p f b o w h hb hB hat hI)
  have HH := Lib.hid (fun (z : World) (hz : But cb w z) => And.intro (h.below (hz.low hcb hB)) (hat.below (hz.low hcb hB) hb))
  have HVV := Lib.hid hV
  have IH := Lib.hid ih
  have hkm : p.kids.length ≤ maxLen := by omega
  unfold maxLen at hkm
  have Ha5 := Lib.hid a5
  clear hV ih h hat hI a1 a2 a3 a4 a5 a6 a7 a3' a3'' a4' a4'' a5' a5''
  go_enter Try.func31, Try.ntmps31
  go_wp2_with fail
  refine HV.out.mono ?_
  rintro e w1 ⟨⟨v, rfl⟩, hI1, hb1⟩
  have H1 := Lib.hid (And.intro hI1 hb1)
  obtain ⟨d0, d1, d2, d3, d4⟩ := (HH.out _ hb1).2
  rw [Ha5.out] at d4
  have hs1 := hb1.size
  clear hI1 hb1
  go_wp2
  go_loopg [4, 13] p.kids.length (fun g _ iv wr => ∃ i : Nat, i ≤ p.kids.length ∧ g = p.kids.length - i ∧ iv = .int .i64 i ∧ I ((partsL (p.kids.take i)).foldl step (step s p)) wr ∧ But cb w wr)
  case atStart => exact ⟨0, by omega, by omega, rfl, by rw [List.take_zero, partsL]; exact H1.out.1, H1.out.2⟩
  case round =>
    obtain ⟨i, hi, rfl, rfl, hIr, hbr⟩ := hrel
    have HR := Lib.hid (And.intro hIr hbr)
    obtain ⟨d0, d1, d2, d3, d4⟩ := (HH.out _ hbr).2
    rw [Ha5.out] at d4
    have hsr := hbr.size
    clear hIr hbr
    by_cases hil : i < p.kids.length
    · have hiI : (i : Int) < (p.kids.length : Int) := by omega
      obtain ⟨qi, oi, g, hAi, hqi, hgat, hg⟩ := (HH.out _ HR.out.2).1.kid hil
      rw [hAi] at d4
      have HX := Lib.hid (IH.out _ (List.getElem_mem hil) gf cap B cb I step eg HVV.out hcb _ g qi _ wr hg hqi (by omega) hgat HR.out.1)
      have Hst := Lib.hid (show (partsL (p.kids.take (i + 1))).foldl step (step s p) = (p.kids[i]).parts.foldl step ((partsL (p.kids.take i)).foldl step (step s p)) by rw [partsL_take hil, List.foldl_append])
      clear hAi hgat hg
      go_wp2_with fail
      refine HX.out.mono ?_
      rintro e w2 ⟨⟨v2, rfl⟩, hI2, hb2⟩
      have H2 := Lib.hid (And.intro hI2 (HR.out.2.trans hb2))
      clear hI2 hb2
      go_wp2
      go_roundg (p.kids.length - (i + 1))
      case measure => omega
      case rel => exact ⟨i + 1, by omega, rfl, by go_num, by rw [Hst.out]; exact H2.out.1, H2.out.2⟩
    · have hiI : ¬ (i : Int) < (p.kids.length : Int) := by omega
      have Hz := Lib.hid (show p.parts.foldl step s = (partsL (p.kids.take i)).foldl step (step s p) by rw [List.take_of_length_le (show p.kids.length ≤ i by omega), parts_eq]; rfl)
      go_wp2
      go_end0
      exact ⟨⟨_, rfl⟩, by rw [Hz.out]; exact HR.out.1, HR.out.2⟩
end Go.Proofs.Ytooeicfhciefoaa
