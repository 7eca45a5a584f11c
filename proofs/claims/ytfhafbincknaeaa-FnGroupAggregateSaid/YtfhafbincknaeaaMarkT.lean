/-
  Contracts: marks of tables of the call's own.
-/
import Derived.Test.YtfhafbincknaeaaProg
import Derived.Test.YtfhafbincknaeaaMark
import Derived.Test.YtfhafbincknaeaaRwt
namespace Go.Proofs.Ytfhafbincknaeaa
open Go.RowKit Go.Qo
set_option linter.unusedVariables false
set_option linter.unusedSimpArgs false

theorem rowsC_get {α : Type} {bs : List Nat} {rows : List (List α)} {i c : Nat} {r : List α} (h1 : bs[i]? = some c) (h2 : rows[i]? = some r) (more : List Value) : (rowsC bs rows ++ more)[i]? = some (.slice (some ⟨c, 0, none⟩) r.length r.length) := by
  have hz : (List.zipWith rowSV bs rows)[i]? = some (rowSV c r) := by rw [List.getElem?_zipWith, h1, h2]
  have hg := flat_get 1 svC svC_length (List.zipWith rowSV bs rows) i (rowSV c r) 0 _ hz rfl
  rw [Nat.mul_one, Nat.add_zero] at hg
  have hl := (List.getElem?_eq_some_iff.1 hg).1
  rw [List.getElem?_append_left (by exact hl)]
  exact hg
theorem Row.ow {α : Type} {sz : Nat} {enc : α → List Value} (he : ∀ x, (enc x).length = sz) {w : World} {lo b : Nat} {t : TypeId} {xs : List α} (h : Row w b t (xs.flatMap enc)) (hlo : lo ≤ b) (hm : xs.length ≤ maxLen) :
    Ow lo t sz enc w (.slice (some ⟨b, 0, none⟩) xs.length xs.length) xs :=
  ⟨flat_length sz enc he xs, .inr ⟨b, xs.length, _, rfl, hlo, h, Nat.le_refl _, hm, by simp [flat_length sz enc he xs], by simp; rw [List.take_of_length_le (by rw [flat_length sz enc he xs]; omega)]⟩⟩

set_option maxHeartbeats 1000000 in
theorem markValueSS2_ok (B0 b c : Nat) (bs : List Nat) (rows : List Row1) (more : List Value) (k : Int) (w : World) (hk0 : 0 ≤ k) (hk : k ≤ 8796093022208) (hn : rows.length ≤ 1048576) (hr : ∀ r ∈ rows, r.length ≤ 1048576) (h : OwnRs valC 42 44 w B0 b bs rows more) :
    Calls Try.prog 33 #[.slice (some ⟨b, 0, none⟩) rows.length c, .int .i64 k] w fun e w' => ∃ q : Int, e = .returned (.int .i64 q) ∧ 0 ≤ q ∧ q ≤ k + 2199023255552 ∧ Only (fun i => i ∈ bs) w w' ∧ w'.heap.size = w.heap.size := by
  have HO := Lib.hid h
  have HL := Lib.hid hr
  clear h hr
  go_enter Try.func33, Try.ntmps33
  go_wp2
  go_loopg [1, 5] rows.length (fun g kv iv wr => ∃ (i : Nat) (kk : Int), i ≤ rows.length ∧ g = rows.length - i ∧ (0 ≤ kk ∧ kk ≤ k + 2097152 * i) ∧ kv = .int .i64 kk ∧ iv = .int .i64 i ∧ Only (fun i => i ∈ bs) w wr ∧ wr.heap.size = w.heap.size ∧ ∀ (j c : Nat) (r : Row1), i ≤ j → bs[j]? = some c → rows[j]? = some r → Row wr c 44 (r.flatMap valC))
  case atStart => exact ⟨0, k, by omega, by omega, by omega, rfl, rfl, Only.refl _, rfl, fun j c r _ h1 h2 => HO.out.inner j c r h1 h2⟩
  case round =>
    obtain ⟨i, kk, hi, rfl, hkk, rfl, rfl, hon, hsz, hin⟩ := hrel
    have hkk0 := hkk.1
    have hkk1 : kk ≤ 1125899906842624 := by omega
    have HW := Lib.hid (And.intro hkk (And.intro hon (And.intro hsz hin)))
    clear hkk hon hsz hin
    by_cases hlt : i < rows.length
    · have hx := Lib.hid (List.getElem?_eq_getElem hlt)
      have hxl := HL.out _ (List.getElem_mem hlt)
      have hbl : i < bs.length := by rw [HO.out.len]; exact hlt
      have hy := Lib.hid (List.getElem?_eq_getElem hbl)
      generalize rows[i] = x at *
      generalize bs[i] = cb at *
      have hbn : ¬ (b ∈ bs) := fun hb => (HO.out.low b hb).2 rfl
      have hout := HO.out.outer.only HW.out.2.1 hbn
      have c1 : wr.cell? ⟨b, i, none⟩ = some (.slice (some ⟨cb, 0, none⟩) x.length x.length) := (hout.cell i).trans (rowsC_get hy.out hx.out more)
      have HM := Lib.hid (markValueS_ok cb (some ⟨cb, 0, none⟩) x.length x kk wr hkk0 hkk1 hxl (Row.ow valC_length (HW.out.2.2.2 i cb x (Nat.le_refl _) hy.out hx.out) (Nat.le_refl _) (by unfold maxLen; omega)))
      clear hout hbn
      go_wp2_with fail
      refine HM.out.mono ?_
      rintro e w1 ⟨rfl, _, hon1, hsz1⟩
      have HW1 := Lib.hid (And.intro hon1 hsz1)
      clear hon1 hsz1
      go_wp2
      go_roundg (rows.length - (i + 1))
      case measure => omega
      case rel =>
        refine ⟨i + 1, kk + 2 * x.length, by omega, rfl, by have := HW.out.1; omega, rfl, by go_num, HW.out.2.1.trans (HW1.out.1.mono fun q _ hq => ?_), HW1.out.2.trans HW.out.2.2.1, fun j c r hj h1 h2 => ?_⟩
        · cases hq; exact List.mem_of_getElem? hy.out
        · refine (HW.out.2.2.2 j c r (by omega) h1 h2).only HW1.out.1 fun hq => ?_
          cases hq
          have h3 := hy.out
          have := (List.getElem?_inj hbl HO.out.nodup).1 (h3.trans h1.symm)
          omega
    · go_wp2
      go_ret
      exact ⟨kk, rfl, HW.out.1.1, by have := HW.out.1.2; omega, HW.out.2.1, HW.out.2.2.1⟩

set_option maxHeartbeats 400000 in
theorem markTable2_ok (W : Int) (B0 b c : Nat) (bs : List Nat) (rows : List Row1) (more : List Value) (k : Int) (w : World) (hk0 : 0 ≤ k) (hk : k ≤ 8796093022208) (hn : rows.length ≤ 1048576) (hr : ∀ r ∈ rows, r.length ≤ 1048576) (h : OwnRs valC 42 44 w B0 b bs rows more) :
    Calls Try.prog 12 #[.agg #[.int .i64 W, .slice (some ⟨b, 0, none⟩) rows.length c], .int .i64 k] w fun e w' => ∃ q : Int, e = .returned (.int .i64 q) ∧ 0 ≤ q ∧ q ≤ k + 2199023255552 ∧ Only (fun i => i ∈ bs) w w' := by
  have HM := Lib.hid (markValueSS2_ok B0 b c bs rows more k _ hk0 hk hn hr (h.on (balloc (Below.refl _ _) (.cells #[.int .i64 W, .slice (some ⟨b, 0, none⟩) rows.length c] 29))))
  clear h hr
  go_enter Try.func12, Try.ntmps12
  go_wp2_with fail
  refine HM.out.mono ?_
  rintro e w1 ⟨q, rfl, hq, hq2, hon, _⟩
  have H := Lib.hid (And.intro hon hq2)
  clear hon hq2
  go_wp2
  go_ret
  exact ⟨q, rfl, hq, H.out.2, ((Only.refl w).alloc _).trans H.out.1⟩

theorem markTable_ok (W : Int) (B0 b c : Nat) (bs : List Nat) (rows : List Row1) (more : List Value) (k : Int) (w : World) (hk0 : 0 ≤ k) (hk : k ≤ 1048576) (hn : rows.length ≤ 1048576) (hr : ∀ r ∈ rows, r.length ≤ 1048576) (h : OwnRs valC 42 44 w B0 b bs rows more) :
    Calls Try.prog 12 #[.agg #[.int .i64 W, .slice (some ⟨b, 0, none⟩) rows.length c], .int .i64 k] w fun e w' => ∃ q : Int, e = .returned (.int .i64 q) ∧ 0 ≤ q ∧ Only (fun i => i ∈ bs) w w' :=
  (markTable2_ok W B0 b c bs rows more k w hk0 (by omega) hn hr h).mono fun _ _ ⟨q, h1, h2, _, h3⟩ => ⟨q, h1, h2, h3⟩
end Go.Proofs.Ytfhafbincknaeaa
