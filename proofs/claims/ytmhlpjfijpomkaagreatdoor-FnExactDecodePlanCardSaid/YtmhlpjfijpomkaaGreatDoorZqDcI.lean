/-
  Contracts: the program's scanner: skipped, skip.
-/
import Derived.Test.YtmhlpjfijpomkaaGreatDoorProg
import Derived.Test.YtmhlpjfijpomkaaGreatDoorZqEnI
import Derived.Test.YtmhlpjfijpomkaaGreatDoorZqDcE
import Derived.Test.YtmhlpjfijpomkaaGreatDoorZqRd
namespace Go.Proofs.YtmhlpjfijpomkaaGreatDoor
open Go.RowKit Go.Qo
set_option linter.unusedVariables false
set_option linter.unusedSimpArgs false

/-- The scanner at block b has the text l ahead of it. -/
def Sc (w : World) (b : Nat) (l : List UInt8) : Prop := Row w b 86 [.string (bArr l)]
/-- The panic of a text that is no text form; the scanner alone has changed. -/
def Malf (b : Nat) (w : World) (e : Ending) (w' : World) : Prop := e = .panicked [{ v := .iface 84 (.agg #[]), recovered := false }] ∧ But b w w'

set_option maxHeartbeats 1000000 in
theorem skipped_ok (b : Nat) (l : List UInt8) (c : UInt8) (w : World) (h : Sc w b l) : Calls Tryz.prog 72 #[.pointer (some ⟨b, 0, none⟩), .string ⟨#[c]⟩] w fun e w' =>
    e = .returned (.bool (Lib.hasPrefix l [c])) ∧ Sc w' b (Lib.trimPrefix l [c]) ∧ But b w w' ∧ w'.heap.size = w.heap.size := by
  have c0 : w.cell? ⟨b, 0, none⟩ = some (.string (bArr l)) := h.cell 0
  have f0 := h.frozen 0
  have hlt := h.lt
  have HC := Lib.hid (Tryz.strings_CutPrefix (bArr l) ⟨#[c]⟩ w)
  obtain ⟨S, hS⟩ : ∃ S, bArr (Lib.trimPrefix l [c]) = S := ⟨_, rfl⟩
  obtain ⟨q, hq⟩ : ∃ q, Lib.hasPrefix l [c] = q := ⟨_, rfl⟩
  have e1 : (⟨(Lib.trimPrefix (bArr l).data.toList (⟨#[c]⟩ : ByteArray).data.toList).toArray⟩ : ByteArray) = S := hS
  have e2 : Lib.hasPrefix (bArr l).data.toList (⟨#[c]⟩ : ByteArray).data.toList = q := hq
  rw [e1, e2] at HC
  have HS := Lib.hid (And.intro hS hq)
  rw [hq]
  have Hh := Lib.hid h
  clear e1 e2 hS hq h
  go_enter Tryz.func72, Tryz.ntmps72
  go_wp2_with fail
  refine HC.out.mono ?_
  rintro e w2 ⟨rfl, rfl⟩
  go_wp2
  go_ret
  refine ⟨rfl, ?_, (Only.refl (S := fun k => k = b) w2).set (p := ⟨b, 0, none⟩) (.inl rfl) _, by simp [World.setCell]⟩
  unfold Sc
  rw [HS.out.1]
  exact Hh.out.set 0 _

theorem pre_yes {l r : List UInt8} {c : UInt8} (h : l = c :: r) : Lib.hasPrefix l [c] = true ∧ Lib.trimPrefix l [c] = r := by
  subst h
  have h1 : Lib.hasPrefix (c :: r) [c] = true := by simp [Lib.hasPrefix, List.isPrefixOf]
  exact ⟨h1, by unfold Lib.trimPrefix; rw [if_pos h1]; rfl⟩
theorem pre_no {l : List UInt8} {c : UInt8} (h : ∀ r, l ≠ c :: r) : Lib.hasPrefix l [c] = false ∧ Lib.trimPrefix l [c] = l := by
  have h1 : Lib.hasPrefix l [c] = false := by
    cases l with
    | nil => rfl
    | cons a r =>
      have : ¬ c = a := fun e => h r (by rw [e])
      simp [Lib.hasPrefix, List.isPrefixOf, this]
  exact ⟨h1, by unfold Lib.trimPrefix; rw [if_neg (by rw [h1]; simp)]⟩
theorem skipped_yes {b : Nat} {l r : List UInt8} {c : UInt8} {w : World} (h : Sc w b l) (hl : l = c :: r) : Calls Tryz.prog 72 #[.pointer (some ⟨b, 0, none⟩), .string ⟨#[c]⟩] w fun e w' =>
    e = .returned (.bool true) ∧ Sc w' b r ∧ But b w w' ∧ w'.heap.size = w.heap.size := by
  have := skipped_ok b l c w h
  rwa [(pre_yes hl).1, (pre_yes hl).2] at this
theorem skipped_no {b : Nat} {l : List UInt8} {c : UInt8} {w : World} (h : Sc w b l) (hl : ∀ r, l ≠ c :: r) : Calls Tryz.prog 72 #[.pointer (some ⟨b, 0, none⟩), .string ⟨#[c]⟩] w fun e w' =>
    e = .returned (.bool false) ∧ Sc w' b l ∧ But b w w' ∧ w'.heap.size = w.heap.size := by
  have := skipped_ok b l c w h
  rwa [(pre_no hl).1, (pre_no hl).2] at this

set_option maxHeartbeats 1000000 in
theorem skip_yes {b : Nat} {l r : List UInt8} {c : UInt8} {w : World} (h : Sc w b l) (hl : l = c :: r) : Calls Tryz.prog 67 #[.pointer (some ⟨b, 0, none⟩), .string ⟨#[c]⟩] w fun e w' =>
    e = .returned (.tuple #[]) ∧ Sc w' b r ∧ But b w w' ∧ w'.heap.size = w.heap.size := by
  have HX := Lib.hid (skipped_yes h hl)
  clear h hl
  go_enter Tryz.func67, Tryz.ntmps67
  go_wp2_with fail
  refine HX.out.mono ?_
  rintro e w2 ⟨rfl, h2, hb2, hs2⟩
  go_wp2
  go_end0
  exact ⟨rfl, h2, hb2, hs2⟩
set_option maxHeartbeats 1000000 in
theorem skip_no {b : Nat} {l : List UInt8} {c : UInt8} {w : World} (h : Sc w b l) (hl : ∀ r, l ≠ c :: r) : Calls Tryz.prog 67 #[.pointer (some ⟨b, 0, none⟩), .string ⟨#[c]⟩] w (Malf b w) := by
  have HX := Lib.hid (skipped_no h hl)
  clear h hl
  go_enter Tryz.func67, Tryz.ntmps67
  go_wp2_with fail
  refine HX.out.mono ?_
  rintro e w2 ⟨rfl, h2, hb2, hs2⟩
  go_wp2
  exact ⟨rfl, rfl, hb2⟩

/-- The search for the end of a word is answered, for every end of the text. -/
def Ix (l : List UInt8) : Prop := ∀ a c, l = a ++ c → ∀ w : World, Calls Tryz.prog 108 #[.string (bArr c), .string ⟨#[32, 40, 41]⟩] w fun e w' => e = .returned (.int .i64 (if restOf c = [] then -1 else ((wordOf c).length : Int))) ∧ Below w.heap.size w w'
theorem Ix.tail {l a c : List UInt8} (h : Ix l) (e : l = a ++ c) : Ix c := fun a' c' e' => h (a ++ a') c' (by rw [e, e', List.append_assoc])
theorem Ix.cons {l : List UInt8} {c : UInt8} (h : Ix (c :: l)) : Ix l := h.tail (a := [c]) rfl
theorem Ix.rest {l : List UInt8} (h : Ix l) : Ix (restOf l) := h.tail (word_rest l).symm
theorem bArr_extract (l : List UInt8) (a b : Nat) : (bArr l).extract a b = bArr ((l.drop a).take (b - a)) := by
  apply ByteArray.ext
  rw [ByteArray.data_extract]
  apply Array.ext'
  unfold bArr
  simp [Array.toList_extract, List.extract]
theorem word_take (l : List UInt8) : l.take (wordOf l).length = wordOf l := by
  have h := word_rest l
  generalize wordOf l = a at h ⊢
  generalize restOf l = c at h
  subst h
  simp
theorem word_drop (l : List UInt8) : l.drop (wordOf l).length = restOf l := by
  have h := word_rest l
  generalize wordOf l = a at h ⊢
  generalize restOf l = c at h ⊢
  subst h
  simp
set_option maxRecDepth 20000 in
set_option maxHeartbeats 1000000 in
theorem word_ok {b : Nat} {l : List UInt8} {w : World} (h : Sc w b l) (hix : Ix l) (hl : l.length ≤ 8388608) : Calls Tryz.prog 81 #[.pointer (some ⟨b, 0, none⟩)] w fun e w' =>
    e = .returned (.string (bArr (wordOf l))) ∧ Sc w' b (restOf l) ∧ But b w w' := by
  have c0 : w.cell? ⟨b, 0, none⟩ = some (.string (bArr l)) := h.cell 0
  have hlt := h.lt
  have HX := Lib.hid (hix [] l rfl w)
  have Hh := Lib.hid h
  have hwr := word_rest l
  obtain ⟨S, hS⟩ : ∃ S, bArr l = S := ⟨_, rfl⟩
  have hsz : S.size = l.length := by rw [← hS]; rfl
  by_cases hr : restOf l = []
  · rw [if_pos hr] at HX
    have hw := word_all hr
    rw [hS] at HX c0
    rw [hr, hw]
    have HS := Lib.hid hS
    have he : S.extract 0 l.length = S := by rw [← hS, bArr_extract]; simp
    clear h hix hwr hr hw hS
    go_enter Tryz.func81, Tryz.ntmps81
    go_wp2_with fail
    refine HX.out.mono ?_
    rintro e w2 ⟨rfl, hb2⟩
    have hrow := Hh.out.on hb2
    have d0 := hrow.cell 0
    rw [List.getElem?_cons_zero, HS.out] at d0
    have f0 := hrow.frozen 0
    have l0 := hrow.lt
    have Hrow := Lib.hid hrow
    have HB := Lib.hid hb2
    clear hrow hb2 c0
    go_wp2
    go_ret
    refine ⟨by rw [HS.out]; try simp [he], Hrow.out.set 0 _, (only_below (S := fun k => k = b) HB.out).set (p := ⟨b, 0, none⟩) (.inl rfl) _⟩
  · rw [if_neg hr] at HX
    obtain ⟨n, hn⟩ : ∃ n, (wordOf l).length = n := ⟨_, rfl⟩
    have hnl : n ≤ l.length := by rw [← hn]; have := congrArg List.length hwr; simp at this; omega
    rw [hn, hS] at HX
    rw [hS] at c0
    have e1 : S.extract 0 n = bArr (wordOf l) := by
      rw [← hS, bArr_extract, ← hn, List.drop_zero, Nat.sub_zero, word_take]
    have e2 : S.extract n l.length = bArr (restOf l) := by
      rw [← hS, bArr_extract, ← hn, word_drop, List.take_of_length_le]
      have := congrArg List.length hwr
      simp at this
      omega
    obtain ⟨Sw, hSw⟩ : ∃ S, bArr (wordOf l) = S := ⟨_, rfl⟩
    obtain ⟨Sr, hSr⟩ : ∃ S, bArr (restOf l) = S := ⟨_, rfl⟩
    rw [hSw] at e1
    rw [hSr] at e2
    have HSr := Lib.hid hSr
    rw [hSw]
    have HS := Lib.hid hS
    clear h hix hwr hr hS hSw hSr hn
    go_enter Tryz.func81, Tryz.ntmps81
    go_wp2_with fail
    refine HX.out.mono ?_
    rintro e w2 ⟨rfl, hb2⟩
    have hrow := Hh.out.on hb2
    have d0 := hrow.cell 0
    rw [List.getElem?_cons_zero, HS.out] at d0
    have f0 := hrow.frozen 0
    have l0 := hrow.lt
    have Hrow := Lib.hid hrow
    have HB := Lib.hid hb2
    clear hrow hb2 c0
    go_wp2
    go_ret
    refine ⟨rfl, ?_, (only_below (S := fun k => k = b) HB.out).set (p := ⟨b, 0, none⟩) (.inl rfl) _⟩
    unfold Sc
    rw [HSr.out]
    exact Hrow.out.set 0 _
end Go.Proofs.YtmhlpjfijpomkaaGreatDoor
