/-
  Contracts: the program's scanner: two bytes at once (skipped), whether a plan comes next (atPlan).
-/
import Derived.Test.YtmhlpjfijpomkaaGreatDoorProg
import Derived.Test.YtmhlpjfijpomkaaGreatDoorZqDcJ
import Derived.Test.YtmhlpjfijpomkaaGreatDoorZqDcR
import Derived.Test.YtmhlpjfijpomkaaGreatDoorZqEnK
namespace Go.Proofs.YtmhlpjfijpomkaaGreatDoor
open Go.RowKit Go.Qo
set_option linter.unusedVariables false
set_option linter.unusedSimpArgs false

set_option maxHeartbeats 1000000 in
theorem skipped2_ok (b : Nat) (l : List UInt8) (c d : UInt8) (w : World) (h : Sc w b l) : Calls Tryz.prog 72 #[.pointer (some ⟨b, 0, none⟩), .string ⟨#[c, d]⟩] w fun e w' =>
    e = .returned (.bool (Lib.hasPrefix l [c, d])) ∧ Sc w' b (Lib.trimPrefix l [c, d]) ∧ But b w w' ∧ w'.heap.size = w.heap.size := by
  have c0 : w.cell? ⟨b, 0, none⟩ = some (.string (bArr l)) := h.cell 0
  have f0 := h.frozen 0
  have hlt := h.lt
  have HC := Lib.hid (Tryz.strings_CutPrefix (bArr l) ⟨#[c, d]⟩ w)
  obtain ⟨S, hS⟩ : ∃ S, bArr (Lib.trimPrefix l [c, d]) = S := ⟨_, rfl⟩
  obtain ⟨q, hq⟩ : ∃ q, Lib.hasPrefix l [c, d] = q := ⟨_, rfl⟩
  have e1 : (⟨(Lib.trimPrefix (bArr l).data.toList (⟨#[c, d]⟩ : ByteArray).data.toList).toArray⟩ : ByteArray) = S := hS
  have e2 : Lib.hasPrefix (bArr l).data.toList (⟨#[c, d]⟩ : ByteArray).data.toList = q := hq
  rw [e1, e2] at HC
  have HS := Lib.hid (And.intro hS hq)
  rw [hq]
  have Hh := Lib.hid h
  clear e1 e2 hS hq h
  go_enter Tryz.func72, Tryz.ntmps72
  go_wp2_with fail
  refine HC.out.mono ?_
  rintro e w2 ⟨rfl, rfl⟩
  go_wp2
  go_ret
  refine ⟨rfl, ?_, (Only.refl (S := fun k => k = b) w2).set (p := ⟨b, 0, none⟩) (.inl rfl) _, by simp [World.setCell]⟩
  unfold Sc
  rw [HS.out.1]
  exact Hh.out.set 0 _
theorem pre2_yes {l r : List UInt8} {c d : UInt8} (h : strip2 c d l = some r) : Lib.hasPrefix l [c, d] = true ∧ Lib.trimPrefix l [c, d] = r := by
  have h := strip2_some h
  subst h
  have h1 : Lib.hasPrefix (c :: d :: r) [c, d] = true := by simp [Lib.hasPrefix, List.isPrefixOf]
  exact ⟨h1, by unfold Lib.trimPrefix; rw [if_pos h1]; rfl⟩
theorem pre2_no {l : List UInt8} {c d : UInt8} (h : strip2 c d l = none) : Lib.hasPrefix l [c, d] = false ∧ Lib.trimPrefix l [c, d] = l := by
  have h0 := strip2_none h
  have h1 : Lib.hasPrefix l [c, d] = false := by
    match l with
    | [] => rfl
    | [a] => simp [Lib.hasPrefix, List.isPrefixOf]
    | a :: a' :: r =>
      by_cases h2 : c = a
      · by_cases h3 : d = a'
        · exact absurd (by rw [h2, h3]) (h0 r)
        · simp [Lib.hasPrefix, List.isPrefixOf, h3]
      · simp [Lib.hasPrefix, List.isPrefixOf, h2]
  exact ⟨h1, by unfold Lib.trimPrefix; rw [if_neg (by rw [h1]; simp)]⟩
theorem skipped2_yes {b : Nat} {l r : List UInt8} {c d : UInt8} {w : World} (h : Sc w b l) (hl : strip2 c d l = some r) : Calls Tryz.prog 72 #[.pointer (some ⟨b, 0, none⟩), .string ⟨#[c, d]⟩] w fun e w' =>
    e = .returned (.bool true) ∧ Sc w' b r ∧ But b w w' ∧ w'.heap.size = w.heap.size := by
  have := skipped2_ok b l c d w h
  rwa [(pre2_yes hl).1, (pre2_yes hl).2] at this
theorem skipped2_no {b : Nat} {l : List UInt8} {c d : UInt8} {w : World} (h : Sc w b l) (hl : strip2 c d l = none) : Calls Tryz.prog 72 #[.pointer (some ⟨b, 0, none⟩), .string ⟨#[c, d]⟩] w fun e w' =>
    e = .returned (.bool false) ∧ Sc w' b l ∧ But b w w' ∧ w'.heap.size = w.heap.size := by
  have := skipped2_ok b l c d w h
  rwa [(pre2_no hl).1, (pre2_no hl).2] at this

set_option maxRecDepth 20000 in
set_option maxHeartbeats 1000000 in
theorem atPlan_ok {b : Nat} {l : List UInt8} {w : World} (h : Sc w b l) (hix : Ix l) (hl : l.length ≤ 8388608) : Calls Tryz.prog 73 #[.pointer (some ⟨b, 0, none⟩)] w fun e w' =>
    e = .returned (.bool (atPl l)) ∧ Below w.heap.size w w' := by
  have c0 : w.cell? ⟨b, 0, none⟩ = some (.string (bArr l)) := h.cell 0
  have hlt := h.lt
  obtain ⟨S, hS⟩ : ∃ S, bArr l = S := ⟨_, rfl⟩
  rw [hS] at c0
  obtain ⟨W1, hW1⟩ : ∃ z, w.alloc (.cells #[.string S] 86) = z := ⟨_, rfl⟩
  have b1 : Below w.heap.size w W1 := by rw [← hW1]; exact balloc (Below.refl _ _) _
  have r1 : Sc W1 w.heap.size l := by unfold Sc; rw [hS, ← hW1]; exact Row.new _ _ _
  have HB1 := Lib.hid b1
  have HS1 := Lib.hid r1
  have HW1 := Lib.hid hW1
  have HIx := Lib.hid hix
  clear h hix hS hW1 b1 r1
  cases hs : strip2 32 40 l with
  | none =>
    have hA : atPl l = false := by unfold atPl; rw [hs]
    have HX := Lib.hid (skipped2_no HS1.out hs)
    rw [hA]
    clear hs hA
    go_enter Tryz.func73, Tryz.ntmps73
    go_upto_region 2 with fail
    rw [HW1.out]
    go_wp2_with fail
    refine HX.out.mono ?_
    rintro e w2 ⟨rfl, _, hb2, _⟩
    go_wp2
    go_ret
    exact ⟨rfl, Only.from_ HB1.out rfl hb2 (fun i hi => by omega)⟩
  | some r =>
    have hlr := strip2_some hs
    obtain ⟨q, hq⟩ : ∃ q, (kindOf plName 1 8 (wordOf r)).isSome = q := ⟨_, rfl⟩
    have hA : atPl l = q := by unfold atPl; rw [hs]; exact hq
    have HX := Lib.hid (skipped2_yes HS1.out hs)
    have HIr := Lib.hid (HIx.out.tail (a := [32, 40]) hlr)
    have hrl : r.length ≤ 8388608 := by rw [hlr] at hl; simp at hl; omega
    obtain ⟨NM, hNM⟩ : ∃ S, bArr (wordOf r) = S := ⟨_, rfl⟩
    have HNM := Lib.hid hNM
    have Hq := Lib.hid hq
    have HPN := Lib.hid (fun (k : Int) (z : World) (h0 : 1 ≤ k) (h1 : k ≤ 8) => planName_ok k z h0 h1)
    rw [hA]
    clear hs hA hlr hq hNM
    go_enter Tryz.func73, Tryz.ntmps73
    go_upto_region 2 with fail
    rw [HW1.out]
    go_wp2_with fail
    refine HX.out.mono ?_
    rintro e w2 ⟨rfl, h2, hb2, hz2⟩
    have HB2 := Lib.hid (Only.from_ HB1.out rfl hb2 (fun i hi => by omega))
    have HW := Lib.hid (word_ok h2 HIr.out hrl)
    clear h2 hb2 hz2
    go_wp2_with fail
    refine HW.out.mono ?_
    rintro e w3 ⟨rfl, h3, hb3⟩
    rw [HNM.out]
    have HB3 := Lib.hid (Only.from_ HB2.out rfl hb3 (fun i hi => by omega))
    clear h3 hb3
    go_wp2
    go_loopg [5] 8 (fun g iv wr => ∃ i : Nat, i ≤ 8 ∧ g = 8 - i ∧ iv = .int .i64 (1 + (i : Int)) ∧ Below w.heap.size w wr ∧ (kindOf plName (1 + (i : Int)) (8 - i) (wordOf r)).isSome = q)
    case atStart => exact ⟨0, by omega, by omega, rfl, HB3.out, Hq.out⟩
    case round =>
      obtain ⟨i, hi, rfl, rfl, hb, hk⟩ := hrel
      have HB := Lib.hid hb
      have HK := Lib.hid hk
      clear hb hk
      by_cases hlt : i < 8
      · have hi8 : 1 + (i : Int) ≤ 8 := by omega
        obtain ⟨T, hT⟩ : ∃ T, bArr (plName (1 + (i : Int))) = T := ⟨_, rfl⟩
        have HN := Lib.hid (HPN.out (1 + (i : Int)) wr (by omega) hi8)
        rw [hT] at HN
        have hw1 : IntKind.i64.wrap (1 + (i : Int) + 1) = 1 + (i : Int) + 1 := IntWalk.i64_in _ (by omega)
        by_cases he : plName (1 + (i : Int)) = wordOf r
        · have hTN : T = NM := by rw [← hT, he, HNM.out]
          subst hTN
          have hqt : q = true := by
            have := HK.out
            rw [show 8 - i = (8 - i - 1) + 1 by omega] at this
            unfold kindOf at this
            rw [if_pos he] at this
            exact this.symm
          subst hqt
          clear he hT
          go_wp2_with fail
          refine HN.out.mono ?_
          rintro e w4 ⟨rfl, hb4⟩
          go_wp2
          go_ret
          exact ⟨rfl, bch HB.out hb4⟩
        · have heq : (T.toList == NM.toList) = false := by
            rw [← hT, ← HNM.out, bArr_list, bArr_list, beq_eq_false_iff_ne]
            exact he
          have HE := Lib.hid he
          clear he hT
          go_wp2_with fail
          refine HN.out.mono ?_
          rintro e w4 ⟨rfl, hb4⟩
          have HB4 := Lib.hid (bch HB.out hb4)
          clear hb4
          go_wp2
          go_roundg (8 - (i + 1))
          case measure => omega
          case rel =>
            refine ⟨i + 1, by omega, rfl, by go_num, HB4.out, ?_⟩
            have := HK.out
            rw [show 8 - i = (8 - (i + 1)) + 1 by omega] at this
            unfold kindOf at this
            rw [if_neg HE.out] at this
            rw [show 1 + ((i + 1 : Nat) : Int) = 1 + (i : Int) + 1 by omega]
            exact this
      · have hie : i = 8 := by omega
        have hgt : ¬ 1 + (i : Int) ≤ 8 := by omega
        have hqf : q = false := by
          have := HK.out
          rw [show 8 - i = 0 by omega] at this
          exact this.symm
        subst hqf
        go_wp2
        go_ret
        exact ⟨rfl, HB.out⟩
end Go.Proofs.YtmhlpjfijpomkaaGreatDoor
