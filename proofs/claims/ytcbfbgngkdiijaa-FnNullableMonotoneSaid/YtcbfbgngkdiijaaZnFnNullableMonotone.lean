/-
  FnNullableMonotone returns true for all bytes and leaves them as they were. No condition.
-/
import Derived.Test.YtcbfbgngkdiijaaRows
import Derived.OpenShut
import Derived.Test.YtcbfbgngkdiijaaZnDrQ
import Derived.Test.YtcbfbgngkdiijaaZnNuZ
import Derived.Test.YtcbfbgngkdiijaaZnArgB
namespace Go.Proofs.Ytcbfbgngkdiijaa
open Go.RowKit Go.Qo
open Go.ChangeShapes Go.WideShapes Go.ChangeAt
set_option linter.unusedVariables false
set_option linter.unusedSimpArgs false

def allT (fl : List (List Bool)) : List (List Bool) := fl.map fun r => r.map fun _ => true
theorem allT_ok {ws : List Int} {fl : List (List Bool)} : FlOk ws (allT fl) ↔ FlOk ws fl := by
  unfold FlOk allT
  rw [List.length_map]
  refine and_congr Iff.rfl ⟨fun h i r x hr hx => ?_, fun h i r x hr hx => ?_⟩
  · have := h i (r.map fun _ => true) x (by rw [List.getElem?_map, hr]; rfl) hx
    rwa [List.length_map] at this
  · rw [List.getElem?_map] at hr
    cases hq : fl[i]? with
    | none => rw [hq] at hr; cases hr
    | some q =>
      rw [hq] at hr
      cases hr
      have := h i q x hq hx
      rw [List.length_map]
      exact this
theorem nlP_mono (ws : List Int) (fl : List (List Bool)) (p : Pl) : LeB (nlP ws fl p) (nlP ws (allT fl) p) := by
  by_cases h : widthP ws p ≠ 0 ∧ FlOk ws fl
  · rw [nlP_yes h, nlP_yes ⟨h.1, allT_ok.2 h.2⟩]
    exact nulP_mono p fl _ (leF_all fl)
  · rw [nlP_no h, nlP_no fun k => h ⟨k.1, allT_ok.1 k.2⟩]
    exact LeB.refl _
theorem nlP_len6 (ws : List Int) (fl : List (List Bool)) (p : Pl) : (nlP ws fl p).length ≤ 6 := by
  by_cases h : widthP ws p ≠ 0 ∧ FlOk ws fl
  · rw [nlP_yes h]
    obtain ⟨h1, h2⟩ := widthN_ok h.1
    have := nulP_len h.2 8 p h2
    have := (plW_range h1.2 8 p).2
    omega
  · rw [nlP_no h]; simp
theorem allT_take {fl : List (List Bool)} {i : Nat} (h : i < fl.length) : (allT fl).take (i + 1) = (allT fl).take i ++ [(fl[i]).map fun _ => true] := by
  unfold allT
  rw [List.take_add_one, List.getElem?_map, List.getElem?_eq_getElem h]; rfl
theorem mapT_rep (r : List Bool) : (r.map fun _ => true) = List.replicate r.length true := by
  induction r with
  | nil => rfl
  | cons a l ih => simp [List.replicate_succ, ih]

set_option maxRecDepth 20000 in
set_option maxHeartbeats 8000000 in
theorem FnNullableMonotone_walk (A : Option Addr) (c : Nat) (xs : List Int) (w : World) (hc : xs.length ≤ c) (hm : c ≤ maxLen) (hg : ∀ x ∈ xs, 0 ≤ x ∧ x ≤ 255) (h : Sl 1 byteC w w.heap.size A xs) :
    Calls Try.prog 3 #[.slice A xs.length c] w fun e w' => e = .returned (.bool true) ∧ Below w.heap.size w w' := by
  have HD := Lib.hid (drawNu_ok A c xs w hc hm hg h)
  have hx63 : xs.length ≤ 9223372036854775807 := by unfold maxLen at hm; omega
  clear h hg hc hm
  by_cases hx : (1048576 : Int) < xs.length
  · clear HD
    go_enter Try.func3, Try.ntmps3
    go_wp2
    go_ret
    exact ⟨rfl, Below.refl _ _⟩
  go_enter Try.func3, Try.ntmps3
  go_wp2_with fail
  refine HD.out.mono ?_
  rintro e w3 ⟨pf, px, v2, ws, A3, c3, fl, rfl, ⟨hx3, how3, hwl, hwr⟩, hfl, ⟨hf3, hf7⟩, hfc, hfm, hb3⟩
  obtain ⟨A2, c2, rfl, hc21, hc22, hs2⟩ := how3.shape intC_length
  unfold fpV
  obtain ⟨W4, hW4⟩ : ∃ z, w3.alloc (.cells #[.int .i64 pf.kind, .int .i64 pf.table, .slice pf.es.A pf.es.n pf.es.c, .slice pf.cs.A pf.cs.n pf.cs.c, .slice pf.ks.A pf.ks.n pf.ks.c] 27) = z := ⟨_, rfl⟩
  have B4 : Below w3.heap.size w3 W4 := by rw [← hW4]; exact balloc (Below.refl _ _) _
  have r4 : Row W4 w3.heap.size 27 (fpC pf) := by rw [← hW4]; exact Row.new _ _ _
  have BX := Lib.hid (fun (z : World) (hz : Below W4.heap.size W4 z) => show (z.cell? ⟨w3.heap.size, 0, none⟩ = some (.int .i64 pf.kind) ∧ z.cell? ⟨w3.heap.size, 1, none⟩ = some (.int .i64 pf.table) ∧ z.cell? ⟨w3.heap.size, 2, none⟩ = some (.slice pf.es.A pf.es.n pf.es.c) ∧ z.cell? ⟨w3.heap.size, 3, none⟩ = some (.slice pf.cs.A pf.cs.n pf.cs.c) ∧ z.cell? ⟨w3.heap.size, 4, none⟩ = some (.slice pf.ks.A pf.ks.n pf.ks.c)) from ⟨(r4.on hz).cell 0, (r4.on hz).cell 1, (r4.on hz).cell 2, (r4.on hz).cell 3, (r4.on hz).cell 4⟩)
  have hwb : ws.length ≤ maxLen := by unfold maxLen; omega
  have hcb : fl.length ≤ maxLen := by unfold maxLen; omega
  have hrb : ∀ r ∈ fl, r.length ≤ maxLen := fun r hr => by have := hf7 r hr; unfold maxLen; omega
  have hal : (allT fl).length = fl.length := by simp [allT]
  have har : ∀ r ∈ allT fl, r.length ≤ maxLen := fun r hr => by
    unfold allT at hr
    obtain ⟨q, hq, rfl⟩ := List.mem_map.1 hr
    rw [List.length_map]
    exact hrb q hq
  obtain ⟨L, hL⟩ : ∃ l, nlP ws fl px = l := ⟨_, rfl⟩
  obtain ⟨M, hM⟩ : ∃ l, nlP ws (allT fl) px = l := ⟨_, rfl⟩
  have hmono := nlP_mono ws fl px
  have hL6 := nlP_len6 ws fl px
  rw [hL] at hmono hL6
  rw [hM] at hmono
  have HMono := Lib.hid hmono
  have KI := Lib.hid (fun (z : World) (hz : Below w3.heap.size w3 z) => implNullCols_ok px pf ws fl A2 A3 c2 c3 z (hx3.in_.on hz) hwb hcb hrb (hs2.sl.on hz) (hfl.on hz))
  have KS := Lib.hid (fun (z : World) (hz : Below w3.heap.size w3 z) => specNullCols_ok px pf ws fl A2 A3 c2 c3 z (hx3.in_.on hz) hwb hcb hrb (hs2.sl.on hz) (hfl.on hz))
  have KA := Lib.hid (fun (A' : Option Addr) (c' : Nat) (z : World) (hz : Below w3.heap.size w3 z) (hA : FlIn z z.heap.size A' (allT fl)) => implNullCols_ok px pf ws (allT fl) A2 A' c2 c' z (hx3.in_.on hz) hwb (by rw [hal]; exact hcb) har (hs2.sl.on hz) hA)
  rw [hL] at KI KS
  rw [hM] at KA
  unfold fpV at KI KS KA
  have HF := Lib.hid (fun (z : World) (hz : Below w3.heap.size w3 z) => hfl.on hz)
  have HF7 := Lib.hid hf7
  have HAL := Lib.hid hal
  have HB34 := Lib.hid (And.intro hb3 B4)
  have HW4 := Lib.hid hW4
  obtain ⟨x0, x1, x2, x3, x4⟩ := BX.out _ (Below.refl _ _)
  unfold maxLen at hfm
  clear hx3 how3 hwl hwr hs2 hfl hb3 B4 r4 hW4 hc21 hwb hcb hrb hal har hmono hL hM HD hf7
  go_upto_region 4 with fail
  rw [HW4.out]
  go_wp2_with fail
  refine (KI.out _ HB34.out.2).mono ?_
  rintro e w5 ⟨v5, rfl, how5, hb5⟩
  obtain ⟨A5, c5, rfl, hc51, hc52, hs5⟩ := how5.shape boolC_length
  have HS5 := Lib.hid hs5.sl
  have H5 := Lib.hid hb5
  obtain ⟨x0, x1, x2, x3, x4⟩ := BX.out _ hb5
  clear how5 hs5 hb5
  go_wp2_with fail
  refine (KS.out _ (bch HB34.out.2 H5.out)).mono ?_
  rintro e w6 ⟨v6, rfl, how6, hb6⟩
  obtain ⟨A6, c6, rfl, hc61, hc62, hs6⟩ := how6.shape boolC_length
  have HS6 := Lib.hid hs6.sl
  have H6 := Lib.hid hb6
  have H56 := Lib.hid (bch H5.out hb6)
  have HS5' := Lib.hid (HS5.out.on hb6)
  clear how6 hs6 hb6 x0 x1 x2 x3 x4
  obtain ⟨W7, hW7⟩ : ∃ z, w6.alloc (.cells #[] 31) = z := ⟨_, rfl⟩
  have b7 : Below w6.heap.size w6 W7 := by rw [← hW7]; exact balloc (Below.refl _ _) _
  have HO7 := Lib.hid (show FlW 31 w6.heap.size W7.heap.size W7 (.slice (some ⟨w6.heap.size, 0, none⟩) 0 0) [] from
    ⟨[], rfl, by rw [← hW7]; exact Ow.lit (xs := ([] : List SV)) rfl rfl (Nat.le_refl _) (by decide), fun i s r h => by simp at h⟩)
  have HB7 := Lib.hid b7
  have HW7 := Lib.hid hW7
  clear hW7 b7
  go_upto_region 9 with fail
  rw [HW7.out]
  go_wp2
  go_loopg [8, 9] fl.length (fun g v iv wr => ∃ (i z : Nat), i ≤ fl.length ∧ g = fl.length - i ∧ iv = .int .i64 i ∧ z ≤ wr.heap.size ∧ FlW 31 w6.heap.size z wr v ((allT fl).take i) ∧ Below w6.heap.size w6 wr)
  case atStart => exact ⟨0, _, by omega, by omega, rfl, Nat.le_refl _, HO7.out, HB7.out⟩
  case round =>
    obtain ⟨i, z, hi, rfl, rfl, hz, hfw, hb⟩ := hrel
    have HB := Lib.hid hb
    have HZ := Lib.hid hz
    have hti : ((allT fl).take i).length = i := by rw [List.length_take, HAL.out]; omega
    obtain ⟨A8, c8, rfl, hc81, hc82⟩ := hfw.shape
    rw [hti] at hfw
    have HFW := Lib.hid hfw
    rw [hti]
    rw [hti] at hc81
    have HTI := Lib.hid hti
    clear hfw hb hz hti
    by_cases hil : i < fl.length
    · have hiI : (i : Int) < (fl.length : Int) := by omega
      obtain ⟨W8, hW8⟩ : ∃ z, wr.alloc (.cells #[] 4) = z := ⟨_, rfl⟩
      have hb8 : Below wr.heap.size wr W8 := by rw [← hW8]; exact balloc (Below.refl _ _) _
      obtain ⟨lo8, hlo8⟩ : ∃ n, wr.heap.size = n := ⟨_, rfl⟩
      have HB8 := Lib.hid hb8
      have HO8 := Lib.hid (show Ow lo8 4 1 boolC W8 (.slice (some ⟨lo8, 0, none⟩) 0 0) ([] : List Bool) by rw [← hW8, ← hlo8]; exact Ow.lit (xs := ([] : List Bool)) rfl rfl (Nat.le_refl _) (by decide))
      have HW8 := Lib.hid hW8
      have Hlo8 := Lib.hid hlo8
      obtain ⟨bf, of, sf, hAf, _⟩ := (HF.out _ (bch (bch HB34.out.2 H56.out) HB.out)).at_ hil
      have hr7 := HF7.out _ (List.getElem_mem hil)
      have HMR := Lib.hid (allT_take hil)
      rw [mapT_rep] at HMR
      have HFR := Lib.hid (fun (z : World) (hz : Below w6.heap.size w6 z) => show ∃ s : SV, z.cell? ⟨bf, of + i, none⟩ = some (.slice s.A fl[i].length s.c) from by
        obtain ⟨b1, o1, s, h1, _, h2, _⟩ := (HF.out _ (bch (bch HB34.out.2 H56.out) hz)).at_ hil
        rw [hAf] at h1
        cases h1
        exact ⟨s, h2⟩)
      obtain ⟨m, hmm⟩ : ∃ m, fl[i].length = m := ⟨_, rfl⟩
      rw [hmm] at HFR hr7 HMR
      clear hW8 hb8 hlo8 hmm
      subst hAf
      go_upto_region 13 with fail
      rw [HW8.out]
      try rw [Hlo8.out]
      go_wp2
      go_loopg [10, 11] m (fun g v kv wt => ∃ (k : Nat), k ≤ m ∧ g = m - k ∧ kv = .int .i64 k ∧ Ow lo8 4 1 boolC wt v (List.replicate k true) ∧ Below wr.heap.size wr wt)
      case atStart => exact ⟨0, by omega, by omega, rfl, HO8.out, HB8.out⟩
      case round =>
        obtain ⟨k, hk, rfl, rfl, how, hb⟩ := hrel
        have HO := Lib.hid how
        have HBi := Lib.hid hb
        obtain ⟨s0, hc0⟩ := HFR.out _ (bch HB.out hb)
        clear how hb
        by_cases hkl : k < m
        · have hkI : (k : Int) < (m : Int) := by omega
          obtain ⟨U, hU⟩ : ∃ z, wr.alloc (.cells #[.bool true] 4) = z := ⟨_, rfl⟩
          have hub : Below wr.heap.size wr U := by rw [← hU]; exact balloc (Below.refl _ _) _
          have HBU := Lib.hid (bch HBi.out hub)
          have HO6 := Lib.hid (HO.out.on hub)
          have HS6' := Lib.hid (show Sl 1 boolC U U.heap.size (some ⟨wr.heap.size, 0, none⟩) [true] by rw [← hU]; exact Row.sl' (t := 4) boolC_length ((Row.new wr _ _).of rfl))
          have hsz7 : lo8 ≤ U.heap.size := by have := HBU.out.size; have := Hlo8.out; omega
          have hrl : (List.replicate k true).length ≤ 7 := by rw [List.length_replicate]; omega
          have HU := Lib.hid hU
          clear hU hub
          go_wp2_with (at_builtin; rw [HU.out]; refine wpList_app rfl (.tmp 53) (.tmp 54) 31 rfl lo8 4 _ 1 1 boolC Try.underlying31 zeroBoolQ rfl (by decide) (by decide) boolC_length boolC_one _ (List.replicate k true) rfl HO6.out (some ⟨wr.heap.size, 0, none⟩) 1 1 [true] rfl rfl HS6'.out (by simp only [List.length_singleton]; omega) hsz7 ?_; intro v' w' hown hgr)
          go_roundg (m - (k + 1))
          case measure => omega
          case rel =>
            exact ⟨k + 1, by omega, rfl, by go_num, by rw [List.replicate_succ']; exact hown, HBU.out.grown hgr (by have := HBU.out.size; omega) fun j hj => by have := (HO6.out.ty j hj).1; have := Hlo8.out; omega⟩
        · have hkI : ¬ (k : Int) < (m : Int) := by omega
          obtain ⟨A10, c10, rfl, hc101, hc102, _⟩ := HO.out.shape boolC_length
          have hkm : k = m := by omega
          have HKM := Lib.hid hkm
          rw [List.length_replicate] at hc101
          rw [List.length_replicate]
          obtain ⟨U, hU⟩ : ∃ z, wr.alloc (.cells #[.slice A10 k c10] 31) = z := ⟨_, rfl⟩
          have hub : Below wr.heap.size wr U := by rw [← hU]; exact balloc (Below.refl _ _) _
          have HBU := Lib.hid (bch HBi.out hub)
          have HFU := Lib.hid (HFW.out.only (S := fun _ => False) (only_below HBU.out) fun j h => h.elim)
          have HS6' := Lib.hid (show Sl 1 svC U U.heap.size (some ⟨wr.heap.size, 0, none⟩) [(⟨A10, k, c10⟩ : SV)] by rw [← hU]; exact Row.sl' (t := 31) svC_length ((Row.new wr _ _).of rfl))
          have hlo := Hlo8.out
          have hsz8 : w6.heap.size ≤ U.heap.size := by have := HB.out.size; have := HBU.out.size; omega
          obtain ⟨hs, hsl, how0, h3⟩ := HFU.out
          obtain ⟨hs', hsl', how0', h3'⟩ := HFW.out
          have HX := Lib.hid (show SlS (fun k => w6.heap.size ≤ k ∧ (Value.slice A8 i c8).ownBlock ≠ some k) 1 boolC U A10 (List.replicate k true) from by
            refine (slS_ow boolC_length HO.out (S := fun k => lo8 ≤ k) fun k hk => (HO.out.ty k hk).1).mono (fun k _ hk => ⟨by have := HB.out.size; have hk : lo8 ≤ k := hk; omega, fun e => ?_⟩) |>.keep hub.size fun k _ hl => hub.block k hl
            have := (how0'.ty k e).2.1
            have hk : lo8 ≤ k := hk
            omega)
          have HU := Lib.hid hU
          have Hh := Lib.hid (And.intro hsl (And.intro how0 h3))
          have hhl : hs.length ≤ 3 := by rw [hsl, HTI.out]; omega
          clear hU hub hsl how0 h3 hsl' how0' h3' hlo hkm
          go_wp2_with (at_builtin; rw [HU.out]; refine wpList_app2 rfl (.tmp 56) (.tmp 58) 28 rfl w6.heap.size 31 _ 1 24 svC Try.underlying28 zeroRowQ rfl (by decide) (by decide) svC_length svC_one _ hs rfl Hh.out.2.1 (some ⟨wr.heap.size, 0, none⟩) 1 1 [(⟨A10, k, c10⟩ : SV)] rfl rfl HS6'.out (by simp; omega) hsz8 ?_; intro v' w' hown hgr hob)
          go_roundg (fl.length - (i + 1))
          case measure => omega
          case rel =>
            have hzU := HBU.out.size
            have hF := FlW.snoc (r := List.replicate k true) Hh.out.1 Hh.out.2.1 Hh.out.2.2 (by have := HZ.out; omega) ⟨by rw [List.length_replicate], hc101, hc102⟩ HX.out hown hgr hob
            exact ⟨i + 1, U.heap.size, by omega, rfl, by go_num, hgr.size, by rw [HMR.out, ← HKM.out]; exact hF, (bch HB.out HBU.out).grown hgr hsz8 fun k hk => (Hh.out.2.1.ty k hk).1⟩
    · have hiI : ¬ (i : Int) < (fl.length : Int) := by omega
      have hie : i = fl.length := by omega
      have HIE := Lib.hid hie
      have HFA := Lib.hid (show FlIn wr wr.heap.size A8 (allT fl) from by
        have := HFW.out.in_
        rwa [List.take_of_length_le (by rw [HAL.out]; omega)] at this)
      have HWr := Lib.hid (bch H56.out HB.out)
      obtain ⟨x0, x1, x2, x3, x4⟩ := BX.out _ HWr.out
      have HKA := Lib.hid (KA.out A8 c8 wr (bch HB34.out.2 HWr.out) HFA.out)
      rw [HAL.out, ← HIE.out] at HKA
      have HSa := Lib.hid (HS5'.out.on HB.out)
      have HSb := Lib.hid (HS6.out.on HB.out)
      clear hie
      go_wp2_with fail
      refine HKA.out.mono ?_
      rintro e w9 ⟨v9, rfl, how9, hb9⟩
      obtain ⟨A9, c9, rfl, hc91, hc92, hs9⟩ := how9.shape boolC_length
      have HS9 := Lib.hid hs9.sl
      have HSa9 := Lib.hid (HSa.out.on hb9)
      have HSb9 := Lib.hid (HSb.out.on hb9)
      have HW9 := Lib.hid (bch HB34.out.1 (bch (bch HB34.out.2 HWr.out) hb9))
      have HLM := Lib.hid HMono.out.1
      have hM6 : M.length ≤ 6 := by rw [← HLM.out]; exact hL6
      clear how9 hs9 hb9 x0 x1 x2 x3 x4
      go_wp2
      go_loopg [13] L.length (fun g iv wt => ∃ j : Nat, j ≤ L.length ∧ g = L.length - j ∧ iv = .int .i64 j ∧ Below w9.heap.size w9 wt)
      case atStart => exact ⟨0, by omega, by omega, rfl, Below.refl _ _⟩
      case round =>
        obtain ⟨j, hj, rfl, rfl, hb⟩ := hrel
        have HBj := Lib.hid hb
        by_cases hjl : j < L.length
        · have hjI : (j : Int) < (L.length : Int) := by omega
          have hjM : j < M.length := by rw [← HLM.out]; exact hjl
          have hjMI : (j : Int) < (M.length : Int) := by omega
          obtain ⟨ba, oa, rfl, hBa, ca⟩ := Sl.at1 (f := fun x : Bool => Value.bool x) (HSa9.out.on hb) hjl
          obtain ⟨bb, ob, rfl, hBb, cb⟩ := Sl.at1 (f := fun x : Bool => Value.bool x) (HSb9.out.on hb) hjl
          obtain ⟨bc, oc, rfl, hBc, cc⟩ := Sl.at1 (f := fun x : Bool => Value.bool x) (HS9.out.on hb) hjM
          have hle : L[j] = true → M[j] = true := fun hq => by
            have := HMono.out.2 j
            rw [List.getD_eq_getElem?_getD, List.getD_eq_getElem?_getD, List.getElem?_eq_getElem hjl, List.getElem?_eq_getElem hjM] at this
            exact this hq
          obtain ⟨q, hq⟩ : ∃ q, L[j] = q := ⟨_, rfl⟩
          obtain ⟨r, hr⟩ : ∃ q, M[j] = q := ⟨_, rfl⟩
          rw [hq] at ca cb hle
          rw [hr] at cc hle
          have CA := fun z : Aft wr.heap.size wr => z.cell hBa ca
          have CB := fun z : Aft wr.heap.size wr => z.cell hBb cb
          have CC := fun z : Aft wr.heap.size wr => z.cell hBc cc
          clear hq hr hb
          cases q
          · clear hle
            go_wp2
            go_quiet (fail)
            go_wp2
            go_roundg (L.length - (j + 1))
            case measure => omega
            case rel => exact ⟨j + 1, by omega, rfl, by go_num, bdrewN HBj.out _⟩
          · have hr := hle rfl
            subst hr
            clear hle
            go_wp2
            go_quiet (fail)
            go_wp2
            go_roundg (L.length - (j + 1))
            case measure => omega
            case rel => exact ⟨j + 1, by omega, rfl, by go_num, bdrewN HBj.out _⟩
        · have hjI : ¬ (j : Int) < (L.length : Int) := by omega
          have hlm : ((M.length : Int) == (L.length : Int)) = true := by rw [HLM.out]; simp
          clear hb
          go_wp2
          go_ret
          exact ⟨rfl, bch HW9.out HBj.out⟩

namespace lawFnNullableMonotone
theorem own : ownKnob Try.prog.godebug = none := by kernel_rfl
theorem laidOut : laidOutB Try.prog = true := by kernel_rfl

set_option maxRecDepth 100000 in
theorem lifted (os : Os) (started : os.Started) (H : Type) (enc : TypeId × Value → H) :
    ReturnsInHanded {} Try.checked os 3 .any (Rows.fnNullableMonotoneSpec.pre6 enc Try.prog Try.f3 Rows.fnNullableMonotoneRow.domain false) (Rows.fnNullableMonotoneSpec.post enc Try.prog Try.f3 false true false false) := by
  refine returnsInHanded_of_change (C := Try.checked) own started (by kernel_rfl) Try.func3
    (ChangeSpec.witness6 (enc := enc) (C := Try.checked) false ⟨#[], #[.slice none 0 0], []⟩ 8 (by kernel_rfl) (by kernel_rfl) (by kernel_rfl) (by kernel_rfl)) ?_
  intro W base args ds gs before hval0 hW hcnd _
  have hval : ∀ (j : Nat) t v, Try.f3.params[j]? = some t → args[j]? = some v → Value.okWide Try.prog W .any base t v := hval0
  have hW' := hW
  obtain ⟨p, q, hA0, hV, rfl, hfz, hnd⟩ := hW
  have hA : DataW.TrodAll enc Try.prog W 0 (fun _ => true) true Try.f3.params.toList args.toList ds p := hA0
  rw [Try.params3] at hA hval
  obtain ⟨v0, vs0, d0, ds0, p0, q0, hargs, rfl, rfl, h0, r0⟩ := trodAll_cons hA
  obtain ⟨rfl, rfl, rfl⟩ := trodAll_nil r0
  obtain rfl : args = #[v0] := by cases args; simp_all
  obtain ⟨rfl, rfl⟩ := trodVars_none hV
  obtain ⟨a0, len0, c0, rfl⟩ := okWide_slice Try.underlying22 (hval 0 22 v0 rfl rfl)
  have k0 := h0
  have lt0 : ∀ x ∈ p0, x.block < W.heap.size := by obtain ⟨m, hm⟩ := k0; exact DataW.trod_lt m _ _ _ hm
  obtain ⟨f0, h0⟩ := h0
  obtain ⟨xs0, rfl, hc0, hm0, g0, s0⟩ := open_sl (sz := 1) (ec := byteC) Try.underlying22 (by kernel_rfl) (by omega) byteC_length (el_byte Try.underlying5) h0
  clear hA0 hval0
  refine (FnNullableMonotone_walk a0 c0 xs0 W hc0 hm0 g0 s0).mono fun e W' ⟨he, bel⟩ => ?_
  subst he
  exact ⟨_, rfl, _, _, _, [], _, [], hW', trodAll_mk1 (shut_bool Try.underlying4 _), (trodAll_cons_mk (Below.trod laidOut (by kernel_rfl) (of_decide_eq_true (by kernel_rfl)) k0 bel lt0) trodAll_mk0), rfl, bel.frame _, fun h => by cases h⟩

theorem over : Rows.fnNullableMonotoneRow.holds Try.pinned (OpenSpec.ofChange Rows.fnNullableMonotoneSpec) :=
  OpenClaim.holds_of_wide 3 Try.f3 rfl rfl rfl rfl rfl rfl rfl ⟨rfl, rfl, rfl, rfl, rfl⟩ rfl rfl rfl rfl rfl (by kernel_rfl) Try.func3 (by kernel_rfl)
    (of_decide_eq_true (by kernel_rfl)) (by unfold Func.isWrapper; first | (rw [if_pos (by decide +kernel)]; kernel_rfl) | (rw [if_neg (by decide +kernel)]; exact ⟨rfl, rfl⟩))
    (fun os started H enc _ => lifted os started H enc)

theorem proved : Rows.FnNullableMonotoneSaid := over
end lawFnNullableMonotone
#print axioms lawFnNullableMonotone.proved

end Go.Proofs.Ytcbfbgngkdiijaa
