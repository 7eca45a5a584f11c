/-
  Contracts: the program's scanner: numbers, kinds, values (index, kind, DecodeValue).
-/
import Derived.Test.YtmhlpjfijpomkaaGreatDoorProg
import Derived.Test.YtmhlpjfijpomkaaGreatDoorZqDcI
import Derived.Lib.SmallJoins
namespace Go.Proofs.YtmhlpjfijpomkaaGreatDoor
open Go.RowKit Go.Qo
set_option linter.unusedVariables false
set_option linter.unusedSimpArgs false

/-- The variables of strconv hold errors, and go on holding them. -/
def EvB (lo : Nat) (w : World) : Prop := ∀ w', Below lo w w' → (∃ te pe, w'.cell? ⟨0, 0, none⟩ = some (.iface te pe)) ∧ ∃ te pe, w'.cell? ⟨1, 0, none⟩ = some (.iface te pe)
theorem EvB.on {lo : Nat} {w w' : World} (h : EvB lo w) (hb : Below lo w w') : EvB lo w' := fun z hz => h z (hb.trans hz)
theorem EvB.mono {B B' : Nat} {w : World} (h : EvB B w) (hB : B ≤ B') : EvB B' w := fun w' hb => h w' (hb.mono hB)
theorem but_low {b lo : Nat} {w w' : World} (h : But b w w') (hb : lo ≤ b) (hw : lo ≤ w.heap.size) : Below lo w w' :=
  ⟨h.os, h.tape, h.output, h.size, fun i hi => h.block i (by omega) (by omega)⟩
theorem atoi_yes {l : List UInt8} {n : Int} (h : Lib.atoiAll l = .ok n) (hl : l.length ≤ 8388608) (w : World) : Calls Tryz.prog 101 #[.string (bArr l)] w fun e w' => e = .returned (.tuple #[.int .i64 n, .nilIface]) ∧ Below w.heap.size w w' := by
  refine (Tryz.strconv_Atoi_ok (bArr l) (by show l.length ≤ _; omega) n h w).mono ?_
  rintro e w' ⟨rfl, rfl | ⟨t, rfl⟩⟩
  · exact ⟨rfl, Below.refl _ _⟩
  · exact ⟨rfl, Joins.below_bytesWorld _ _ _ _ (Nat.le_refl _)⟩
theorem atoi_no {l : List UInt8} (h : ∀ n, Lib.atoiAll l ≠ .ok n) (hl : l.length ≤ 8388608) (lo : Nat) (w : World) (hv : EvB lo w) : Calls Tryz.prog 101 #[.string (bArr l)] w fun e w' => (∃ m te pe, e = .returned (.tuple #[.int .i64 m, .iface te pe])) ∧ Below w.heap.size w w' := by
  obtain ⟨⟨t1, p1, h1⟩, t2, p2, h2⟩ := hv w (Below.refl _ _)
  cases he : Lib.atoiAll l with
  | ok n => exact absurd he (h n)
  | range =>
    refine (Tryz.strconv_Atoi_range (bArr l) (by show l.length ≤ _; omega) he _ w h2 (.inr ⟨_, _, rfl⟩)).mono ?_
    rintro e w' ⟨N, rfl, _, _, hb⟩
    exact ⟨⟨_, _, _, rfl⟩, hb⟩
  | _ =>
    refine (Any.strconv_Atoi_syntax Tryz.laysC172 (bArr l) (by show l.length ≤ _; omega) he _ w h1 (.inr ⟨_, _, rfl⟩)).mono ?_
    rintro e w' ⟨N, rfl, _, _, hb⟩
    exact ⟨⟨_, _, _, rfl⟩, hb⟩

set_option maxHeartbeats 1000000 in
theorem index_yes {b : Nat} {l : List UInt8} {n : Int} {w : World} (h : Sc w b l) (hix : Ix l) (hl : l.length ≤ 8388608) (hn : Lib.atoiAll (wordOf l) = .ok n) : Calls Tryz.prog 71 #[.pointer (some ⟨b, 0, none⟩)] w fun e w' =>
    e = .returned (.int .i64 n) ∧ Sc w' b (restOf l) ∧ But b w w' := by
  have HX := Lib.hid (word_ok h hix hl)
  have hwl : (wordOf l).length ≤ 8388608 := by have := congrArg List.length (word_rest l); simp at this; omega
  have HA := Lib.hid (fun z => atoi_yes hn hwl z)
  clear h hix hn
  go_enter Tryz.func71, Tryz.ntmps71
  go_wp2_with fail
  refine HX.out.mono ?_
  rintro e w2 ⟨rfl, h2, hb2⟩
  have H2 := Lib.hid (And.intro h2 hb2)
  clear h2 hb2
  go_wp2_with fail
  refine (HA.out w2).mono ?_
  rintro e w3 ⟨rfl, hb3⟩
  go_wp2
  go_ret
  exact ⟨rfl, H2.out.1.on hb3, H2.out.2.below hb3⟩
set_option maxHeartbeats 1000000 in
theorem index_no {b lo : Nat} {l : List UInt8} {w : World} (h : Sc w b l) (hix : Ix l) (hl : l.length ≤ 8388608) (hn : ∀ n, Lib.atoiAll (wordOf l) ≠ .ok n) (hv : EvB lo w) (hlo : lo ≤ b) : Calls Tryz.prog 71 #[.pointer (some ⟨b, 0, none⟩)] w (Malf b w) := by
  have HX := Lib.hid (word_ok h hix hl)
  have hwl : (wordOf l).length ≤ 8388608 := by have := congrArg List.length (word_rest l); simp at this; omega
  have hlt := h.lt
  have HA := Lib.hid (fun (z : World) (hz : But b w z) => atoi_no hn hwl lo z (hv.on (but_low hz hlo (by omega))))
  clear h hix hn hv
  go_enter Tryz.func71, Tryz.ntmps71
  go_wp2_with fail
  refine HX.out.mono ?_
  rintro e w2 ⟨rfl, h2, hb2⟩
  have H2 := Lib.hid (And.intro h2 hb2)
  clear h2 hb2
  go_wp2_with fail
  refine (HA.out w2 H2.out.2).mono ?_
  rintro e w3 ⟨⟨m, te, pe, rfl⟩, hb3⟩
  go_wp2
  exact ⟨rfl, rfl, H2.out.2.below hb3⟩

theorem bArr_list (l : List UInt8) : (bArr l).toList = l := by rw [ByteArray.toList_eq]; rfl
def KindPost (b : Nat) (l : List UInt8) (w : World) (r : Option Int) (e : Ending) (w' : World) : Prop :=
  match r with
  | some k => e = .returned (.int .i64 k) ∧ Sc w' b (restOf l) ∧ But b w w'
  | none => Malf b w e w'
set_option maxRecDepth 20000 in
set_option maxHeartbeats 1000000 in
/-- kind finds the first of the kinds that bears the word as its name, or panics. -/
theorem kind_ok {b : Nat} {l : List UInt8} {w : World} (fid : Nat) (nm : Int → List UInt8) (lo : Int) (cnt : Nat) (hlo : 0 ≤ lo) (hc : lo + cnt ≤ 100) (hent : ∀ (args : Array Value) (z : World), (callFunc fid args).run Tryz.prog z = .ok (.enter fid args) z) (hcall : ∀ (k : Int) (z : World), lo ≤ k → k < lo + cnt → Calls Tryz.prog fid #[.int .i64 k] z fun e w' => e = .returned (.string (bArr (nm k))) ∧ Below z.heap.size z w')
    (h : Sc w b l) (hix : Ix l) (hl : l.length ≤ 8388608) (r : Option Int) (hr : kindOf nm lo cnt (wordOf l) = r) : Calls Tryz.prog 68 #[.pointer (some ⟨b, 0, none⟩), .int .i64 lo, .int .i64 (lo + cnt - 1), .func (Fn.func fid) #[] #[]] w (KindPost b l w r) := by
  have HX := Lib.hid (word_ok h hix hl)
  have HC := Lib.hid hcall
  have HR := Lib.hid hr
  obtain ⟨top, hhi⟩ : ∃ hi : Int, lo + cnt - 1 = hi := ⟨_, rfl⟩
  have Hhi := Lib.hid hhi
  rw [hhi]
  have hh2 : top ≤ 99 := by omega
  obtain ⟨S, hS⟩ : ∃ S, bArr (wordOf l) = S := ⟨_, rfl⟩
  rw [hS] at HX
  have HS := Lib.hid hS
  clear h hix hcall hr hhi hS
  go_enter Tryz.func68, Tryz.ntmps68
  go_wp2_with fail
  refine HX.out.mono ?_
  rintro e w2 ⟨rfl, h2, hb2⟩
  have H2 := Lib.hid (And.intro h2 hb2)
  clear h2 hb2
  go_wp2
  go_loopg [10] cnt (fun g iv wr => ∃ i : Nat, i ≤ cnt ∧ g = cnt - i ∧ iv = .int .i64 (lo + i) ∧ Below w2.heap.size w2 wr ∧ kindOf nm (lo + i) (cnt - i) (wordOf l) = r)
  case atStart => exact ⟨0, by omega, by omega, by simp, Below.refl _ _, by simpa using HR.out⟩
  case round =>
    obtain ⟨i, hi, rfl, rfl, hb, hk⟩ := hrel
    have HB := Lib.hid hb
    have HK := Lib.hid hk
    clear hb hk
    by_cases hlt : i < cnt
    · have hle : lo + (i : Int) ≤ top := by have := Hhi.out; omega
      obtain ⟨k, hk⟩ : ∃ k : Int, lo + (i : Int) = k := ⟨_, rfl⟩
      have hk2 : k ≤ 99 ∧ 0 ≤ k := by omega
      have HX := Lib.hid (HC.out k wr (by omega) (by omega))
      have Hk := Lib.hid hk
      rw [hk] at hle ⊢
      clear hk
      by_cases he : nm k = wordOf l
      · have hS2 : bArr (nm k) = S := by rw [he]; exact HS.out
        rw [hS2] at HX
        have HE := Lib.hid he
        clear he hS2
        go_wp2_with fail
        refine HX.out.mono ?_
        rintro e w3 ⟨rfl, hb3⟩
        go_wp2
        go_ret
        have hkk : r = some k := by
          have := HK.out
          rw [Hk.out, show cnt - i = (cnt - i - 1) + 1 by omega] at this
          unfold kindOf at this
          rw [if_pos HE.out] at this
          exact this.symm
        rw [hkk]
        exact ⟨rfl, (H2.out.1.on HB.out).on hb3, (H2.out.2.below HB.out).below hb3⟩
      · obtain ⟨A, hA⟩ : ∃ S, bArr (nm k) = S := ⟨_, rfl⟩
        have hne : (A.toList == S.toList) = false := by
          rw [← hA, ← HS.out, bArr_list, bArr_list, beq_eq_false_iff_ne]
          exact he
        rw [hA] at HX
        have HE := Lib.hid he
        clear he hA
        go_wp2_with fail
        refine HX.out.mono ?_
        rintro e w3 ⟨rfl, hb3⟩
        go_wp2
        go_roundg (cnt - (i + 1))
        case measure => omega
        case rel =>
          refine ⟨i + 1, by omega, rfl, by rw [← Hk.out]; go_num, bch HB.out hb3, ?_⟩
          have := HK.out
          rw [Hk.out, show cnt - i = (cnt - (i + 1)) + 1 by omega] at this
          unfold kindOf at this
          rw [if_neg HE.out] at this
          rw [show lo + ((i + 1 : Nat) : Int) = k + 1 by have := Hk.out; omega]
          exact this
    · have hgt : ¬ lo + (i : Int) ≤ top := by have := Hhi.out; omega
      go_wp2
      have hrn : r = none := by
        have := HK.out
        rw [show cnt - i = 0 by omega] at this
        exact this.symm
      rw [hrn]
      exact ⟨rfl, rfl, H2.out.2.below HB.out⟩

set_option maxHeartbeats 1000000 in
theorem column_ok (n : Int) (w : World) : Calls Tryz.prog 79 #[.int .i64 n] w fun e w' => e = .returned (feV ⟨1, n, (false, 0), ⟨none, 0, 0⟩⟩) ∧ Below w.heap.size w w' := by
  unfold feV
  go_enter Tryz.func79, Tryz.ntmps79
  go_wp2
  refine bodyPost_ret (v := .agg #[.int .i64 1, .int .i64 n, .bool false, .int .i64 0, .slice none 0 0]) (by simp [results, Tryz.results79, go_sem]) rfl ⟨rfl, ?_⟩
  exact balloc (Below.refl _ _) _
set_option maxHeartbeats 1000000 in
theorem constantI_ok (v : Val) (w : World) : Calls Tryz.prog 82 #[.agg #[.bool v.1, .int .i64 v.2]] w fun e w' => e = .returned (feV ⟨2, 0, v, ⟨none, 0, 0⟩⟩) ∧ Below w.heap.size w w' := by
  unfold feV
  go_enter Tryz.func82, Tryz.ntmps82
  go_wp2
  refine bodyPost_ret (v := .agg #[.int .i64 2, .int .i64 0, .bool v.1, .int .i64 v.2, .slice none 0 0]) (by simp [results, Tryz.results82, go_sem]) rfl ⟨rfl, ?_⟩
  exact balloc (balloc (Below.refl _ _) _) _
set_option maxHeartbeats 1000000 in
theorem null_ok (w : World) : Calls Tryz.prog 106 #[] w fun e w' => e = .returned (.agg #[.bool true, .int .i64 0]) ∧ Below w.heap.size w w' := by
  go_enter Tryz.func106, Tryz.ntmps106
  go_wp2
  refine bodyPost_ret (v := .agg #[.bool true, .int .i64 0]) (by simp [results, Tryz.results106, go_sem]) rfl ⟨rfl, ?_⟩
  exact balloc (Below.refl _ _) _
set_option maxHeartbeats 1000000 in
theorem number_ok (n : Int) (w : World) : Calls Tryz.prog 107 #[.int .i64 n] w fun e w' => e = .returned (.agg #[.bool false, .int .i64 n]) ∧ Below w.heap.size w w' := by
  go_enter Tryz.func107, Tryz.ntmps107
  go_wp2
  refine bodyPost_ret (v := .agg #[.bool false, .int .i64 n]) (by simp [results, Tryz.results107, go_sem]) rfl ⟨rfl, ?_⟩
  exact balloc (Below.refl _ _) _

/-- The program's EncodeValue at any number. -/
theorem encodeAny_ok (v : Val) (lo : Nat) (w : World) (ht : T10 lo w) (hlo : lo ≤ w.heap.size) : Calls Tryz.prog 92 #[.agg #[.bool v.1, .int .i64 v.2]] w fun e w' => e = .returned (.string (bArr (if vValid v = true then valText v else []))) ∧ Below w.heap.size w w' := by
  by_cases hv : vValid v = true
  · rw [if_pos hv]
    exact encodeValue_ok v lo w hv ht hlo
  · rw [if_neg hv]
    obtain ⟨W1, hW1⟩ : ∃ z, w.alloc (.cells #[.bool v.1, .int .i64 v.2] 38) = z := ⟨_, rfl⟩
    have B1 : Below w.heap.size w W1 := by rw [← hW1]; exact balloc (Below.refl _ _) _
    have r1 : Row W1 w.heap.size 38 [.bool v.1, .int .i64 v.2] := by rw [← hW1]; exact Row.new _ _ _
    have HV := Lib.hid (implValid_ok v W1 false (by simpa using hv))
    have HW1 := Lib.hid hW1
    have HB1 := Lib.hid B1
    have c0 : W1.cell? ⟨w.heap.size, 0, none⟩ = some (.bool v.1) := r1.cell 0
    have c1 : W1.cell? ⟨w.heap.size, 1, none⟩ = some (.int .i64 v.2) := r1.cell 1
    clear hW1 B1 r1 ht hv
    go_enter Tryz.func92, Tryz.ntmps92
    go_upto_region 1 with fail
    rw [HW1.out]
    go_wp2_with fail
    refine HV.out.mono ?_
    rintro e w2 ⟨rfl, hb2⟩
    go_wp2
    go_ret
    exact ⟨rfl, bch HB1.out hb2⟩

def ValPost (r : Option Val) (w : World) (e : Ending) (w' : World) : Prop :=
  Below w.heap.size w w' ∧ match r with
  | some v => e = .returned (.tuple #[.agg #[.bool v.1, .int .i64 v.2], .bool true])
  | none => e = .returned (.tuple #[.agg #[.bool false, .int .i64 0], .bool false])

set_option maxRecDepth 20000 in
set_option maxHeartbeats 1000000 in
theorem decodeValue_ok (l : List UInt8) (lo : Nat) (w : World) (hl : l.length ≤ 8388608) (ht : T10 lo w) (hv : EvB lo w) (hlo : lo ≤ w.heap.size) : Calls Tryz.prog 80 #[.string (bArr l)] w (ValPost (pVal l) w) := by
  obtain ⟨W1, hW1⟩ : ∃ z, w.alloc (.cells #[.bool false, .int .i64 0] 38) = z := ⟨_, rfl⟩
  have B1 : Below w.heap.size w W1 := by rw [← hW1]; exact balloc (Below.refl _ _) _
  have r1 : Row W1 w.heap.size 38 [.bool false, .int .i64 0] := by rw [← hW1]; exact Row.new _ _ _
  have hlo1 : lo ≤ W1.heap.size := Nat.le_trans hlo B1.size
  have HV := Lib.hid (hv.on (B1.mono hlo))
  have HT := Lib.hid (ht.on (B1.mono hlo))
  have HW1 := Lib.hid hW1
  have HB1 := Lib.hid B1
  have HR1 := Lib.hid r1
  obtain ⟨S, hS⟩ : ∃ S, bArr l = S := ⟨_, rfl⟩
  have HS := Lib.hid hS
  by_cases hn : l = [110, 117, 108, 108]
  · have hp : pVal l = some (true, 0) := by unfold pVal; rw [if_pos hn]
    have hS2 : S = ⟨#[110, 117, 108, 108]⟩ := by rw [← hS, hn]; rfl
    rw [hp, hS, hS2]
    clear hp hS hS2 hn hW1 B1 r1 ht hv HS
    go_enter Tryz.func80, Tryz.ntmps80
    go_upto_region 1 with fail
    rw [HW1.out]
    go_wp2_with fail
    refine (null_ok W1).mono ?_
    rintro e w2 ⟨rfl, hb2⟩
    have hrow := HR1.out.on hb2
    have d0 := hrow.cell 0
    have d1 := hrow.cell 1
    have f0 := hrow.frozen 0
    have f1 := hrow.frozen 1
    have l0 := hrow.lt
    have HB2 := Lib.hid (bch HB1.out hb2)
    clear hb2 hrow
    go_wp2
    refine bodyPost_ret (v := .tuple #[.agg #[.bool true, .int .i64 0], .bool true]) (by simp [results, Tryz.results80, go_sem, d0, d1]) rfl ⟨?_, rfl⟩
    exact (HB2.out.setCell (p := ⟨w.heap.size, 0, none⟩) (Nat.le_refl _) _).setCell (p := ⟨w.heap.size, 1, none⟩) (Nat.le_refl _) _
  · have hne : (S.toList == [110, 117, 108, 108]) = false := by
      rw [← hS, bArr_list, beq_eq_false_iff_ne]
      exact hn
    have hp : pVal l = match Lib.atoiAll l with
      | .ok n => if vValid (false, n) = true ∧ Lib.itoa n = l then some (false, n) else none
      | _ => none := by unfold pVal; rw [if_neg hn]; rfl
    have finish : ∀ (wz : World), Below w.heap.size w wz → Row wz w.heap.size 38 [.bool false, .int .i64 0] → Below w.heap.size w ((wz.setCell ⟨w.heap.size, 0, none⟩ (.bool false)).setCell ⟨w.heap.size, 1, none⟩ (.int .i64 0)) := fun wz hz _ =>
      (hz.setCell (p := ⟨w.heap.size, 0, none⟩) (Nat.le_refl _) _).setCell (p := ⟨w.heap.size, 1, none⟩) (Nat.le_refl _) _
    have HF := Lib.hid finish
    have hint : (∃ n, Lib.atoiAll l = .ok n) ∨ ∀ n, Lib.atoiAll l ≠ .ok n := by
      by_cases h : ∃ n, Lib.atoiAll l = .ok n
      · exact .inl h
      · exact .inr fun n hn => h ⟨n, hn⟩
    rcases hint with ⟨n, ha⟩ | ha
    · have HA := Lib.hid (atoi_yes ha hl W1)
      rw [hS] at HA
      rw [ha] at hp
      dsimp only at hp
      obtain ⟨R, hR⟩ : ∃ R : List UInt8, (if vValid (false, n) = true then valText (false, n) else []) = R := ⟨_, rfl⟩
      have HE0 := fun (z : World) (hz : Below W1.heap.size W1 z) => encodeAny_ok (false, n) lo z (HT.out.on (hz.mono hlo1)) (Nat.le_trans hlo1 hz.size)
      rw [hR] at HE0
      have hiff : R = l ↔ (vValid (false, n) = true ∧ Lib.itoa n = l) := by
        rw [← hR]
        by_cases hv : vValid (false, n) = true
        · rw [if_pos hv]
          show Lib.itoa n = l ↔ _
          simp [hv]
        · rw [if_neg hv]
          refine ⟨fun e => ?_, fun e => absurd e.1 hv⟩
          rw [← e] at ha
          cases ha
      by_cases hRl : R = l
      · rw [if_pos (hiff.1 hRl)] at hp
        rw [hRl, hS] at HE0
        have HE := Lib.hid HE0
        rw [hp, hS]
        clear HE0 hiff hR hRl hp hn hS hW1 B1 r1 ht hv ha finish
        go_enter Tryz.func80, Tryz.ntmps80
        go_upto_region 1 with fail
        rw [HW1.out]
        go_wp2_with fail
        refine HA.out.mono ?_
        rintro e w2 ⟨rfl, hb2⟩
        have HB2 := Lib.hid hb2
        clear hb2
        go_wp2_with fail
        refine (number_ok n w2).mono ?_
        rintro e w3 ⟨rfl, hb3⟩
        have HB3 := Lib.hid (bch HB2.out hb3)
        clear hb3
        go_wp2_with fail
        refine (HE.out w3 HB3.out).mono ?_
        rintro e w4 ⟨rfl, hb4⟩
        have HB4 := Lib.hid (bch HB3.out hb4)
        clear hb4
        go_wp2_with fail
        refine (number_ok n w4).mono ?_
        rintro e w5 ⟨rfl, hb5⟩
        have hrow := HR1.out.on (bch HB4.out hb5)
        have d0 := hrow.cell 0
        have d1 := hrow.cell 1
        have f0 := hrow.frozen 0
        have f1 := hrow.frozen 1
        have l0 := hrow.lt
        have HB5 := Lib.hid (bch HB1.out (bch HB4.out hb5))
        clear hb5 hrow
        go_wp2
        refine bodyPost_ret (v := .tuple #[.agg #[.bool false, .int .i64 n], .bool true]) (by simp [results, Tryz.results80, go_sem, d0, d1]) rfl ⟨?_, rfl⟩
        exact (HB5.out.setCell (p := ⟨w.heap.size, 0, none⟩) (Nat.le_refl _) _).setCell (p := ⟨w.heap.size, 1, none⟩) (Nat.le_refl _) _
      · rw [if_neg fun h => hRl (hiff.2 h)] at hp
        obtain ⟨Q, hQ⟩ : ∃ S, bArr R = S := ⟨_, rfl⟩
        have hqs : (Q.toList == S.toList) = false := by
          rw [← hQ, ← hS, bArr_list, bArr_list, beq_eq_false_iff_ne]
          exact hRl
        rw [hQ] at HE0
        have HE := Lib.hid HE0
        rw [hp, hS]
        clear HE0 hiff hR hRl hp hn hS hW1 B1 r1 ht hv ha finish hQ
        go_enter Tryz.func80, Tryz.ntmps80
        go_upto_region 1 with fail
        rw [HW1.out]
        go_wp2_with fail
        refine HA.out.mono ?_
        rintro e w2 ⟨rfl, hb2⟩
        have HB2 := Lib.hid hb2
        clear hb2
        go_wp2_with fail
        refine (number_ok n w2).mono ?_
        rintro e w3 ⟨rfl, hb3⟩
        have HB3 := Lib.hid (bch HB2.out hb3)
        clear hb3
        go_wp2_with fail
        refine (HE.out w3 HB3.out).mono ?_
        rintro e w4 ⟨rfl, hb4⟩
        have hrow := HR1.out.on (bch HB3.out hb4)
        have d0 := hrow.cell 0
        have d1 := hrow.cell 1
        have f0 := hrow.frozen 0
        have f1 := hrow.frozen 1
        have l0 := hrow.lt
        have HB5 := Lib.hid (bch HB1.out (bch HB3.out hb4))
        have Hrow := Lib.hid hrow
        clear hb4 hrow
        go_wp2
        refine bodyPost_ret (v := .tuple #[.agg #[.bool false, .int .i64 0], .bool false]) (by simp [results, Tryz.results80, go_sem, d0, d1]) rfl ⟨HF.out _ HB5.out Hrow.out, rfl⟩
    · have hp2 : pVal l = none := by
        rw [hp]
        split
        · rename_i n he
          exact absurd he (ha n)
        · rfl
      have HA := Lib.hid (atoi_no ha hl lo W1 HV.out)
      rw [hS] at HA
      rw [hp2, hS]
      clear hp hp2 hn hS hW1 B1 r1 ht hv ha finish
      go_enter Tryz.func80, Tryz.ntmps80
      go_upto_region 1 with fail
      rw [HW1.out]
      go_wp2_with fail
      refine HA.out.mono ?_
      rintro e w2 ⟨⟨m, te, pe, rfl⟩, hb2⟩
      have hrow := HR1.out.on hb2
      have d0 := hrow.cell 0
      have d1 := hrow.cell 1
      have f0 := hrow.frozen 0
      have f1 := hrow.frozen 1
      have l0 := hrow.lt
      have HB5 := Lib.hid (bch HB1.out hb2)
      have Hrow := Lib.hid hrow
      clear hb2 hrow
      go_wp2
      refine bodyPost_ret (v := .tuple #[.agg #[.bool false, .int .i64 0], .bool false]) (by simp [results, Tryz.results80, go_sem, d0, d1]) rfl ⟨HF.out _ HB5.out Hrow.out, rfl⟩
end Go.Proofs.YtmhlpjfijpomkaaGreatDoor
