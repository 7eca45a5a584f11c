/-
  Contracts: the reference's text of an expression (formatExpr, EncodeExpr).
-/
import Derived.Test.YtmhlpjfijpomkaaGreatDoorProg
import Derived.Test.YtmhlpjfijpomkaaGreatDoorZqEnT

import Derived.Test.YtmhlpjfijpomkaaGreatDoorZqRgG
namespace Go.Proofs.YtmhlpjfijpomkaaGreatDoor
open Go.RowKit Go.Qo
set_option linter.unusedVariables false
set_option linter.unusedSimpArgs false

/-- Adding two texts, told for a walk. -/
theorem sAdd {x y z : List UInt8} {A B C : ByteArray} (hA : bArr x = A) (hB : bArr y = B) (hC : bArr z = C) (hz : z = x ++ y) (hx : x.length ≤ 8388608) (hy : y.length ≤ 8388608) :
    (∀ w, (Op.stringOp .add A B).run Tryz.prog w = .ok (.string C) w) ∧ ∀ w, (binOp .add 9 (.string A) (.string B)).run Tryz.prog w = .ok (.string C) w := by
  subst hA hB hC hz
  have h1 := fun w => strAddOp x y hx hy w
  exact ⟨h1, fun w => by simp [go_sem, h1]⟩

def FmtS (x : Ex) : Prop := ∀ (f : FE) (d : Nat) (w : World), ExIn w w.heap.size f x → d ≤ 8 → ExOk 6 d x →
  Calls Tryz.prog 47 #[feV f] w fun e w' => e = .returned (.string (bArr (exText x))) ∧ Below w.heap.size w w'

theorem opTexts_at : ∀ k : Fin 12, (opTexts.map fun l => Value.string (bArr l))[k.val]? = some (.string (bArr (opTexts.getD k.val []))) := fun k => by
  rw [List.getElem?_map, List.getD_eq_getElem?_getD, List.getElem?_eq_getElem (show k.val < opTexts.length from k.isLt)]
  rfl

set_option maxRecDepth 20000 in
set_option maxHeartbeats 4000000 in
theorem formatExpr_ok : ∀ x : Ex, FmtS x := Ex.ind fun x ih f d w h hd8 hx => by
  obtain ⟨a1, a2, a3, a4, a5, a6⟩ := h.flat
  obtain ⟨k1, k2, k3, k4⟩ := exOk_iff.1 hx
  have hkl := hx.kids_le
  have hlen := exText_len (by decide) d x hx
  have h2d : 2 ^ (d + 4) ≤ 4096 := Nat.pow_le_pow_right (by omega) (show d + 4 ≤ 12 by omega)
  have htx := exText_eq x
  obtain ⟨W1, hW1⟩ : ∃ z, w.alloc (.cells #[.int .i64 x.kind, .int .i64 x.col, .bool x.val.1, .int .i64 x.val.2, .slice f.sv.A x.kids.length f.sv.c] 40) = z := ⟨_, rfl⟩
  have B1 : Below w.heap.size w W1 := by rw [← hW1]; exact balloc (Below.refl _ _) _
  have r1 : Row W1 w.heap.size 40 [.int .i64 x.kind, .int .i64 x.col, .bool x.val.1, .int .i64 x.val.2, .slice f.sv.A x.kids.length f.sv.c] := by rw [← hW1]; exact Row.new _ _ _
  have hz1 : w.heap.size < W1.heap.size := r1.lt
  have HK := Lib.hid (h.kids_in.on B1)
  have HI := Lib.hid ih
  have HB1 := Lib.hid B1
  have HW1 := Lib.hid hW1
  have Hr1 := Lib.hid r1
  have Hx := Lib.hid (And.intro k2 k3)
  have hxm : x.kids.length ≤ maxLen := by omega
  unfold maxLen at hxm
  have c0 : W1.cell? ⟨w.heap.size, 0, none⟩ = some (.int .i64 x.kind) := r1.cell 0
  have c1 : W1.cell? ⟨w.heap.size, 1, none⟩ = some (.int .i64 x.col) := r1.cell 1
  have c2 : W1.cell? ⟨w.heap.size, 2, none⟩ = some (.bool x.val.1) := r1.cell 2
  have c3 : W1.cell? ⟨w.heap.size, 3, none⟩ = some (.int .i64 x.val.2) := r1.cell 3
  unfold feV LocOk at *
  rw [a1, a2, a3, a4]
  clear h ih a1 a2 a3 a4 a5 a6 B1 r1 hW1 k2 k3
  by_cases q1 : x.kind = 1
  · rw [if_pos q1] at k4 htx
    have hF := formatInt_ok x.col W1 (by omega) (by omega)
    have hl := itoa_len (n := x.col) (by omega) (by omega)
    obtain ⟨S, hS⟩ : ∃ S, bArr (Lib.itoa x.col) = S := ⟨_, rfl⟩
    obtain ⟨R, hR⟩ : ∃ S, bArr (exText x) = S := ⟨_, rfl⟩
    have hadd := sAdd (A := ⟨#[35]⟩) (x := [35]) rfl hS hR htx (by simp) (by omega)
    rw [hS] at hF
    rw [hR]
    have ha1 := hadd.1
    have ha2 := hadd.2
    have HF := Lib.hid hF
    rw [q1] at c0
    clear hS hR hadd hF hl htx hlen h2d k1 k4 q1 hx hkl
    go_enter Tryz.func47, Tryz.ntmps47
    go_upto_region 1 with fail
    rw [HW1.out]
    go_wp2_with fail
    refine HF.out.mono ?_
    rintro e w2 ⟨rfl, hb2⟩
    go_wp2
    go_ret
    exact ⟨rfl, bch HB1.out hb2⟩
  · rw [if_neg q1] at k4 htx
    have q1' : (x.kind == 1) = false := by simpa using q1
    by_cases q2 : x.kind = 2
    · rw [if_pos q2] at k4 htx
      have hF := formatValue_ok x.val W1 k4.2
      rw [← htx] at hF
      obtain ⟨R, hR⟩ : ∃ S, bArr (exText x) = S := ⟨_, rfl⟩
      rw [hR] at hF ⊢
      have HF := Lib.hid hF
      rw [q2] at c0
      clear hR hF htx hlen h2d k1 k4 q1 q1' q2 hx hkl
      go_enter Tryz.func47, Tryz.ntmps47
      go_upto_region 1 with fail
      rw [HW1.out]
      go_wp2_with fail
      refine HF.out.mono ?_
      rintro e w2 ⟨rfl, hb2⟩
      go_wp2
      go_ret
      exact ⟨rfl, bch HB1.out hb2⟩
    · rw [if_neg q2] at htx
      have q2' : (x.kind == 2) = false := by simpa using q2
      have hkr : 3 ≤ x.kind ∧ x.kind ≤ 11 := by
        unfold kidsK at k1
        rw [if_neg (by omega)] at k1
        split at k1
        · omega
        · split at k1 <;> omega
      obtain ⟨kn, hkn⟩ := Int.eq_ofNat_of_zero_le (show 0 ≤ x.kind by omega)
      have hop : opText x.kind = opTexts.getD kn [] := by unfold opText; rw [hkn]; rfl
      have hol := opText_len x.kind
      obtain ⟨So, hSo⟩ : ∃ S, bArr (opText x.kind) = S := ⟨_, rfl⟩
      obtain ⟨S0, hS0⟩ : ∃ S, bArr (40 :: opText x.kind) = S := ⟨_, rfl⟩
      obtain ⟨R, hR⟩ : ∃ S, bArr (exText x) = S := ⟨_, rfl⟩
      have hk12 : kn < 12 := by omega
      have hat := opTexts_at ⟨kn, hk12⟩
      rw [show opTexts.getD (⟨kn, hk12⟩ : Fin 12).val [] = opText x.kind from hop.symm, hSo] at hat
      have hadd := sAdd (A := ⟨#[40]⟩) (x := [40]) rfl hSo hS0 rfl (by simp) (by omega)
      have ha1 := hadd.1
      have ha2 := hadd.2
      have HS0 := Lib.hid hS0
      have HR := Lib.hid hR
      have Hl := Lib.hid (And.intro hlen h2d)
      have Htx := Lib.hid htx
      have HN := Lib.hid (fun z => exprNames_ok z)
      have Hat := Lib.hid hat
      have Hkr := Lib.hid hkr
      rw [hR]
      rw [hkn] at c0 q1' q2' HW1
      have hk12I : (kn : Int) < 12 := by omega
      clear hadd hSo hS0 hR hlen h2d htx hat hop hol k4 q1 q2 hx k1 hkr
      go_enter Tryz.func47, Tryz.ntmps47
      go_upto_region 1 with fail
      rw [HW1.out]
      go_upto_region 6 with fail
      obtain ⟨u, hu⟩ : ∃ u, W1.drew = u := ⟨_, rfl⟩
      have Bu : Hid (Below w.heap.size w u) := Lib.hid (hu ▸ HB1.out.drew)
      have Hru : Hid (u.cell? ⟨w.heap.size, 0, none⟩ = some (.int .i64 kn)) := Lib.hid (hu ▸ c0)
      have Hr1u : Hid (Below W1.heap.size W1 u) := Lib.hid (hu ▸ (Below.refl _ _).drew)
      have Hu := Lib.hid hu
      clear hu
      refine wp_region_held_drew (S := fun z => z.cell? ⟨w.heap.size, 0, none⟩ = some (.int .i64 kn)) (by kernel_rfl) ?_ (fun hHeld => ?_)
      · exact c0
      rw [Hu.out]
      refine takeL (i := 1) (v := ?v1) rfl (by kernel_rfl) (by kernel_rfl) (by kernel_rfl) (fun _ _ _ h => h) (Or.inl ⟨by rfl, ?hy1⟩) (by assumption) ?_
      case hy1 => ((intro w' hSw; (try dsimp only at hSw); go_simp) <;> with_reducible rfl)
      try simp only [Act.put, List.setIfInBounds_toArray, List.set_cons_zero, List.set_cons_succ]
      refine takeL (i := 2) (v := ?v2) rfl (by kernel_rfl) (by kernel_rfl) (by kernel_rfl) (fun _ _ _ h => h) (Or.inl ⟨by rfl, ?hy2⟩) (by assumption) ?_
      case hy2 => ((intro w' hSw; (try dsimp only at hSw); go_simp) <;> with_reducible rfl)
      try simp only [Act.put, List.setIfInBounds_toArray, List.set_cons_zero, List.set_cons_succ]
      refine wpAnyH_ready (rs := [0]) (by kernel_rfl) (by simp) ?_
      refine readyL rfl (fun K hK => ?_) AllReadyH.nil
      go_simp
      go_at_call 86
      refine (HN.out u).mono ?_
      rintro e u1 ⟨rfl, hb1, hrow1⟩
      have B2 : Hid (Below w.heap.size w u1) := Lib.hid (bch Bu.out hb1)
      have B2' : Hid (Below W1.heap.size W1 u1) := Lib.hid (bch Hr1u.out hb1)
      have Hc2 : Hid (u1.cell? ⟨w.heap.size, 0, none⟩ = some (.int .i64 kn)) := Lib.hid ((B2'.out.cell (p := ⟨_, _, none⟩) hz1).trans c0)
      have ck : u1.cell? ⟨u.heap.size, kn, none⟩ = some (.string So) := (hrow1.cell kn).trans Hat.out
      clear hb1 hrow1
      refine hK.out _ _ ?hS1 (fun hHeld => ?_)
      case hS1 => exact Hc2.out
      clear hK K
      try simp only [Act.put, List.setIfInBounds_toArray, List.set_cons_zero, List.set_cons_succ]
      refine takeL (i := 3) (v := ?v3) rfl (by kernel_rfl) (by kernel_rfl) (by kernel_rfl) (fun _ _ _ h => h) (Or.inl ⟨by rfl, ?hy3⟩) (by assumption) ?_
      case hy3 => ((intro w' hSw; (try dsimp only at hSw); go_simp) <;> with_reducible rfl)
      try simp only [Act.put, List.setIfInBounds_toArray, List.set_cons_zero, List.set_cons_succ]
      refine wpAnyH_ready (rs := [4]) (by kernel_rfl) (by simp) ?_
      refine readyL rfl (fun K hK => ?_) AllReadyH.nil
      go_simp
      refine hK.out _ _ ?hS2 (fun hHeld => ?_)
      case hS2 => exact Hc2.out
      clear hK K
      try simp only [Act.put, List.setIfInBounds_toArray, List.set_cons_zero, List.set_cons_succ]
      refine takeL (i := 5) (v := ?v5) rfl (by kernel_rfl) (by kernel_rfl) (by kernel_rfl) (fun _ _ _ h => h) (Or.inl ⟨by rfl, ?hy5⟩) (by assumption) ?_
      case hy5 => ((intro w' hSw; (try dsimp only at hSw); go_simp) <;> with_reducible rfl)
      try simp only [Act.put, List.setIfInBounds_toArray, List.set_cons_zero, List.set_cons_succ]
      refine takeL (i := 6) (v := ?v6) rfl (by kernel_rfl) (by kernel_rfl) (by kernel_rfl) (fun _ _ _ h => h) (Or.inl ⟨by rfl, ?hy6⟩) (by assumption) ?_
      case hy6 => ((intro w' hSw; (try dsimp only at hSw); go_simp) <;> with_reducible rfl)
      try simp only [Act.put, List.setIfInBounds_toArray, List.set_cons_zero, List.set_cons_succ]
      refine wpAnyH_done (by kernel_rfl) ?_ _
      have HK2 := Lib.hid (HK.out.on B2'.out)
      have Hrow2 := Lib.hid (Hr1.out.on B2'.out)
      clear c0 c1 c2 c3 ck ha1 ha2 hHeld HK Hr1 HN hz1
      go_wp2
      go_loopg [3, 4] x.kids.length (fun g ov iv wr => ∃ i : Nat, i ≤ x.kids.length ∧ g = x.kids.length - i ∧ iv = .int .i64 i ∧ ov = .string (bArr (40 :: (opText x.kind ++ exsText (x.kids.take i)))) ∧ Below u1.heap.size u1 wr)
      case atStart => exact ⟨0, by omega, by omega, rfl, by rw [← HS0.out]; simp [exsText], Below.refl _ _⟩
      case round =>
        obtain ⟨i, hi, rfl, rfl, rfl, hb⟩ := hrel
        have HB := Lib.hid hb
        have hrow := Hrow2.out.on hb
        have c3 : wr.cell? ⟨w.heap.size, 4, none⟩ = some (.slice f.sv.A x.kids.length f.sv.c) := hrow.cell 4
        have htl : (exsText (x.kids.take i)).length ≤ (exText x).length := by
          have e : exsText x.kids = exsText (x.kids.take i) ++ exsText (x.kids.drop i) := by rw [← exsText_append, List.take_append_drop]
          have := congrArg List.length Htx.out
          rw [e] at this
          simp at this
          omega
        have hlo := Hl.out
        have hol := opText_len x.kind
        clear hb hrow
        by_cases hlt : i < x.kids.length
        · obtain ⟨b1, o1, g, hA, hB1, ⟨d0, d1, d2, d3, d4⟩, hg⟩ := (HK2.out.on HB.out).at_ hlt
          have hil : (i : Int) < (x.kids.length : Int) := by omega
          have hmem := List.getElem_mem hlt
          have hd0 : 0 < d := by have := Hx.out.1 (by omega); omega
          have hkid : ExOk 6 ((d - 1 : Nat) : Int) x.kids[i] := by have := Hx.out.2 _ hmem; rwa [show ((d : Int) - 1) = ((d - 1 : Nat) : Int) by omega] at this
          have HX0 := HI.out _ hmem g (d - 1) wr hg (by omega) hkid
          have hkl1 := exText_len (by decide) _ _ hkid
          have hkl2 : 2 ^ (d - 1 + 4) ≤ 4096 := Nat.pow_le_pow_right (by omega) (show d - 1 + 4 ≤ 12 by omega)
          obtain ⟨Sa, hSa⟩ : ∃ S, bArr (40 :: (opText x.kind ++ exsText (x.kids.take i))) = S := ⟨_, rfl⟩
          obtain ⟨Sb, hSb⟩ : ∃ S, bArr (40 :: (opText x.kind ++ exsText (x.kids.take i)) ++ [32]) = S := ⟨_, rfl⟩
          obtain ⟨Sk, hSk⟩ : ∃ S, bArr (exText x.kids[i]) = S := ⟨_, rfl⟩
          obtain ⟨Sc, hSc⟩ : ∃ S, bArr (40 :: (opText x.kind ++ exsText (x.kids.take (i + 1)))) = S := ⟨_, rfl⟩
          have had1 := sAdd (B := ⟨#[32]⟩) (y := [32]) hSa rfl hSb rfl (by simp; omega) (by simp)
          have had2 := sAdd hSb hSk hSc (by rw [List.take_succ_eq_append_getElem hlt, exsText_snoc]; simp) (by simp; omega) (by omega)
          obtain ⟨ha1, ha2⟩ := had1
          obtain ⟨ha3, ha4⟩ := had2
          rw [hSk] at HX0
          unfold feV at HX0
          have HX := Lib.hid HX0
          have HSc := Lib.hid hSc
          rw [hA] at c3
          rw [hSa]
          clear hkid HX0 hkl1 hkl2 hSa hSb hSk hSc hg hA htl hlo hol hmem
          go_wp2_with fail
          refine HX.out.mono ?_
          rintro e w3 ⟨rfl, hb3⟩
          go_wp2
          go_roundg (x.kids.length - (i + 1))
          case measure => omega
          case rel => exact ⟨i + 1, by omega, rfl, by go_num, by rw [HSc.out], bch HB.out hb3⟩
        · have hfin : x.kids.take i = x.kids := List.take_of_length_le (by omega)
          rw [hfin] at htl ⊢
          obtain ⟨Sa, hSa⟩ : ∃ S, bArr (40 :: (opText x.kind ++ exsText x.kids)) = S := ⟨_, rfl⟩
          have had := sAdd (B := ⟨#[41]⟩) (y := [41]) hSa rfl HR.out (by rw [Htx.out]; simp) (by simp; omega) (by simp)
          obtain ⟨ha1, ha2⟩ := had
          rw [hSa]
          clear hSa htl hlo hol hfin
          go_wp2
          go_ret
          exact ⟨rfl, bch B2.out HB.out⟩

end Go.Proofs.YtmhlpjfijpomkaaGreatDoor
