/-
  Contract: the program's appendText of an expression; EncodeExpr.
-/
import Derived.Test.YtmhlpjfijpomkaaGreatDoorProg
import Derived.Test.YtmhlpjfijpomkaaGreatDoorZqEnI
import Derived.Test.YtmhlpjfijpomkaaGreatDoorZqDcD
namespace Go.Proofs.YtmhlpjfijpomkaaGreatDoor
open Go.RowKit Go.Qo
set_option linter.unusedVariables false
set_option linter.unusedSimpArgs false

def ApE (x : Ex) : Prop := ∀ (f : FE) (b o lo d : Nat) (v : Value) (l : List UInt8) (w : World), b < lo → lo ≤ w.heap.size → FeAt w b o f → ExIn w lo f x → d ≤ 8 → ExOk 6 d x → T10 lo w → l.length + (exText x).length ≤ 8388608 → Bt lo 5 w v l →
  Calls Tryz.prog 49 #[.pointer (some ⟨b, o, none⟩), v] w fun e w' => ∃ v', e = .returned v' ∧ Bt lo 5 w' v' (l ++ exText x) ∧ Below lo w w'
theorem ExsIn.below {w w' : World} {B : Nat} {A : Option Addr} {es : List Ex} (h : ExsIn w B A es) (hb : Below B w w') : ExsIn w' B A es := by
  obtain ⟨fs, h1, h2, h3⟩ := h
  exact ⟨fs, h1, h2.below hb, fun i g x hg hx => (h3 i g x hg hx).below hb⟩

set_option maxRecDepth 20000 in
set_option maxHeartbeats 4000000 in
theorem appendText_ok : ∀ x : Ex, ApE x := Ex.ind fun x ih f b o lo d v l w hbl hlo hat h hd8 hx ht hlen how => by
  obtain ⟨a1, a2, a3, a4, a5, a6⟩ := h.flat
  obtain ⟨k1, k2, k3, k4⟩ := exOk_iff.1 hx
  have htx := exText_eq x
  obtain ⟨c0, c1, c2, c3, c4⟩ := hat
  rw [a1] at c0
  rw [a2] at c1
  rw [a3] at c2 c3
  rw [a4] at c4
  have HK := Lib.hid h.kids_in
  have HI := Lib.hid ih
  have HO := Lib.hid how
  have HT := Lib.hid ht
  have Hl := Lib.hid hlen
  have Hx := Lib.hid (And.intro k2 k3)
  have hxm : x.kids.length ≤ maxLen := by omega
  unfold maxLen at hxm
  unfold LocOk at k4
  clear h ih how ht a1 a2 a3 a4 a5 a6 k2 k3
  by_cases q1 : x.kind = 1
  · rw [if_pos q1] at k4 htx
    have HF := Lib.hid (appendColumn_ok lo v l x.col w HO.out hlo HT.out (by omega) (by omega) (by omega))
    rw [htx]
    rw [q1] at c0
    clear htx hlen k1 k4 q1 hx
    go_enter Tryz.func49, Tryz.ntmps49
    go_wp2_with fail
    refine HF.out.mono ?_
    rintro e w2 ⟨v2, rfl, ho2, hb2⟩
    have H2 := Lib.hid (And.intro ho2 hb2)
    clear ho2 hb2
    go_wp2
    go_ret
    exact ⟨_, rfl, H2.out⟩
  · rw [if_neg q1] at k4 htx
    have q1' : (x.kind == 1) = false := by simpa using q1
    by_cases q2 : x.kind = 2
    · rw [if_pos q2] at k4 htx
      have hF := encodeValue_ok x.val lo w k4.2 HT.out hlo
      rw [← htx] at hF
      obtain ⟨R, hR⟩ : ∃ S, bArr (exText x) = S := ⟨_, rfl⟩
      rw [hR] at hF
      have HF := Lib.hid hF
      have HR := Lib.hid hR
      rw [q2] at c0
      clear hR hF htx k1 k4 q1 q1' q2 hx hlen
      go_enter Tryz.func49, Tryz.ntmps49
      go_wp2_with fail
      refine HF.out.mono ?_
      rintro e w2 ⟨rfl, hb2⟩
      have HO2 := Lib.hid (HO.out.on hb2)
      have HB2 := Lib.hid (hb2.mono hlo)
      have hz2 : lo ≤ w2.heap.size := Nat.le_trans hlo hb2.size
      clear hb2
      go_wp2_with (at_builtin; refine wpList_btS rfl (.tmp 20) (.tmp 25) 35 9 rfl lo 5 Tryz.underlying35 Tryz.underlying9 zeroU8T _ l rfl HO2.out R (exText x) rfl HR.out (by have := Hl.out; omega) hz2 ?_; intro v3 w3 ho3 hb3; have H3 := Lib.hid (And.intro ho3 (HB2.out.trans hb3)); clear ho3 hb3)
      go_ret
      exact ⟨_, rfl, H3.out⟩
    · rw [if_neg q2] at htx
      have q2' : (x.kind == 2) = false := by simpa using q2
      have hkr : 3 ≤ x.kind ∧ x.kind ≤ 11 := by
        unfold kidsK at k1
        rw [if_neg (by omega)] at k1
        split at k1
        · omega
        · split at k1 <;> omega
      have hol := opText_len x.kind
      obtain ⟨So, hSo⟩ : ∃ S, bArr (opText x.kind) = S := ⟨_, rfl⟩
      have HSo := Lib.hid hSo
      have hll : l.length + (opText x.kind).length + (exsText x.kids).length + 2 ≤ 8388608 := by
        have := congrArg List.length htx
        simp at this
        omega
      have HO1 := Lib.hid (HO.out.on (balloc (Below.refl _ _) (.cells #[.int .u8 40] 5)))
      have HS1 := Lib.hid (ub_row (w := w) (e := 5) 40)
      have HB1 := Lib.hid (show Below lo w (w.alloc (.cells #[.int .u8 40] 5)) from ((Below.refl lo w).alloc hlo _))
      have hz1 : lo ≤ (w.alloc (.cells #[.int .u8 40] 5)).heap.size := by simp; omega
      have HN := Lib.hid (fun z => exprName_ok x.kind z hkr.1 hkr.2)
      rw [hSo] at HN
      have Htx := Lib.hid htx
      have Hll := Lib.hid hll
      clear hSo htx hol k1 k4 q1 q2 hx hlen hkr hll
      go_enter Tryz.func49, Tryz.ntmps49
      go_wp2_with (at_builtin; refine wpList_btL rfl (.tmp 27) (.tmp 28) 35 rfl lo 5 Tryz.underlying35 zeroU8T _ l rfl HO1.out (some ⟨w.heap.size, 0, none⟩) 1 1 [40] rfl rfl HS1.out (by have := Hll.out; simp; omega) hz1 ?_; intro v2 w2 ho2 hb2; have HO2 := Lib.hid ho2; have HB2 := Lib.hid (HB1.out.trans hb2); have d0 := (HB2.out.cell (p := ⟨_, _, none⟩) hbl).trans c0; clear ho2 hb2)
      have hz2 : lo ≤ w2.heap.size := Nat.le_trans hlo HB2.out.size
      clear c0
      refine (HN.out w2).mono ?_
      rintro e w3 ⟨rfl, hb3⟩
      have HO3 := Lib.hid (HO2.out.on hb3)
      have HB3 := Lib.hid (HB2.out.trans (hb3.mono hz2))
      have hz3 : lo ≤ w3.heap.size := Nat.le_trans hz2 hb3.size
      clear hb3
      go_wp2_with (at_builtin; refine wpList_btS rfl (.tmp 30) (.tmp 35) 35 9 rfl lo 5 Tryz.underlying35 Tryz.underlying9 zeroU8T _ (l ++ [40]) rfl HO3.out So (opText x.kind) rfl HSo.out (by have := Hll.out; simp; omega) hz3 ?_; intro v4 w4 ho4 hb4; have HO4 := Lib.hid ho4; have HB4 := Lib.hid (HB3.out.trans hb4); have d4 := (HB4.out.cell (p := ⟨_, _, none⟩) hbl).trans c4; clear ho4 hb4)
      have d4' := Lib.hid c4
      go_loopg [1, 42] x.kids.length (fun g ov iv wr => ∃ i : Nat, i ≤ x.kids.length ∧ g = x.kids.length - i ∧ iv = .int .i64 i ∧ Bt lo 5 wr ov (l ++ 40 :: (opText x.kind ++ exsText (x.kids.take i))) ∧ Below lo w wr)
      case atStart => exact ⟨0, by omega, by omega, rfl, by have := HO4.out; simpa [exsText] using this, HB4.out⟩
      case round =>
        obtain ⟨i, hi, rfl, rfl, ho, hb⟩ := hrel
        have HOr := Lib.hid ho
        have HB := Lib.hid hb
        have hzr : lo ≤ wr.heap.size := Nat.le_trans hlo hb.size
        have htl : (exsText (x.kids.take i)).length ≤ (exsText x.kids).length := by
          have e : exsText x.kids = exsText (x.kids.take i) ++ exsText (x.kids.drop i) := by rw [← exsText_append, List.take_append_drop]
          rw [e]
          simp
        clear ho hb
        by_cases hlt : i < x.kids.length
        · obtain ⟨b1, o1, g, hA, hB1, hat1, hg⟩ := (ExsIn.below HK.out HB.out).at_ hlt
          have hil : (i : Int) < (x.kids.length : Int) := by omega
          have hmem := List.getElem_mem hlt
          have hd0 : 0 < d := by have := Hx.out.1 (by omega); omega
          have hkid : ExOk 6 ((d - 1 : Nat) : Int) x.kids[i] := by have := Hx.out.2 _ hmem; rwa [show ((d : Int) - 1) = ((d - 1 : Nat) : Int) by omega] at this
          have hl1 : (exsText (x.kids.take i)).length + 1 + (exText x.kids[i]).length ≤ (exsText x.kids).length := by
            have e : exsText x.kids = exsText (x.kids.take (i + 1)) ++ exsText (x.kids.drop (i + 1)) := by rw [← exsText_append, List.take_append_drop]
            rw [List.take_succ_eq_append_getElem hlt, exsText_snoc] at e
            rw [e]
            simp
            omega
          have c4 : wr.cell? ⟨b, o + 4, none⟩ = some (.slice (some ⟨b1, o1, none⟩) x.kids.length f.sv.c) := by rw [← hA]; exact (HB.out.cell (p := ⟨_, _, none⟩) hbl).trans d4'.out
          have HX := Lib.hid (fun (z : World) (v' : Value) (hz : Below lo wr z) (hv : Bt lo 5 z v' (l ++ 40 :: (opText x.kind ++ exsText (x.kids.take i)) ++ [32])) => HI.out _ hmem g b1 (o1 + i * 5) lo (d - 1) v' _ z hB1 (Nat.le_trans hzr hz.size) (by
            obtain ⟨e0, e1, e2, e3, e4⟩ := hat1
            exact ⟨(hz.cell (p := ⟨_, _, none⟩) hB1).trans e0, (hz.cell (p := ⟨_, _, none⟩) hB1).trans e1, (hz.cell (p := ⟨_, _, none⟩) hB1).trans e2, (hz.cell (p := ⟨_, _, none⟩) hB1).trans e3, (hz.cell (p := ⟨_, _, none⟩) hB1).trans e4⟩) (hg.below hz) (by omega) hkid (HT.out.on (HB.out.trans hz)) (by have := Hll.out; simp; omega) hv)
          obtain ⟨u, hu⟩ : ∃ u, wr.drew = u := ⟨_, rfl⟩
          have Bu : Hid (Below wr.heap.size wr u) := Lib.hid (hu ▸ (Below.refl _ _).drew)
          have Hu := Lib.hid hu
          have Hl1 := Lib.hid hl1
          clear hu hkid hat1 hg hA htl hl1 hmem
          go_wp2
          refine wp_region_held_drew (S := fun z => z.cell? ⟨b, o + 4, none⟩ = some (.slice (some ⟨b1, o1, none⟩) x.kids.length f.sv.c)) (by kernel_rfl) ?_ (fun hHeld => ?_)
          · exact c4
          rw [Hu.out] at hHeld ⊢
          refine takeL (i := 0) (v := ?v0) rfl (by kernel_rfl) (by kernel_rfl) (by kernel_rfl) (fun _ _ _ h => h) (Or.inl ⟨by rfl, ?hy0⟩) (by assumption) ?_
          case hy0 => ((intro w' hSw; (try dsimp only at hSw); go_simp) <;> with_reducible rfl)
          try simp only [Act.put, List.setIfInBounds_toArray, List.set_cons_zero, List.set_cons_succ]
          refine takeL (i := 1) (v := ?v1) rfl (by kernel_rfl) (by kernel_rfl) (by kernel_rfl) (fun _ _ _ h => h) (Or.inl ⟨by rfl, ?hy1⟩) (by assumption) ?_
          case hy1 => ((intro w' hSw; (try dsimp only at hSw); go_simp) <;> with_reducible rfl)
          try simp only [Act.put, List.setIfInBounds_toArray, List.set_cons_zero, List.set_cons_succ]
          refine takeL (i := 2) (v := ?v2) rfl (by kernel_rfl) (by kernel_rfl) (by kernel_rfl) (fun _ _ _ h => h) (Or.inl ⟨by rfl, ?hy2⟩) (by assumption) ?_
          case hy2 => ((intro w' hSw; (try dsimp only at hSw); go_simp) <;> with_reducible rfl)
          try simp only [Act.put, List.setIfInBounds_toArray, List.set_cons_zero, List.set_cons_succ]
          refine takeL (i := 3) (v := ?v3) rfl (by kernel_rfl) (by kernel_rfl) (by kernel_rfl) (fun _ _ _ h => h) (Or.inl ⟨by rfl, ?hy3⟩) (by assumption) ?_
          case hy3 => ((intro w' hSw; (try dsimp only at hSw); go_simp) <;> with_reducible rfl)
          try simp only [Act.put, List.setIfInBounds_toArray, List.set_cons_zero, List.set_cons_succ]
          refine takeL (i := 4) (v := ?v4) rfl (by kernel_rfl) (by kernel_rfl) (by kernel_rfl) (fun _ _ _ h => h) (Or.inl ⟨by rfl, ?hy4⟩) (by assumption) ?_
          case hy4 => ((intro w' hSw; (try dsimp only at hSw); go_simp) <;> with_reducible rfl)
          try simp only [Act.put, List.setIfInBounds_toArray, List.set_cons_zero, List.set_cons_succ]
          refine takeL (i := 5) (v := ?v5) rfl (by kernel_rfl) (by kernel_rfl) (by kernel_rfl) (fun _ _ _ h => h) (Or.inl ⟨by rfl, ?hy5⟩) (by assumption) ?_
          case hy5 => ((intro w' hSw; (try dsimp only at hSw); go_simp) <;> with_reducible rfl)
          try simp only [Act.put, List.setIfInBounds_toArray, List.set_cons_zero, List.set_cons_succ]
          refine takeL (i := 6) (v := ?v6) rfl (by kernel_rfl) (by kernel_rfl) (by kernel_rfl) (fun _ _ _ h => h) (Or.inl ⟨by rfl, ?hy6⟩) (by assumption) ?_
          case hy6 => ((intro w' hSw; (try dsimp only at hSw); go_simp) <;> with_reducible rfl)
          try simp only [Act.put, List.setIfInBounds_toArray, List.set_cons_zero, List.set_cons_succ]
          refine wpAnyH_ready (rs := [7]) (by kernel_rfl) (by simp) ?_
          refine readyL rfl (fun K hK => ?_) AllReadyH.nil
          obtain ⟨x1, hx1⟩ : ∃ z, u.alloc (.cells #[.int .u8 32] 5) = z := ⟨_, rfl⟩
          have bx1 : Below u.heap.size u x1 := by rw [← hx1]; exact balloc (Below.refl _ _) _
          have S1 := Lib.hid (show Sl 1 ubC x1 x1.heap.size (some ⟨u.heap.size, 0, none⟩) [32] by rw [← hx1]; exact ub_row 32)
          have B1 := Lib.hid ((Bu.out.mono hzr).trans (bx1.mono (Nat.le_trans hzr Bu.out.size)))
          have O1 := Lib.hid ((HOr.out.on Bu.out).on bx1)
          clear bx1
          go_simp
          try rw [hx1]
          clear hx1
          refine hK.out _ _ ?hS20 (fun hHeld => ?_)
          case hS20 => exact (B1.out.cell (p := ⟨_, _, none⟩) hbl).trans c4
          clear hK K
          try simp only [Act.put, List.setIfInBounds_toArray, List.set_cons_zero, List.set_cons_succ]
          refine wpAnyH_ready (rs := [8]) (by kernel_rfl) (by simp) ?_
          refine readyL rfl (fun K hK => ?_) AllReadyH.nil
          refine step_btL rfl (.tmp 51) (.tmp 52) 35 rfl lo 5 Tryz.underlying35 zeroU8T _ _ rfl O1.out (some ⟨u.heap.size, 0, none⟩) 1 1 [32] rfl rfl S1.out (by have := Hll.out; have := Hl1.out; simp; omega) (Nat.le_trans hzr B1.out.size) ?_
          intro v6 x2 ho2 hb2
          have B2 := Lib.hid (B1.out.trans hb2)
          have O2 := Lib.hid ho2
          clear ho2 hb2
          refine hK.out _ _ ?hS21 (fun hHeld => ?_)
          case hS21 => exact (B2.out.cell (p := ⟨_, _, none⟩) hbl).trans c4
          clear hK K
          try simp only [Act.put, List.setIfInBounds_toArray, List.set_cons_zero, List.set_cons_succ]
          refine wpAnyH_ready (rs := [9]) (by kernel_rfl) (by simp) ?_
          refine readyL rfl (fun K hK => ?_) AllReadyH.nil
          go_simp
          go_at_call 49
          refine (HX.out x2 v6 B2.out (by have := O2.out; simpa using this)).mono ?_
          rintro e x3 ⟨v7, rfl, ho3, hb3⟩
          have B3 := Lib.hid (B2.out.trans hb3)
          have O3 := Lib.hid ho3
          clear ho3 hb3
          refine hK.out _ _ ?hS22 (fun hHeld => ?_)
          case hS22 => exact (B3.out.cell (p := ⟨_, _, none⟩) hbl).trans c4
          clear hK K
          try simp only [Act.put, List.setIfInBounds_toArray, List.set_cons_zero, List.set_cons_succ]
          refine takeL (i := 10) (v := ?v10) rfl (by kernel_rfl) (by kernel_rfl) (by kernel_rfl) (fun _ _ _ h => h) (Or.inl ⟨by rfl, ?hy10⟩) (by assumption) ?_
          case hy10 => ((intro w' hSw; (try dsimp only at hSw); go_simp) <;> with_reducible rfl)
          try simp only [Act.put, List.setIfInBounds_toArray, List.set_cons_zero, List.set_cons_succ]
          refine wpAnyH_done (by kernel_rfl) ?_ _
          go_wp2
          go_roundg (x.kids.length - (i + 1))
          case measure => omega
          case rel =>
            refine ⟨i + 1, by omega, rfl, by go_num, ?_, HB.out.trans B3.out⟩
            have := O3.out
            rw [List.take_succ_eq_append_getElem hlt, exsText_snoc]
            simpa using this
        · have hfin : x.kids.take i = x.kids := List.take_of_length_le (by omega)
          have HO5 := Lib.hid (HOr.out.on (balloc (Below.refl _ _) (.cells #[.int .u8 41] 5)))
          have HS5 := Lib.hid (ub_row (w := wr) (e := 5) 41)
          have HB5 := Lib.hid (show Below lo w (wr.alloc (.cells #[.int .u8 41] 5)) from HB.out.alloc hzr _)
          have hz5 : lo ≤ (wr.alloc (.cells #[.int .u8 41] 5)).heap.size := by simp; omega
          have Hfin := Lib.hid hfin
          clear hfin
          go_wp2_with (at_builtin; refine wpList_btL rfl (.tmp 56) (.tmp 57) 35 rfl lo 5 Tryz.underlying35 zeroU8T _ (l ++ 40 :: (opText x.kind ++ exsText (x.kids.take i))) rfl HO5.out (some ⟨wr.heap.size, 0, none⟩) 1 1 [41] rfl rfl HS5.out (by have := Hll.out; simp; omega) hz5 ?_; intro v6 w6 ho6 hb6; have H6 := Lib.hid (And.intro ho6 (HB5.out.trans hb6)); clear ho6 hb6)
          go_ret
          refine ⟨_, rfl, ?_, H6.out.2⟩
          have := H6.out.1
          rw [Hfin.out] at this
          rw [Htx.out]
          simpa using this

end Go.Proofs.YtmhlpjfijpomkaaGreatDoor
