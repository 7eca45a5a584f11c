/-
  Contracts: the bound for the number of rows of a plan (rowBound, bound). (Printed by wip/rb.py.)
-/
import Derived.Test.YtnecmacjlggkeaaProg
import Derived.Test.YtnecmacjlggkeaaPlS
import Derived.Test.YtnecmacjlggkeaaBdD
namespace Go.Proofs.Ytnecmacjlggkeaa
open Go.RowKit Go.Qo
set_option linter.unusedVariables false
set_option linter.unusedSimpArgs false

def RbI (p : Pl) : Prop := ∀ (f : FP) (b o : Nat) (ws cs : List Int) (A : Option Addr) (c d : Nat) (w : World) (R : Int), b < w.heap.size → FpAt w b o f → PlIn w w.heap.size f p → plW ws d p ≠ 0 → CsOk cs → cs.length = ws.length → cs.length ≤ maxLen → Sl 1 intC w w.heap.size A cs → bdW cs (d + 1) p = R →
  Calls Try.prog 32 #[.pointer (some ⟨b, o, none⟩), .slice A cs.length c] w fun e w' => e = .returned (.int .i64 R) ∧ Below w.heap.size w w'

set_option maxRecDepth 20000 in
set_option maxHeartbeats 4000000 in
theorem bound_ok : ∀ p : Pl, RbI p := Pl.ind fun p ih f b o ws cs A c d w R hbw hat h hv hcs hcl hcm hsl hr => by
  obtain ⟨a1, a2, ⟨a3, a3', a3''⟩, ⟨a4, a4', a4''⟩, ⟨a5, a5', a5''⟩, a6, a7⟩ := h.flat
  obtain ⟨b0, b1, b2, b3, b4⟩ := hat
  rw [a1] at b0
  rw [a2] at b1
  rw [a4] at b3
  rw [a5] at b4
  have B1 : Below w.heap.size w w := Below.refl _ _
  have BX := Lib.hid (fun (z : World) (hz : Below w.heap.size w z) => show z.cell? ⟨b, o, none⟩ = some (.int .i64 p.kind) ∧ z.cell? ⟨b, o + 1, none⟩ = some (.int .i64 p.table) ∧ z.cell? ⟨b, o + 3, none⟩ = some (.slice f.cs.A p.cols.length f.cs.c) ∧ z.cell? ⟨b, o + 4, none⟩ = some (.slice f.ks.A p.kids.length f.ks.c) from
    ⟨(hz.cell (p := ⟨_, _, none⟩) hbw).trans b0, (hz.cell (p := ⟨_, _, none⟩) hbw).trans b1, (hz.cell (p := ⟨_, _, none⟩) hbw).trans b3, (hz.cell (p := ⟨_, _, none⟩) hbw).trans b4⟩)
  have HK := Lib.hid (fun (z : World) (hz : Below w.heap.size w z) (i : Nat) (hi : i < p.kids.length) => (h.on hz).kid hi)
  have HS := Lib.hid (fun (z : World) (hz : Below w.heap.size w z) => hsl.on hz)
  have HB1 := Lib.hid B1
  have IH := Lib.hid ih
  have HV := Lib.hid hv
  have HC := Lib.hid (And.intro hcs (And.intro hcl hcm))
  have HR := Lib.hid hr
  have hof : OnlyF p := Classical.byContradiction fun hn => hv (plW_no hn)
  have Hof := Lib.hid hof
  have hkb : p.kids.length ≤ maxLen ∧ p.cols.length ≤ maxLen := by omega
  unfold maxLen at hkb hcm
  obtain ⟨hkb1, hkb2⟩ := hkb
  obtain ⟨c0, c1, c3, c4⟩ := BX.out _ (Below.refl _ _)
  have hk8 := hof.1
  clear h hv hcs hcl hcm hsl hr ih a1 a2 a3 a4 a5 a3' a3'' a4' a4'' a5' a5'' a6 a7 B1 hof b0 b1 b2 b3 b4
  by_cases hk1 : p.kind = 1
  · have hsc := plW_scan HV.out hk1
    obtain ⟨j, hj⟩ := Int.eq_ofNat_of_zero_le hsc.1
    have hjl : j < cs.length := by have := HC.out.2.1; omega
    have hjI : (j : Int) < (cs.length : Int) := by omega
    have Hz := Lib.hid (show R = cs[j] by
      rw [← HR.out, bdW, if_pos hk1, hj, Int.toNat_natCast, List.getD_eq_getElem?_getD, List.getElem?_eq_getElem hjl]
      rfl)
    obtain ⟨bs, os, hAs, hBs, cc⟩ := (HS.out _ HB1.out).at1 hjl
    subst hAs
    rw [hk1] at c0
    rw [hj] at c1
    have hcm := HC.out.2.2
    unfold maxLen at hcm
    clear hsc hj hk1
    go_enter Try.func32, Try.ntmps32
    go_wp2
    go_ret
    exact ⟨ret_int Hz.out.symm, HB1.out⟩
  · have hk1' : (p.kind == 1) = false := by simpa using hk1
    have hkp : 0 < p.kids.length := by
      have := Hof.out.2.1
      unfold nkids at this
      rw [if_neg hk1] at this
      split at this <;> omega
    obtain ⟨_, e, rfl, hv0⟩ := plW_kids HV.out (List.getElem_mem hkp)
    obtain ⟨n, hn⟩ : ∃ n, bdW cs (e + 1) p.kids[0] = n := ⟨_, rfl⟩
    have hnr : 0 ≤ n ∧ n ≤ 1000000000 := by rw [← hn]; exact bdW_range HC.out.1 _ _
    obtain ⟨q0, o0, g, hA0, hq0, hgat, hg⟩ := HK.out _ HB1.out 0 hkp
    have Hgat := Lib.hid hgat
    have hX0 := IH.out _ (List.getElem_mem hkp) g q0 _ ws cs A c e w n hq0 hgat hg hv0 HC.out.1 HC.out.2.1 HC.out.2.2 (HS.out _ HB1.out) hn
    have HX0 := Lib.hid hX0
    have hkw0 : kidW (bdW cs (e + 1)) p 0 = n := by unfold kidW; rw [List.getElem?_eq_getElem hkp]; exact hn
    have Hkw0 := Lib.hid hkw0
    have hAk := Lib.hid hA0
    obtain ⟨d0, d1, d2, d3, d4⟩ := hgat
    simp only [Nat.zero_mul, Nat.add_zero] at d0 d1 d2 d3 d4
    rw [hA0] at c4
    have hkpI : (0 : Int) < (p.kids.length : Int) := by omega
    have HT := Lib.hid (show ∀ m, kidW (bdW cs (e + 1)) p 1 = m → min (topB p.kind n m p.cols.length) 1000000000 = R from fun m hm => by
      rw [← HR.out, bdW, if_neg hk1, hkw0, hm])
    have Hk1 := Lib.hid hk1
    clear hv0 hn hg hX0 hkw0 hA0 hk1
    have hk7 : p.kind = 4 ∨ p.kind = 5 ∨ p.kind = 6 ∨ (p.kind = 8 ∧ p.cols.length = 0) ∨ (p.kind = 8 ∧ ¬ p.cols.length = 0) ∨ (¬ p.kind = 4 ∧ ¬ p.kind = 5 ∧ ¬ p.kind = 6 ∧ ¬ p.kind = 8) := by omega
    rcases hk7 with hk | hk | hk | ⟨hk, hc⟩ | ⟨hk, hc⟩ | ⟨n4, n5, n6, n8⟩
    · have hk2 : 1 < p.kids.length := by have := Hof.out.2.1; rw [hk] at this; simp [nkids] at this; omega
      have hk2I : (1 : Int) < (p.kids.length : Int) := by omega
      obtain ⟨_, e2, he2, hv1⟩ := plW_kids HV.out (List.getElem_mem hk2)
      obtain rfl : e2 = e := by omega
      obtain ⟨m, hm⟩ : ∃ m, bdW cs (e2 + 1) p.kids[1] = m := ⟨_, rfl⟩
      have hmr : 0 ≤ m ∧ m ≤ 1000000000 := by rw [← hm]; exact bdW_range HC.out.1 _ _
      have hR := HT.out m (by unfold kidW; rw [List.getElem?_eq_getElem hk2]; exact hm)
      have hT : min (n * m) 1000000000 = R := by rw [← hR, hk]; rfl
      have hrg : 0 ≤ n * m ∧ n * m ≤ 1000000000000000000 := by have := topB_range (k := 4) (c := p.cols.length) hnr hmr; exact this
      have HR2 := Lib.hid hT
      have Hm := Lib.hid (And.intro hm hv1)
      rw [hk] at c0
      have Hk := Lib.hid hk
      clear he2 hv1 hm hR hT hk
      go_enter Try.func32, Try.ntmps32
      go_wp2_with fail
      refine HX0.out.mono ?_
      rintro e' w2 ⟨rfl, hb2⟩
      have HB2 := Lib.hid hb2
      obtain ⟨e0, e1, e3, e4⟩ := BX.out w2 hb2
      rw [hAk.out] at e4
      rw [Hk.out] at e0
      obtain ⟨q1, o1, g1, hA1, hq1, ⟨k0, k1, k2, k3, k4⟩, hg1⟩ := HK.out w2 (bch HB1.out HB2.out) 1 hk2
      rw [hAk.out] at hA1
      cases hA1
      have HX1 := Lib.hid (IH.out _ (List.getElem_mem hk2) g1 q0 _ ws cs A c e2 w2 m hq1 ⟨k0, k1, k2, k3, k4⟩ hg1 Hm.out.2 HC.out.1 HC.out.2.1 HC.out.2.2 (HS.out w2 (bch HB1.out HB2.out)) Hm.out.1)
      have hzz := hq1
      have hkeep := HB2.out.size
      clear hb2 hg1
      simp only [Nat.one_mul] at k0 k1 k2 k3 k4
      go_wp2_with fail
      refine HX1.out.mono ?_
      rintro e' w3 ⟨rfl, hb3⟩
      have HB3 := Lib.hid (bch HB2.out hb3)
      have hww : IntKind.i64.wrap (n * m) = n * m := IntWalk.i64_in _ (by omega)
      go_wp2
      all_goals go_ret
      all_goals exact ⟨ret_int (by rw [← HR2.out]; try omega), bch HB1.out HB3.out⟩
    · have hk2 : 1 < p.kids.length := by have := Hof.out.2.1; rw [hk] at this; simp [nkids] at this; omega
      have hk2I : (1 : Int) < (p.kids.length : Int) := by omega
      obtain ⟨_, e2, he2, hv1⟩ := plW_kids HV.out (List.getElem_mem hk2)
      obtain rfl : e2 = e := by omega
      obtain ⟨m, hm⟩ : ∃ m, bdW cs (e2 + 1) p.kids[1] = m := ⟨_, rfl⟩
      have hmr : 0 ≤ m ∧ m ≤ 1000000000 := by rw [← hm]; exact bdW_range HC.out.1 _ _
      by_cases hm1 : 1 < m
      · have hR := HT.out m (by unfold kidW; rw [List.getElem?_eq_getElem hk2]; exact hm)
        have hT : min (n * m) 1000000000 = R := by rw [← hR, hk]; show min (n * m) _ = min (n * max 1 m) _; rw [show max 1 m = m by omega]
        have hrg : 0 ≤ n * m ∧ n * m ≤ 1000000000000000000 := by have := topB_range (k := 4) (c := p.cols.length) hnr hmr; exact this
        have HR2 := Lib.hid hT
        have Hm := Lib.hid (And.intro hm hv1)
        rw [hk] at c0
        have Hk := Lib.hid hk
        clear he2 hv1 hm hR hT hk
        go_enter Try.func32, Try.ntmps32
        go_wp2_with fail
        refine HX0.out.mono ?_
        rintro e' w2 ⟨rfl, hb2⟩
        have HB2 := Lib.hid hb2
        obtain ⟨e0, e1, e3, e4⟩ := BX.out w2 hb2
        rw [hAk.out] at e4
        rw [Hk.out] at e0
        obtain ⟨q1, o1, g1, hA1, hq1, ⟨k0, k1, k2, k3, k4⟩, hg1⟩ := HK.out w2 (bch HB1.out HB2.out) 1 hk2
        rw [hAk.out] at hA1
        cases hA1
        have HX1 := Lib.hid (IH.out _ (List.getElem_mem hk2) g1 q0 _ ws cs A c e2 w2 m hq1 ⟨k0, k1, k2, k3, k4⟩ hg1 Hm.out.2 HC.out.1 HC.out.2.1 HC.out.2.2 (HS.out w2 (bch HB1.out HB2.out)) Hm.out.1)
        have hzz := hq1
        have hkeep := HB2.out.size
        clear hb2 hg1
        simp only [Nat.one_mul] at k0 k1 k2 k3 k4
        go_wp2_with fail
        refine HX1.out.mono ?_
        rintro e' w3 ⟨rfl, hb3⟩
        have HB3 := Lib.hid (bch HB2.out hb3)
        have hww : IntKind.i64.wrap (n * m) = n * m := IntWalk.i64_in _ (by omega)
        go_wp2
        all_goals go_ret
        all_goals exact ⟨ret_int (by rw [← HR2.out]; try omega), bch HB1.out HB3.out⟩
      · have hR := HT.out m (by unfold kidW; rw [List.getElem?_eq_getElem hk2]; exact hm)
        have hT : min (n) 1000000000 = R := by rw [← hR, hk]; show min n _ = min (n * max 1 m) _; rw [show max 1 m = 1 by omega, Int.mul_one]
        have hrg : 0 ≤ n ∧ n ≤ 1000000000000000000 := by omega
        have HR2 := Lib.hid hT
        have Hm := Lib.hid (And.intro hm hv1)
        rw [hk] at c0
        have Hk := Lib.hid hk
        clear he2 hv1 hm hR hT hk
        go_enter Try.func32, Try.ntmps32
        go_wp2_with fail
        refine HX0.out.mono ?_
        rintro e' w2 ⟨rfl, hb2⟩
        have HB2 := Lib.hid hb2
        obtain ⟨e0, e1, e3, e4⟩ := BX.out w2 hb2
        rw [hAk.out] at e4
        rw [Hk.out] at e0
        obtain ⟨q1, o1, g1, hA1, hq1, ⟨k0, k1, k2, k3, k4⟩, hg1⟩ := HK.out w2 (bch HB1.out HB2.out) 1 hk2
        rw [hAk.out] at hA1
        cases hA1
        have HX1 := Lib.hid (IH.out _ (List.getElem_mem hk2) g1 q0 _ ws cs A c e2 w2 m hq1 ⟨k0, k1, k2, k3, k4⟩ hg1 Hm.out.2 HC.out.1 HC.out.2.1 HC.out.2.2 (HS.out w2 (bch HB1.out HB2.out)) Hm.out.1)
        have hzz := hq1
        have hkeep := HB2.out.size
        clear hb2 hg1
        simp only [Nat.one_mul] at k0 k1 k2 k3 k4
        go_wp2_with fail
        refine HX1.out.mono ?_
        rintro e' w3 ⟨rfl, hb3⟩
        have HB3 := Lib.hid (bch HB2.out hb3)
        have hww : IntKind.i64.wrap (n) = n := IntWalk.i64_in _ (by omega)
        go_wp2
        all_goals go_ret
        all_goals exact ⟨ret_int (by rw [← HR2.out]; try omega), bch HB1.out HB3.out⟩
    · have hk2 : 1 < p.kids.length := by have := Hof.out.2.1; rw [hk] at this; simp [nkids] at this; omega
      have hk2I : (1 : Int) < (p.kids.length : Int) := by omega
      obtain ⟨_, e2, he2, hv1⟩ := plW_kids HV.out (List.getElem_mem hk2)
      obtain rfl : e2 = e := by omega
      obtain ⟨m, hm⟩ : ∃ m, bdW cs (e2 + 1) p.kids[1] = m := ⟨_, rfl⟩
      have hmr : 0 ≤ m ∧ m ≤ 1000000000 := by rw [← hm]; exact bdW_range HC.out.1 _ _
      have hR := HT.out m (by unfold kidW; rw [List.getElem?_eq_getElem hk2]; exact hm)
      have hT : min (n + m) 1000000000 = R := by rw [← hR, hk]; rfl
      have hrg : 0 ≤ n + m ∧ n + m ≤ 1000000000000000000 := by have := topB_range (k := 6) (c := p.cols.length) hnr hmr; exact this
      have HR2 := Lib.hid hT
      have Hm := Lib.hid (And.intro hm hv1)
      rw [hk] at c0
      have Hk := Lib.hid hk
      clear he2 hv1 hm hR hT hk
      go_enter Try.func32, Try.ntmps32
      go_wp2_with fail
      refine HX0.out.mono ?_
      rintro e' w2 ⟨rfl, hb2⟩
      have HB2 := Lib.hid hb2
      obtain ⟨e0, e1, e3, e4⟩ := BX.out w2 hb2
      rw [hAk.out] at e4
      rw [Hk.out] at e0
      obtain ⟨q1, o1, g1, hA1, hq1, ⟨k0, k1, k2, k3, k4⟩, hg1⟩ := HK.out w2 (bch HB1.out HB2.out) 1 hk2
      rw [hAk.out] at hA1
      cases hA1
      have HX1 := Lib.hid (IH.out _ (List.getElem_mem hk2) g1 q0 _ ws cs A c e2 w2 m hq1 ⟨k0, k1, k2, k3, k4⟩ hg1 Hm.out.2 HC.out.1 HC.out.2.1 HC.out.2.2 (HS.out w2 (bch HB1.out HB2.out)) Hm.out.1)
      have hzz := hq1
      have hkeep := HB2.out.size
      clear hb2 hg1
      simp only [Nat.one_mul] at k0 k1 k2 k3 k4
      go_wp2_with fail
      refine HX1.out.mono ?_
      rintro e' w3 ⟨rfl, hb3⟩
      have HB3 := Lib.hid (bch HB2.out hb3)
      have hww : IntKind.i64.wrap (n + m) = n + m := IntWalk.i64_in _ (by omega)
      go_wp2
      all_goals go_ret
      all_goals exact ⟨ret_int (by rw [← HR2.out]; try omega), bch HB1.out HB3.out⟩
    · have hcz : ((p.cols.length : Int) == 0) = true := by simp [hc]
      have hcz' : (p.cols.length == 0) = true := by simp [hc]
      obtain ⟨m, hm⟩ : ∃ m, kidW (bdW cs (e + 1)) p 1 = m := ⟨_, rfl⟩
      have hT : min (min n 1) 1000000000 = R := by rw [← HT.out m hm]; unfold topB; rw [if_neg (by omega), if_neg (by omega), if_neg (by omega), if_pos ⟨hk, hc⟩]
      have HR2 := Lib.hid hT
      rw [hk] at c0
      have Hk := Lib.hid hk
      clear hk hc
      clear hT hm
      go_enter Try.func32, Try.ntmps32
      go_wp2_with fail
      refine HX0.out.mono ?_
      rintro e' w2 ⟨rfl, hb2⟩
      have HB2 := Lib.hid hb2
      obtain ⟨e0, e1, e3, e4⟩ := BX.out w2 hb2
      rw [hAk.out] at e4
      rw [Hk.out] at e0
      clear hb2
      go_wp2
      all_goals go_ret
      all_goals exact ⟨ret_int (by rw [← HR2.out]; try omega), bch HB1.out HB2.out⟩
    · have hcz : ((p.cols.length : Int) == 0) = false := by simpa using hc
      have hcz' : (p.cols.length == 0) = false := by simpa using hc
      obtain ⟨m, hm⟩ : ∃ m, kidW (bdW cs (e + 1)) p 1 = m := ⟨_, rfl⟩
      have hT : min (n) 1000000000 = R := by rw [← HT.out m hm]; unfold topB; rw [if_neg (by omega), if_neg (by omega), if_neg (by omega), if_neg (by omega)]
      have HR2 := Lib.hid hT
      rw [hk] at c0
      have Hk := Lib.hid hk
      clear hk hc
      clear hT hm
      go_enter Try.func32, Try.ntmps32
      go_wp2_with fail
      refine HX0.out.mono ?_
      rintro e' w2 ⟨rfl, hb2⟩
      have HB2 := Lib.hid hb2
      obtain ⟨e0, e1, e3, e4⟩ := BX.out w2 hb2
      rw [hAk.out] at e4
      rw [Hk.out] at e0
      clear hb2
      go_wp2
      all_goals go_ret
      all_goals exact ⟨ret_int (by rw [← HR2.out]; try omega), bch HB1.out HB2.out⟩
    · have n4' : (p.kind == 4) = false := by simpa using n4
      have n5' : (p.kind == 5) = false := by simpa using n5
      have n6' : (p.kind == 6) = false := by simpa using n6
      have n8' : (p.kind == 8) = false := by simpa using n8
      obtain ⟨m, hm⟩ : ∃ m, kidW (bdW cs (e + 1)) p 1 = m := ⟨_, rfl⟩
      have hT : min (n) 1000000000 = R := by rw [← HT.out m hm]; unfold topB; rw [if_neg n4, if_neg n5, if_neg n6, if_neg (by omega)]
      have HR2 := Lib.hid hT
      clear hT hm
      go_enter Try.func32, Try.ntmps32
      go_wp2_with fail
      refine HX0.out.mono ?_
      rintro e' w2 ⟨rfl, hb2⟩
      have HB2 := Lib.hid hb2
      obtain ⟨e0, e1, e3, e4⟩ := BX.out w2 hb2
      rw [hAk.out] at e4
      clear hb2
      go_wp2
      all_goals go_ret
      all_goals exact ⟨ret_int (by rw [← HR2.out]; try omega), bch HB1.out HB2.out⟩
end Go.Proofs.Ytnecmacjlggkeaa
