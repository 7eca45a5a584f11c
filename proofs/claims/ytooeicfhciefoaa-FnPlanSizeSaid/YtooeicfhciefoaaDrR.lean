/-
  Contract: DrawRowBound. (Printed by wip/drr.py.)
-/
import Derived.Test.YtooeicfhciefoaaProg
import Derived.Test.YtooeicfhciefoaaPaW
namespace Go.Proofs.Ytooeicfhciefoaa
open Go.RowKit Go.Qo
set_option linter.unusedVariables false
set_option linter.unusedSimpArgs false

/-- The plan and the widths that are drawn, in memory of the call's own. -/
def DrPW (lo : Nat) (w : World) (f : FP) (x : Pl) (v : Value) (ws : List Int) : Prop := PlT (fun k => lo ≤ k) w f x ∧ Ow lo 3 1 intC w v ws ∧ (2 ≤ ws.length ∧ ws.length ≤ 3) ∧ ∀ y ∈ ws, 0 ≤ y ∧ y ≤ 7
theorem DrPW.only {lo b : Nat} {w w' : World} {f : FP} {x : Pl} {v : Value} {ws : List Int} {S : Nat → Prop} (h : DrPW lo w f x v ws) (hb : Only S w w') (hS : ∀ k, S k → k < lo) : DrPW lo w' f x v ws :=
  ⟨h.1.keep hb.size fun k hk hl => hb.block k hl fun e => by have := hS k e; omega, h.2.1.only hb fun k hk => .inl (hS k hk), h.2.2⟩
theorem DrPW.low {lo lo' : Nat} {w : World} {f : FP} {x : Pl} {v : Value} {ws : List Int} (h : DrPW lo w f x v ws) (hl : lo' ≤ lo) : DrPW lo' w f x v ws := ⟨h.1.mono fun k _ hk => by omega, h.2.1.low hl, h.2.2⟩
theorem set5_below {lo g : Nat} {w wx : World} (h : Below lo w wx) (hg : lo ≤ g) (v0 v1 v2 v3 v4 : Value) : Below lo w (((((wx.setCell ⟨g, 0, none⟩ v0).setCell ⟨g, 1, none⟩ v1).setCell ⟨g, 2, none⟩ v2).setCell ⟨g, 3, none⟩ v3).setCell ⟨g, 4, none⟩ v4) :=
  ((((h.setCell (p := ⟨g, 0, none⟩) hg _).setCell (p := ⟨g, 1, none⟩) hg _).setCell (p := ⟨g, 2, none⟩) hg _).setCell (p := ⟨g, 3, none⟩) hg _).setCell (p := ⟨g, 4, none⟩) hg _
theorem pwC_le : pwC ≤ 9000 := by decide

set_option maxRecDepth 20000 in
set_option maxHeartbeats 4000000 in
theorem drawRowBound_ok (A : Option Addr) (c : Nat) (xs : List Int) (w : World) (hn : xs.length ≤ c) (hc : c ≤ maxLen) (hg : ∀ x ∈ xs, 0 ≤ x ∧ x ≤ 255) (hs : Sl 1 byteC w w.heap.size A xs) :
    Calls Try.prog 16 #[.slice A xs.length c] w fun e w' => ∃ f x v ws v' cs, e = .returned (.tuple #[fpV f, v, v']) ∧ DrPW w.heap.size w' f x v ws ∧ Ow w.heap.size 3 1 intC w' v' cs ∧ cs.length = ws.length ∧ (∀ y ∈ cs, -1 ≤ y ∧ y ≤ 401) ∧ Below w.heap.size w w' := by
  obtain ⟨W0, hW0⟩ : ∃ z, w.alloc (.cells #[.int .i64 0, .int .i64 0, .slice none 0 0, .slice none 0 0, .slice none 0 0] 27) = z := ⟨_, rfl⟩
  have b0 : Below w.heap.size w W0 := by rw [← hW0]; exact balloc (Below.refl _ _) _
  have r0 : Row W0 w.heap.size 27 [.int .i64 0, .int .i64 0, .slice none 0 0, .slice none 0 0, .slice none 0 0] := by rw [← hW0]; exact Row.new _ _ _
  have hs0 : W0.heap.size = w.heap.size + 1 := by rw [← hW0]; simp
  obtain ⟨b, hb⟩ : ∃ b, W0.heap.size = b := ⟨_, rfl⟩
  have HN := Lib.hid (newReader_ok A c xs W0 hn hc hg (hs.on b0))
  rw [hb] at HN
  have hbw : w.heap.size + 1 = b := by omega
  have Hb := Lib.hid hb
  have Hr0 := Lib.hid r0
  have HB0 := Lib.hid b0
  have HW0 := Lib.hid hW0
  have Hpw := Lib.hid pwC_le
  clear hn hc hg hs hW0 b0 r0 hb hs0
  go_enter Try.func16, Try.ntmps16
  go_upto_region 1 with fail
  rw [HW0.out]
  go_wp2_with fail
  refine HN.out.mono ?_
  rintro e w1 ⟨rfl, hb1, hR1⟩
  rw [← Hb.out] at hb1
  have HPW := Lib.hid (planAndWidths_ok b 0 w1 hR1 (by have := Hpw.out; omega))
  have HB1 := Lib.hid (bch HB0.out hb1)
  have Hr1 := Lib.hid (Hr0.out.on hb1)
  have hbl1 := hR1.lt
  clear hb1 hR1
  go_wp2_with fail
  refine HPW.out.mono ?_
  rintro e w2 ⟨pf, px, v2, ws, rfl, hx2, how2, hwl, hwr, hb2, hR2⟩
  obtain ⟨A2, d2, rfl, hc21, hc22, hs2⟩ := how2.shape intC_length
  unfold fpV
  obtain ⟨W3, hW3⟩ : ∃ z, w2.alloc (.cells #[.int .i64 pf.kind, .int .i64 pf.table, .slice pf.es.A pf.es.n pf.es.c, .slice pf.cs.A pf.cs.n pf.cs.c, .slice pf.ks.A pf.ks.n pf.ks.c] 27) = z := ⟨_, rfl⟩
  obtain ⟨pb, hpb⟩ : ∃ n, w2.heap.size = n := ⟨_, rfl⟩
  have b3 : Below w2.heap.size w2 W3 := by rw [← hW3]; exact balloc (Below.refl _ _) _
  have hz1 := hb2.size
  have hzr := Hr1.out.lt
  have Hp3 := Lib.hid (show Row W3 pb 27 (fpC pf) by rw [← hW3, ← hpb]; exact Row.new _ _ _)
  have Hr3 := Lib.hid ((Hr1.out.only hb2 (by omega)).on b3)
  have HD3 := Lib.hid (show DrPW (b + 1) W3 pf px (.slice A2 ws.length d2) ws from (DrPW.only (b := b) (S := fun _ => False) (show DrPW w1.heap.size w2 pf px (.slice A2 ws.length d2) ws from ⟨hx2, how2, hwl, hwr⟩) (only_below b3) fun k hk => hk.elim).low (by omega))
  have HB3 := Lib.hid (bch (Only.from_ HB1.out rfl hb2 fun i (hi : i = b) => by omega) b3)
  have HR3 := Lib.hid (hR2.on b3)
  have hpb1 : b < pb := by omega
  have Hpb := Lib.hid hpb
  have HW3 := Lib.hid hW3
  have Hwl := Lib.hid (And.intro hwl (And.intro hc21 hc22))
  obtain ⟨hwl2, hwl3⟩ := hwl
  clear hx2 how2 hs2 hwr hb2 hR2 hW3 hpb b3 hz1 hzr HPW hc21 hc22 hbl1
  go_upto_region 3 with fail
  rw [HW3.out, Hpb.out]
  obtain ⟨W4, hW4⟩ : ∃ z, W3.alloc (.cells #[] 3) = z := ⟨_, rfl⟩
  have b4 : Below W3.heap.size W3 W4 := by rw [← hW4]; exact balloc (Below.refl _ _) _
  have hl3 : b < W3.heap.size := HR3.out.lt
  have HO4 := Lib.hid (show Ow W3.heap.size 3 1 intC W4 (.slice (some ⟨W3.heap.size, 0, none⟩) 0 0) ([] : List Int) by rw [← hW4]; exact Ow.lit (xs := ([] : List Int)) rfl rfl (Nat.le_refl _) (by decide))
  have HR4 := Lib.hid (HR3.out.on b4)
  have HB4 := Lib.hid (show But b W3 W4 from only_below b4)
  have HW4 := Lib.hid hW4
  clear hW4 b4
  go_upto_region 4 with fail
  rw [HW4.out]
  go_wp2
  go_loopg [8, 9] ws.length (fun g v iv wr => ∃ (i : Nat) (cs : List Int), i ≤ ws.length ∧ g = ws.length - i ∧ iv = .int .i64 i ∧ cs.length = i ∧ (∀ y ∈ cs, 0 ≤ y ∧ y ≤ 400) ∧ Ow W3.heap.size 3 1 intC wr v cs ∧ But b W3 wr ∧ Rd wr b (pwC + i))
  case atStart => exact ⟨0, [], by omega, by omega, rfl, rfl, by simp, HO4.out, HB4.out, HR4.out.mono (by omega)⟩
  case round =>
    obtain ⟨i, cs, hi, rfl, rfl, hcl, hcr, how, hb, hR⟩ := hrel
    have HO := Lib.hid how
    have HB := Lib.hid hb
    have HRd := Lib.hid hR
    have Hcr := Lib.hid (And.intro hcl hcr)
    have hsz := hb.size
    have hrl := hR.lt
    clear how hb hR hcr hcl
    by_cases hil : i < ws.length
    · have hiI : (i : Int) < (ws.length : Int) := by omega
      obtain ⟨V, hV⟩ : ∃ z, wr.alloc (.cells #[.int .i64 0, .int .i64 1, .int .i64 3, .int .i64 400] 3) = z := ⟨_, rfl⟩
      have hvb : Below wr.heap.size wr V := by rw [← hV]; exact balloc (Below.refl _ _) _
      have HON := Lib.hid (one_ok b _ (some ⟨wr.heap.size, 0, none⟩) 4 [0, 1, 3, 400] V (HRd.out.on hvb) (by have := Hpw.out; omega) (by simp) (by simp) (by rw [← hV]; exact Row.sl' (t := 3) intC_length ((Row.new wr _ _).of rfl)) (by rintro a ha; cases ha; exact (show wr.heap.size ≠ b by omega)))
      have Hvb := Lib.hid hvb
      have HV := Lib.hid hV
      clear hV hvb
      go_wp2_with fail
      rw [HV.out]
      refine HON.out.mono ?_
      rintro e w5 ⟨kk, rfl, hkk, hb5, hsz5, hR5⟩
      obtain ⟨U, hU⟩ : ∃ z, w5.alloc (.cells #[.int .i64 kk] 3) = z := ⟨_, rfl⟩
      have hub : Below w5.heap.size w5 U := by rw [← hU]; exact balloc (Below.refl _ _) _
      have HB5 := Lib.hid (((HB.out.below Hvb.out).trans hb5).below hub)
      have HO5 := Lib.hid (((HO.out.on Hvb.out).only hb5 fun k (hk : k = b) => .inl (by omega)).on hub)
      have HR5 := Lib.hid (hR5.on hub)
      have HS5 := Lib.hid (show Sl 1 intC U U.heap.size (some ⟨w5.heap.size, 0, none⟩) [kk] by rw [← hU]; exact Row.sl' (t := 3) intC_length ((Row.new w5 _ _).of rfl))
      have hsz6 : W3.heap.size ≤ U.heap.size := HB5.out.size
      have Hkk := Lib.hid (show 0 ≤ kk ∧ kk ≤ 400 by simp at hkk; omega)
      have HU := Lib.hid hU
      have hcl := Hcr.out.1
      clear hU hub hb5 hsz5 hR5 hkk
      go_wp2_with (at_builtin; rw [HU.out]; refine wpList_app rfl (.tmp 24) (.tmp 28) 24 rfl W3.heap.size 3 _ 1 8 intC Try.underlying24 zeroIntG rfl (by decide) (by decide) intC_length intC_one _ cs rfl HO5.out (some ⟨w5.heap.size, 0, none⟩) 1 1 [kk] rfl rfl HS5.out (by simp; omega) hsz6 ?_; intro v' w' hown hgr)
      go_roundg (ws.length - (i + 1))
      case measure => omega
      case rel =>
        refine ⟨i + 1, cs ++ [kk], by omega, rfl, by go_num, by simp; omega, ?_, hown, ?_, ?_⟩
        · intro y hy
          rcases List.mem_append.1 hy with hy | hy
          · exact Hcr.out.2 y hy
          · simp at hy; subst hy; exact Hkk.out
        · exact HB5.out.grown hgr fun k hk => .inr (HO5.out.ty k hk).1
        · exact (HR5.out.grown hgr fun k hk => by have := (HO5.out.ty k hk).1; omega).mono (by omega)
    · have hiI : ¬ (i : Int) < (ws.length : Int) := by omega
      obtain ⟨A6, c6, rfl, hc61, hc62, hs6⟩ := HO.out.shape intC_length
      have hie : cs.length = ws.length := by have := Hcr.out.1; omega
      have Hie := Lib.hid hie
      clear hs6 hie
      go_wp2_with fail
      refine (pick_ok b _ 16 wr HRd.out (by have := Hpw.out; omega)).mono ?_
      rintro e w6 ⟨k, rfl, hk, hb6, hsz6, hR6⟩
      have HB6 := Lib.hid (HB.out.trans hb6)
      have HO6 := Lib.hid (HO.out.only hb6 fun i (hi : i = b) => .inl (by omega))
      have HR6 := Lib.hid hR6
      clear hk hb6 hsz6 hR6
      by_cases hk : k = 0
      · subst hk
        obtain ⟨V, hV⟩ : ∃ z, w6.alloc (.cells #[.int .i64 (-1), .int .i64 401] 3) = z := ⟨_, rfl⟩
        have hvb : Below w6.heap.size w6 V := by rw [← hV]; exact balloc (Below.refl _ _) _
        have hbl6 := HR6.out.lt
        have HON := Lib.hid (one_ok b _ (some ⟨w6.heap.size, 0, none⟩) 2 [-1, 401] V (HR6.out.on hvb) (by have := Hpw.out; omega) (by simp) (by simp) (by rw [← hV]; exact Row.sl' (t := 3) intC_length ((Row.new w6 _ _).of rfl)) (by rintro a ha; cases ha; exact (show w6.heap.size ≠ b by omega)))
        have Hvb := Lib.hid hvb
        have HV := Lib.hid hV
        clear hV hvb hbl6
        go_upto_region 9 with fail
        go_wp2_with fail
        rw [HV.out]
        refine HON.out.mono ?_
        rintro e w7 ⟨kk, rfl, hkk, hb7, hsz7, hR7⟩
        have hO7 := (HO6.out.on Hvb.out).only hb7 fun i (hi : i = b) => .inl (by omega)
        have hB7 := (HB6.out.below Hvb.out).trans hb7
        obtain ⟨g, rfl, hn', hg, hgl, _, hf, hcs⟩ := hO7.head intC_length (by have := Hie.out; omega)
        obtain ⟨y0, hy0⟩ : ∃ y, (cs.flatMap intC)[0]? = some y := ⟨_, List.getElem?_eq_getElem (by rw [flat_length 1 intC intC_length]; have := Hie.out; omega)⟩
        have gc := hcs 0 _ hy0
        have gf := hf 0
        obtain ⟨Z, hZ⟩ : ∃ z, w7.setCell ⟨g, 0, none⟩ (.int .i64 kk) = z := ⟨_, rfl⟩
        have hs := Only.set (S := fun i => i = g) (p := ⟨g, 0, none⟩) (Only.refl w7) (.inl rfl) (.int .i64 kk)
        have hst := hO7.put 0 (.int .i64 kk)
        rw [flat_setI2] at hst
        rw [hZ] at hs hst
        have HOZ := Lib.hid (show Ow W3.heap.size 3 1 intC Z (.slice (some ⟨g, 0, none⟩) cs.length c6) (cs.set 0 kk) by unfold Ow; rw [List.length_set]; exact hst)
        have hBZ := Only.step hB7 hs fun j (hj : j = g) => .inr (by omega)
        have hpZ := Hp3.out.only hBZ (show ¬ pb = b by omega)
        have hrZ := Hr3.out.only hBZ (show ¬ w.heap.size = b by omega)
        have HDZ := Lib.hid (DrPW.only (b := b) HD3.out hBZ fun k (hk : k = b) => by omega)
        have HBZ := Lib.hid (Only.from_ (HB3.out) rfl hBZ fun i (hi : i = b) => by omega)
        have Hkk := Lib.hid (show -1 ≤ kk ∧ kk ≤ 401 by simp at hkk; omega)
        have HZ := Lib.hid hZ
        have hw0 : (0 : Int) < (cs.length : Int) := by have := Hie.out; omega
        have hgb : g ≠ w.heap.size := by omega
        have hlp := (hpZ).lt
        have k0 : (Z).cell? ⟨pb, 0, none⟩ = some (.int .i64 pf.kind) := (hpZ).cell 0
        have k1 : (Z).cell? ⟨pb, 1, none⟩ = some (.int .i64 pf.table) := (hpZ).cell 1
        have k2 : (Z).cell? ⟨pb, 2, none⟩ = some (.slice pf.es.A pf.es.n pf.es.c) := (hpZ).cell 2
        have k3 : (Z).cell? ⟨pb, 3, none⟩ = some (.slice pf.cs.A pf.cs.n pf.cs.c) := (hpZ).cell 3
        have k4 : (Z).cell? ⟨pb, 4, none⟩ = some (.slice pf.ks.A pf.ks.n pf.ks.c) := (hpZ).cell 4
        have hlr := (hrZ).lt
        have c0 := (hrZ).cell 0
        have f0 := (hrZ).frozen 0
        have c1 := (hrZ).cell 1
        have f1 := (hrZ).frozen 1
        have c2 := (hrZ).cell 2
        have f2 := (hrZ).frozen 2
        have c3 := (hrZ).cell 3
        have f3 := (hrZ).frozen 3
        have c4 := (hrZ).cell 4
        have f4 := (hrZ).frozen 4
        have Hg := Lib.hid hg
        clear hpZ hrZ hst hs hZ hO7 hB7 hBZ hb7 hsz7 hR7 hcs hf hy0 hn' hkk
        go_upto_region 10 with fail
        rw [HZ.out]
        go_wp2
        refine bodyPost_ret (v := .tuple #[fpV pf, .slice A2 ws.length d2, .slice (some ⟨g, 0, none⟩) cs.length c6]) (by simp [results, Try.results16, go_sem, fpV, c0, c1, c2, c3, c4]) rfl ?_
        have h5 := set5 Z w.heap.size (.int .i64 pf.kind) (.int .i64 pf.table) (.slice pf.es.A pf.es.n pf.es.c) (.slice pf.cs.A pf.cs.n pf.cs.c) (.slice pf.ks.A pf.ks.n pf.ks.c)
        refine ⟨pf, px, _, ws, _, cs.set 0 kk, rfl, (DrPW.only (b := b) HDZ.out h5 fun k (hk : k = w.heap.size) => by omega).low (by omega), (HOZ.out.only h5 fun k (hk : k = w.heap.size) => .inl (by omega)).low (by omega), by rw [List.length_set]; exact Hie.out, fun y hy => ?_, set5_below HBZ.out (Nat.le_refl _) _ _ _ _ _⟩
        rcases List.mem_or_eq_of_mem_set hy with h1 | h1
        · have := Hcr.out.2 y h1; omega
        · subst h1; exact Hkk.out
      · have hk' : (k == 0) = false := by simpa using hk
        have hpZ := Hp3.out.only HB6.out (show ¬ pb = b by omega)
        have hrZ := Hr3.out.only HB6.out (show ¬ w.heap.size = b by omega)
        have HDZ := Lib.hid (DrPW.only (b := b) HD3.out HB6.out fun k (hk : k = b) => by omega)
        have HBZ := Lib.hid (Only.from_ (HB3.out) rfl HB6.out fun i (hi : i = b) => by omega)
        have hlp := (hpZ).lt
        have k0 : (w6).cell? ⟨pb, 0, none⟩ = some (.int .i64 pf.kind) := (hpZ).cell 0
        have k1 : (w6).cell? ⟨pb, 1, none⟩ = some (.int .i64 pf.table) := (hpZ).cell 1
        have k2 : (w6).cell? ⟨pb, 2, none⟩ = some (.slice pf.es.A pf.es.n pf.es.c) := (hpZ).cell 2
        have k3 : (w6).cell? ⟨pb, 3, none⟩ = some (.slice pf.cs.A pf.cs.n pf.cs.c) := (hpZ).cell 3
        have k4 : (w6).cell? ⟨pb, 4, none⟩ = some (.slice pf.ks.A pf.ks.n pf.ks.c) := (hpZ).cell 4
        have hlr := (hrZ).lt
        have c0 := (hrZ).cell 0
        have f0 := (hrZ).frozen 0
        have c1 := (hrZ).cell 1
        have f1 := (hrZ).frozen 1
        have c2 := (hrZ).cell 2
        have f2 := (hrZ).frozen 2
        have c3 := (hrZ).cell 3
        have f3 := (hrZ).frozen 3
        have c4 := (hrZ).cell 4
        have f4 := (hrZ).frozen 4
        clear hpZ hrZ
        go_wp2
        refine bodyPost_ret (v := .tuple #[fpV pf, .slice A2 ws.length d2, .slice A6 cs.length c6]) (by simp [results, Try.results16, go_sem, fpV, c0, c1, c2, c3, c4]) rfl ?_
        have h5 := set5 w6 w.heap.size (.int .i64 pf.kind) (.int .i64 pf.table) (.slice pf.es.A pf.es.n pf.es.c) (.slice pf.cs.A pf.cs.n pf.cs.c) (.slice pf.ks.A pf.ks.n pf.ks.c)
        exact ⟨pf, px, _, ws, _, cs, rfl, (DrPW.only (b := b) HDZ.out h5 fun k (hk : k = w.heap.size) => by omega).low (by omega), (HO6.out.only h5 fun k (hk : k = w.heap.size) => .inl (by omega)).low (by omega), Hie.out, fun y hy => by have := Hcr.out.2 y hy; omega, set5_below HBZ.out (Nat.le_refl _) _ _ _ _ _⟩
end Go.Proofs.Ytooeicfhciefoaa
