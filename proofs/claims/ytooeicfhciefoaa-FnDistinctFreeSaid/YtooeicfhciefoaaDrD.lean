/-
  Contract: DrawIsDuplicateFree. (Printed by wip/drd.py.)
-/
import Derived.Test.YtooeicfhciefoaaProg
import Derived.Test.YtooeicfhciefoaaDrR
import Derived.Test.YtooeicfhciefoaaDfD
namespace Go.Proofs.Ytooeicfhciefoaa
open Go.RowKit Go.Qo
set_option linter.unusedVariables false
set_option linter.unusedSimpArgs false

theorem zeroBoolG : (Try.prog.info? 4).map (fun i => (i.zero, i.size, i.bytes)) = some (some (.bool false), 1, 1) := by kernel_rfl

set_option maxRecDepth 20000 in
set_option maxHeartbeats 4000000 in
theorem drawDf_ok (A : Option Addr) (c : Nat) (xs : List Int) (w : World) (hn : xs.length ≤ c) (hc : c ≤ maxLen) (hg : ∀ x ∈ xs, 0 ≤ x ∧ x ≤ 255) (hs : Sl 1 byteC w w.heap.size A xs) :
    Calls Try.prog 19 #[.slice A xs.length c] w fun e w' => ∃ f x v ws A' c' ss, e = .returned (.tuple #[fpV f, v, .slice A' ss.length c']) ∧ DrPW w.heap.size w' f x v ws ∧ Sl 1 boolC w' w'.heap.size A' ss ∧ ss.length ≤ 3 ∧ Below w.heap.size w w' := by
  obtain ⟨W0, hW0⟩ : ∃ z, w.alloc (.cells #[.int .i64 0, .int .i64 0, .slice none 0 0, .slice none 0 0, .slice none 0 0] 27) = z := ⟨_, rfl⟩
  have b0 : Below w.heap.size w W0 := by rw [← hW0]; exact balloc (Below.refl _ _) _
  have r0 : Row W0 w.heap.size 27 [.int .i64 0, .int .i64 0, .slice none 0 0, .slice none 0 0, .slice none 0 0] := by rw [← hW0]; exact Row.new _ _ _
  have hs0 : W0.heap.size = w.heap.size + 1 := by rw [← hW0]; simp
  obtain ⟨b, hb⟩ : ∃ b, W0.heap.size = b := ⟨_, rfl⟩
  have HN := Lib.hid (newReader_ok A c xs W0 hn hc hg (hs.on b0))
  rw [hb] at HN
  have hbw : w.heap.size + 1 = b := by omega
  have Hb := Lib.hid hb
  have Hr0 := Lib.hid r0
  have HB0 := Lib.hid b0
  have HW0 := Lib.hid hW0
  have Hpw := Lib.hid pwC_le
  clear hn hc hg hs hW0 b0 r0 hb hs0
  go_enter Try.func19, Try.ntmps19
  go_upto_region 1 with fail
  rw [HW0.out]
  go_wp2_with fail
  refine HN.out.mono ?_
  rintro e w1 ⟨rfl, hb1, hR1⟩
  rw [← Hb.out] at hb1
  have HPW := Lib.hid (planAndWidths_ok b 0 w1 hR1 (by have := Hpw.out; omega))
  have HB1 := Lib.hid (bch HB0.out hb1)
  have Hr1 := Lib.hid (Hr0.out.on hb1)
  have hbl1 := hR1.lt
  clear hb1 hR1
  go_wp2_with fail
  refine HPW.out.mono ?_
  rintro e w2 ⟨pf, px, v2, ws, rfl, hx2, how2, hwl, hwr, hb2, hR2⟩
  obtain ⟨A2, d2, rfl, hc21, hc22, hs2⟩ := how2.shape intC_length
  unfold fpV
  obtain ⟨W3, hW3⟩ : ∃ z, w2.alloc (.cells #[.int .i64 pf.kind, .int .i64 pf.table, .slice pf.es.A pf.es.n pf.es.c, .slice pf.cs.A pf.cs.n pf.cs.c, .slice pf.ks.A pf.ks.n pf.ks.c] 27) = z := ⟨_, rfl⟩
  obtain ⟨pb, hpb⟩ : ∃ n, w2.heap.size = n := ⟨_, rfl⟩
  have b3 : Below w2.heap.size w2 W3 := by rw [← hW3]; exact balloc (Below.refl _ _) _
  have hz1 := hb2.size
  have hzr := Hr1.out.lt
  have Hp3 := Lib.hid (show Row W3 pb 27 (fpC pf) by rw [← hW3, ← hpb]; exact Row.new _ _ _)
  have Hr3 := Lib.hid ((Hr1.out.only hb2 (by omega)).on b3)
  have HD3 := Lib.hid (show DrPW (b + 1) W3 pf px (.slice A2 ws.length d2) ws from (DrPW.only (b := b) (S := fun _ => False) (show DrPW w1.heap.size w2 pf px (.slice A2 ws.length d2) ws from ⟨hx2, how2, hwl, hwr⟩) (only_below b3) fun k hk => hk.elim).low (by omega))
  have HB3 := Lib.hid (bch (Only.from_ HB1.out rfl hb2 fun i (hi : i = b) => by omega) b3)
  have HR3 := Lib.hid (hR2.on b3)
  have hpb1 : b < pb := by omega
  have Hpb := Lib.hid hpb
  have HW3 := Lib.hid hW3
  have Hwl := Lib.hid (And.intro hwl (And.intro hc21 hc22))
  obtain ⟨hwl2, hwl3⟩ := hwl
  clear hx2 how2 hs2 hwr hb2 hR2 hW3 hpb b3 hz1 hzr HPW hc21 hc22 hbl1
  go_upto_region 3 with fail
  rw [HW3.out, Hpb.out]
  obtain ⟨W4, hW4⟩ : ∃ z, W3.alloc (.cells #[] 4) = z := ⟨_, rfl⟩
  have b4 : Below W3.heap.size W3 W4 := by rw [← hW4]; exact balloc (Below.refl _ _) _
  have hl3 : b < W3.heap.size := HR3.out.lt
  have HO4 := Lib.hid (show Ow W3.heap.size 4 1 boolC W4 (.slice (some ⟨W3.heap.size, 0, none⟩) 0 0) ([] : List Bool) by rw [← hW4]; exact Ow.lit (xs := ([] : List Bool)) rfl rfl (Nat.le_refl _) (by decide))
  have HR4 := Lib.hid (HR3.out.on b4)
  have HB4 := Lib.hid (show But b W3 W4 from only_below b4)
  have HW4 := Lib.hid hW4
  clear hW4 b4
  go_upto_region 4 with fail
  rw [HW4.out]
  go_wp2
  go_loopg [8, 9] ws.length (fun g v iv wr => ∃ (i : Nat) (cs : List Bool), i ≤ ws.length ∧ g = ws.length - i ∧ iv = .int .i64 i ∧ cs.length = i ∧ Ow W3.heap.size 4 1 boolC wr v cs ∧ But b W3 wr ∧ Rd wr b (pwC + i))
  case atStart => exact ⟨0, [], by omega, by omega, rfl, rfl, HO4.out, HB4.out, HR4.out.mono (by omega)⟩
  case round =>
    obtain ⟨i, cs, hi, rfl, rfl, hcl, how, hb, hR⟩ := hrel
    have HO := Lib.hid how
    have HB := Lib.hid hb
    have HRd := Lib.hid hR
    have Hcr := Lib.hid hcl
    have hsz := hb.size
    have hrl := hR.lt
    clear how hb hR hcl
    by_cases hil : i < ws.length
    · have hiI : (i : Int) < (ws.length : Int) := by omega
      have HON := Lib.hid (pick_ok b _ 3 wr HRd.out (by have := Hpw.out; omega))
      go_wp2_with fail
      refine HON.out.mono ?_
      rintro e w5 ⟨kk, rfl, hkk, hb5, hsz5, hR5⟩
      obtain ⟨qb, hqb⟩ : ∃ q, decide (0 < kk) = q := ⟨_, rfl⟩
      obtain ⟨U, hU⟩ : ∃ z, w5.alloc (.cells #[.bool qb] 4) = z := ⟨_, rfl⟩
      have hub : Below w5.heap.size w5 U := by rw [← hU]; exact balloc (Below.refl _ _) _
      have HB5 := Lib.hid ((HB.out.trans hb5).below hub)
      have HO5 := Lib.hid ((HO.out.only hb5 fun k (hk : k = b) => .inl (by omega)).on hub)
      have HR5 := Lib.hid (hR5.on hub)
      have HS5 := Lib.hid (show Sl 1 boolC U U.heap.size (some ⟨w5.heap.size, 0, none⟩) [qb] by rw [← hU]; exact Row.sl' (t := 4) boolC_length ((Row.new w5 _ _).of rfl))
      have hsz6 : W3.heap.size ≤ U.heap.size := HB5.out.size
      have HU := Lib.hid hU
      have hcl := Hcr.out
      clear hU hub hb5 hsz5 hR5 hkk
      go_wp2_with (at_builtin; rw [HU.out]; refine wpList_app rfl (.tmp 24) (.tmp 28) 40 rfl W3.heap.size 4 _ 1 1 boolC Try.underlying40 zeroBoolG rfl (by decide) (by decide) boolC_length boolC_one _ cs rfl HO5.out (some ⟨w5.heap.size, 0, none⟩) 1 1 [qb] rfl rfl HS5.out (by simp; omega) hsz6 ?_; intro v' w' hown hgr)
      go_roundg (ws.length - (i + 1))
      case measure => omega
      case rel =>
        exact ⟨i + 1, cs ++ [qb], by omega, rfl, by go_num, by simp; omega, hown, HB5.out.grown hgr fun k hk => .inr (HO5.out.ty k hk).1, (HR5.out.grown hgr fun k hk => by have := (HO5.out.ty k hk).1; omega).mono (by omega)⟩
    · have hiI : ¬ (i : Int) < (ws.length : Int) := by omega
      obtain ⟨A6, c6, rfl, hc61, hc62, hs6⟩ := HO.out.shape boolC_length
      have hie : cs.length = ws.length := by have := Hcr.out; omega
      have Hie := Lib.hid hie
      clear hs6 hie
      go_wp2_with fail
      refine (pick_ok b _ 16 wr HRd.out (by have := Hpw.out; omega)).mono ?_
      rintro e w6 ⟨k, rfl, hk, hb6, hsz6, hR6⟩
      have HB6 := Lib.hid (HB.out.trans hb6)
      have HO6 := Lib.hid (HO.out.only hb6 fun i (hi : i = b) => .inl (by omega))
      have HR6 := Lib.hid hR6
      clear hk hb6 hsz6 hR6
      by_cases hk : k = 0
      · subst hk
        obtain ⟨g, rfl, hn', hg, hgl, _, hf, hcs⟩ := HO6.out.head boolC_length (by have := Hie.out; omega)
        have hpZ := Hp3.out.only HB6.out (show ¬ pb = b by omega)
        have hrZ := Hr3.out.only HB6.out (show ¬ w.heap.size = b by omega)
        have HDZ := Lib.hid (DrPW.only (b := b) HD3.out HB6.out fun k (hk : k = b) => by omega)
        have HBZ := Lib.hid (Only.from_ (HB3.out) rfl HB6.out fun i (hi : i = b) => by omega)
        have hw0 : (1 : Int) ≤ (cs.length : Int) := by have := Hie.out; omega
        have hw1 : (cs.length : Int) ≤ (c6 : Int) := by omega
        have hgb : g ≠ w.heap.size := by omega
        have hw2 : (1 : Int) < (c6 : Int) := by have := Hie.out; omega
        have hw3 : 1 < c6 := by omega
        have hlp := (hpZ).lt
        have k0 : (w6).cell? ⟨pb, 0, none⟩ = some (.int .i64 pf.kind) := (hpZ).cell 0
        have k1 : (w6).cell? ⟨pb, 1, none⟩ = some (.int .i64 pf.table) := (hpZ).cell 1
        have k2 : (w6).cell? ⟨pb, 2, none⟩ = some (.slice pf.es.A pf.es.n pf.es.c) := (hpZ).cell 2
        have k3 : (w6).cell? ⟨pb, 3, none⟩ = some (.slice pf.cs.A pf.cs.n pf.cs.c) := (hpZ).cell 3
        have k4 : (w6).cell? ⟨pb, 4, none⟩ = some (.slice pf.ks.A pf.ks.n pf.ks.c) := (hpZ).cell 4
        have hlr := (hrZ).lt
        have c0 := (hrZ).cell 0
        have f0 := (hrZ).frozen 0
        have c1 := (hrZ).cell 1
        have f1 := (hrZ).frozen 1
        have c2 := (hrZ).cell 2
        have f2 := (hrZ).frozen 2
        have c3 := (hrZ).cell 3
        have f3 := (hrZ).frozen 3
        have c4 := (hrZ).cell 4
        have f4 := (hrZ).frozen 4
        clear hpZ hrZ hcs hf hn'
        go_wp2
        refine bodyPost_ret (v := .tuple #[fpV pf, .slice A2 ws.length d2, .slice (some ⟨g, 1, none⟩) (cs.length - 1) (c6 - 1)]) (by simp [results, Try.results19, go_sem, fpV, c0, c1, c2, c3, c4]) rfl ?_
        have h5 := set5 w6 w.heap.size (.int .i64 pf.kind) (.int .i64 pf.table) (.slice pf.es.A pf.es.n pf.es.c) (.slice pf.cs.A pf.cs.n pf.cs.c) (.slice pf.ks.A pf.ks.n pf.ks.c)
        have hs6 := ((HO6.out.only h5 fun k (hk : k = w.heap.size) => .inl (by omega)).shape boolC_length)
        obtain ⟨_, _, hv6, _, _, hs6⟩ := hs6
        injection hv6 with hv6 _ _
        subst hv6
        exact ⟨pf, px, _, ws, some ⟨g, 1, none⟩, c6 - 1, cs.drop 1, by rw [List.length_drop], (DrPW.only (b := b) HDZ.out h5 fun k (hk : k = w.heap.size) => by omega).low (by omega), hs6.sl.tail 1, by rw [List.length_drop]; have := Hie.out; omega, set5_below HBZ.out (Nat.le_refl _) _ _ _ _ _⟩
      · have hk' : (k == 0) = false := by simpa using hk
        have hpZ := Hp3.out.only HB6.out (show ¬ pb = b by omega)
        have hrZ := Hr3.out.only HB6.out (show ¬ w.heap.size = b by omega)
        have HDZ := Lib.hid (DrPW.only (b := b) HD3.out HB6.out fun k (hk : k = b) => by omega)
        have HBZ := Lib.hid (Only.from_ (HB3.out) rfl HB6.out fun i (hi : i = b) => by omega)
        have hlp := (hpZ).lt
        have k0 : (w6).cell? ⟨pb, 0, none⟩ = some (.int .i64 pf.kind) := (hpZ).cell 0
        have k1 : (w6).cell? ⟨pb, 1, none⟩ = some (.int .i64 pf.table) := (hpZ).cell 1
        have k2 : (w6).cell? ⟨pb, 2, none⟩ = some (.slice pf.es.A pf.es.n pf.es.c) := (hpZ).cell 2
        have k3 : (w6).cell? ⟨pb, 3, none⟩ = some (.slice pf.cs.A pf.cs.n pf.cs.c) := (hpZ).cell 3
        have k4 : (w6).cell? ⟨pb, 4, none⟩ = some (.slice pf.ks.A pf.ks.n pf.ks.c) := (hpZ).cell 4
        have hlr := (hrZ).lt
        have c0 := (hrZ).cell 0
        have f0 := (hrZ).frozen 0
        have c1 := (hrZ).cell 1
        have f1 := (hrZ).frozen 1
        have c2 := (hrZ).cell 2
        have f2 := (hrZ).frozen 2
        have c3 := (hrZ).cell 3
        have f3 := (hrZ).frozen 3
        have c4 := (hrZ).cell 4
        have f4 := (hrZ).frozen 4
        clear hpZ hrZ
        go_wp2
        refine bodyPost_ret (v := .tuple #[fpV pf, .slice A2 ws.length d2, .slice A6 cs.length c6]) (by simp [results, Try.results19, go_sem, fpV, c0, c1, c2, c3, c4]) rfl ?_
        have h5 := set5 w6 w.heap.size (.int .i64 pf.kind) (.int .i64 pf.table) (.slice pf.es.A pf.es.n pf.es.c) (.slice pf.cs.A pf.cs.n pf.cs.c) (.slice pf.ks.A pf.ks.n pf.ks.c)
        obtain ⟨_, _, hv6, _, _, hs6⟩ := (HO6.out.only h5 fun k (hk : k = w.heap.size) => .inl (by omega)).shape boolC_length
        injection hv6 with hv6 _ _
        subst hv6
        exact ⟨pf, px, _, ws, _, c6, cs, rfl, (DrPW.only (b := b) HDZ.out h5 fun k (hk : k = w.heap.size) => by omega).low (by omega), hs6.sl, by have := Hie.out; omega, set5_below HBZ.out (Nat.le_refl _) _ _ _ _ _⟩
end Go.Proofs.Ytooeicfhciefoaa
