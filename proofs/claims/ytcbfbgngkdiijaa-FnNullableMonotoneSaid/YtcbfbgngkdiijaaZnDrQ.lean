/-
  Contract: DrawNullableColumns.
-/
import Derived.Test.YtcbfbgngkdiijaaProg
import Derived.Test.YtcbfbgngkdiijaaZnDrR
import Derived.Test.YtcbfbgngkdiijaaZnFls
import Derived.Test.YtcbfbgngkdiijaaZnPln
namespace Go.Proofs.Ytcbfbgngkdiijaa
open Go.RowKit Go.Qo
set_option linter.unusedVariables false
set_option linter.unusedSimpArgs false

theorem zeroBoolQ : (Try.prog.info? 4).map (fun i => (i.zero, i.size, i.bytes)) = some (some (.bool false), 1, 1) := by kernel_rfl
theorem zeroRowQ : (Try.prog.info? 31).map (fun i => (i.zero, i.size, i.bytes)) = some (some (.slice none 0 0), 1, 24) := by kernel_rfl
/-- What is drawn. -/
def DrawnNu (w : World) (e : Ending) (w' : World) : Prop := ∃ f x v ws A' c' fl, e = .returned (.tuple #[fpV f, v, .slice A' fl.length c']) ∧ DrPW w.heap.size w' f x v ws ∧ FlIn w' w'.heap.size A' fl ∧ (fl.length ≤ 3 ∧ ∀ r ∈ fl, r.length ≤ 7) ∧ fl.length ≤ c' ∧ c' ≤ maxLen ∧ Below w.heap.size w w'

set_option maxRecDepth 20000 in
set_option maxHeartbeats 4000000 in
theorem drawNu_ok (A : Option Addr) (c : Nat) (xs : List Int) (w : World) (hn : xs.length ≤ c) (hc : c ≤ maxLen) (hg : ∀ x ∈ xs, 0 ≤ x ∧ x ≤ 255) (hs : Sl 1 byteC w w.heap.size A xs) :
    Calls Try.prog 5 #[.slice A xs.length c] w (DrawnNu w) := by
  obtain ⟨W0, hW0⟩ : ∃ z, w.alloc (.cells #[.int .i64 0, .int .i64 0, .slice none 0 0, .slice none 0 0, .slice none 0 0] 27) = z := ⟨_, rfl⟩
  have b0 : Below w.heap.size w W0 := by rw [← hW0]; exact balloc (Below.refl _ _) _
  have r0 : Row W0 w.heap.size 27 [.int .i64 0, .int .i64 0, .slice none 0 0, .slice none 0 0, .slice none 0 0] := by rw [← hW0]; exact Row.new _ _ _
  have hs0 : W0.heap.size = w.heap.size + 1 := by rw [← hW0]; simp
  obtain ⟨b, hb⟩ : ∃ b, W0.heap.size = b := ⟨_, rfl⟩
  have HN := Lib.hid (newReader_ok A c xs W0 hn hc hg (hs.on b0))
  rw [hb] at HN
  have hbw : w.heap.size + 1 = b := by omega
  have Hb := Lib.hid hb
  have Hr0 := Lib.hid r0
  have HB0 := Lib.hid b0
  have HW0 := Lib.hid hW0
  have Hpw := Lib.hid pwC_le
  clear hn hc hg hs hW0 b0 r0 hb hs0
  go_enter Try.func5, Try.ntmps5
  go_upto_region 1 with fail
  rw [HW0.out]
  go_wp2_with fail
  refine HN.out.mono ?_
  rintro e w1 ⟨rfl, hb1, hR1⟩
  rw [← Hb.out] at hb1
  have HPW := Lib.hid (planAndWidths_ok b 0 w1 hR1 (by have := Hpw.out; omega))
  have HB1 := Lib.hid (bch HB0.out hb1)
  have Hr1 := Lib.hid (Hr0.out.on hb1)
  have hbl1 := hR1.lt
  clear hb1 hR1
  go_wp2_with fail
  refine HPW.out.mono ?_
  rintro e w2 ⟨pf, px, v2, ws, rfl, hx2, how2, hwl, hwr, hb2, hR2⟩
  obtain ⟨A2, d2, rfl, hc21, hc22, hs2⟩ := how2.shape intC_length
  unfold fpV
  obtain ⟨W3, hW3⟩ : ∃ z, w2.alloc (.cells #[.int .i64 pf.kind, .int .i64 pf.table, .slice pf.es.A pf.es.n pf.es.c, .slice pf.cs.A pf.cs.n pf.cs.c, .slice pf.ks.A pf.ks.n pf.ks.c] 27) = z := ⟨_, rfl⟩
  obtain ⟨pb, hpb⟩ : ∃ n, w2.heap.size = n := ⟨_, rfl⟩
  have b3 : Below w2.heap.size w2 W3 := by rw [← hW3]; exact balloc (Below.refl _ _) _
  have hz1 := hb2.size
  have hzr := Hr1.out.lt
  have Hp3 := Lib.hid (show Row W3 pb 27 (fpC pf) by rw [← hW3, ← hpb]; exact Row.new _ _ _)
  have Hr3 := Lib.hid ((Hr1.out.only hb2 (by omega)).on b3)
  have HD3 := Lib.hid (show DrPW (b + 1) W3 pf px (.slice A2 ws.length d2) ws from (DrPW.only (b := b) (S := fun _ => False) (show DrPW w1.heap.size w2 pf px (.slice A2 ws.length d2) ws from ⟨hx2, how2, hwl, hwr⟩) (only_below b3) fun k hk => hk.elim).low (by omega))
  have HB3 := Lib.hid (bch (Only.from_ HB1.out rfl hb2 fun i (hi : i = b) => by omega) b3)
  have HR3 := Lib.hid (hR2.on b3)
  have hpb1 : b < pb := by omega
  have Hpb := Lib.hid hpb
  have HW3 := Lib.hid hW3
  have Hwr := Lib.hid hwr
  obtain ⟨hwl2, hwl3⟩ := hwl
  unfold maxLen at hc22
  clear hx2 how2 hs2 hwr hb2 hR2 hW3 hpb b3 hz1 hzr HPW hbl1
  go_upto_region 3 with fail
  rw [HW3.out, Hpb.out]
  obtain ⟨W4, hW4⟩ : ∃ z, W3.alloc (.cells #[] 31) = z := ⟨_, rfl⟩
  have b4 : Below W3.heap.size W3 W4 := by rw [← hW4]; exact balloc (Below.refl _ _) _
  have hl3 : b < W3.heap.size := HR3.out.lt
  have HO4 := Lib.hid (show FlW 31 W3.heap.size W4.heap.size W4 (.slice (some ⟨W3.heap.size, 0, none⟩) 0 0) [] from
    ⟨[], rfl, by rw [← hW4]; exact Ow.lit (xs := ([] : List SV)) rfl rfl (Nat.le_refl _) (by decide), fun i s r h => by simp at h⟩)
  have HR4 := Lib.hid (HR3.out.on b4)
  have HB4 := Lib.hid (show But b W3 W4 from only_below b4)
  have HW4 := Lib.hid hW4
  clear hW4 b4
  go_upto_region 4 with fail
  rw [HW4.out]
  go_wp2
  go_loopg [8, 9] ws.length (fun g v iv wr => ∃ (i z : Nat) (rs : List (List Bool)), i ≤ ws.length ∧ g = ws.length - i ∧ iv = .int .i64 i ∧ rs.length = i ∧ (∀ r ∈ rs, r.length ≤ 7) ∧ z ≤ wr.heap.size ∧ FlW 31 W3.heap.size z wr v rs ∧ But b W3 wr ∧ Rd wr b (pwC + 8 * i))
  case atStart => exact ⟨0, _, [], by omega, by omega, rfl, rfl, fun r h => by simp at h, Nat.le_refl _, HO4.out, HB4.out, HR4.out.mono (by omega)⟩
  case round =>
    obtain ⟨i, z, rs, hi, rfl, rfl, hrl, hr7, hz, hfw, hb, hR⟩ := hrel
    have HFW := Lib.hid hfw
    have HB := Lib.hid hb
    have HRd := Lib.hid hR
    have Hcr := Lib.hid hrl
    have HR7 := Lib.hid hr7
    have HZ := Lib.hid hz
    have hsz := hb.size
    have hrlt := hR.lt
    obtain ⟨A8, c8, rfl, hc81, hc82⟩ := hfw.shape
    have HC8 := Lib.hid (And.intro hc81 hc82)
    clear hfw hb hR hr7 hz hrl
    by_cases hil : i < ws.length
    · have hiI : (i : Int) < (ws.length : Int) := by omega
      obtain ⟨W5, hW5⟩ : ∃ z, wr.alloc (.cells #[] 4) = z := ⟨_, rfl⟩
      have hb5 : Below wr.heap.size wr W5 := by rw [← hW5]; exact balloc (Below.refl _ _) _
      have HB5 := Lib.hid (HB.out.below hb5)
      have HB5w := Lib.hid (show But b wr W5 from only_below hb5)
      have HR5 := Lib.hid (HRd.out.on hb5)
      have HF5 := Lib.hid (HFW.out.only (S := fun _ => False) (only_below hb5) fun k h => h.elim)
      have HO5 := Lib.hid (show Ow wr.heap.size 4 1 boolC W5 (.slice (some ⟨wr.heap.size, 0, none⟩) 0 0) ([] : List Bool) by rw [← hW5]; exact Ow.lit (xs := ([] : List Bool)) rfl rfl (Nat.le_refl _) (by decide))
      have hbw5 : b < wr.heap.size := hrlt
      have hs5 : W5.heap.size = wr.heap.size + 1 := by rw [← hW5]; simp
      have HW5 := Lib.hid hW5
      have hwi := Hwr.out _ (List.getElem_mem hil)
      obtain ⟨m, hm⟩ : ∃ m : Nat, ws[i] = (m : Int) := Int.eq_ofNat_of_zero_le hwi.1
      have hm7 : m ≤ 7 := by omega
      have HMI := Lib.hid (fun (z : World) (hz : But b W3 z) => show ∃ b2 o2, A2 = some ⟨b2, o2, none⟩ ∧ z.cell? ⟨b2, o2 + i, none⟩ = some (.int .i64 (m : Int)) from by
        obtain ⟨_, hd, _, _⟩ := DrPW.only (b := b) HD3.out hz fun k (hk : k = b) => by omega
        obtain ⟨A', c', hv, _, _, hsl⟩ := hd.shape intC_length
        cases hv
        obtain ⟨b2, o2, h1, _, h2⟩ := Ints.at_ hsl.sl hil
        rw [hm] at h2
        exact ⟨b2, o2, h1, h2⟩)
      obtain ⟨b2, o2, hA2, _⟩ := HMI.out _ HB5.out
      obtain ⟨lo5, hlo5⟩ : ∃ n, wr.heap.size = n := ⟨_, rfl⟩
      have Hlo5 := Lib.hid hlo5
      clear hW5 hb5 hwi hm
      go_upto_region 8 with fail
      rw [HW5.out]
      rw [hlo5] at HO5 hbw5 hs5
      try rw [hlo5]
      clear hlo5
      subst hA2
      go_wp2
      go_loopg [10, 11] m (fun g v kv wt => ∃ (k : Nat) (bs : List Bool), k ≤ m ∧ g = m - k ∧ kv = .int .i64 k ∧ bs.length = k ∧ Ow lo5 4 1 boolC wt v bs ∧ But b wr wt ∧ Rd wt b (pwC + 8 * i + k))
      case atStart => exact ⟨0, [], by omega, by omega, rfl, rfl, HO5.out, HB5w.out, HR5.out.mono (by omega)⟩
      case round =>
        obtain ⟨k, bs, hk, rfl, rfl, hbl, how, hb, hR⟩ := hrel
        have HO := Lib.hid how
        have HBi := Lib.hid hb
        have HRi := Lib.hid hR
        have Hbl := Lib.hid hbl
        have hszi := hb.size
        have hBW : But b W3 wr := HB.out.trans hb
        obtain ⟨b2', o2', hA2', hc2⟩ := HMI.out _ hBW
        cases hA2'
        clear how hb hR hbl
        have HBW := Lib.hid hBW
        clear hBW
        by_cases hkl : k < m
        · have hkI : (k : Int) < (m : Int) := by omega
          have HON := Lib.hid (pick_ok b _ 2 wr HRi.out (by have := Hpw.out; omega))
          go_wp2_with fail
          refine HON.out.mono ?_
          rintro e w5 ⟨kk, rfl, hkk, hb6, hsz6, hR6⟩
          obtain ⟨qb, hqb⟩ : ∃ q, (kk == 0) = q := ⟨_, rfl⟩
          obtain ⟨U, hU⟩ : ∃ z, w5.alloc (.cells #[.bool qb] 4) = z := ⟨_, rfl⟩
          have hub : Below w5.heap.size w5 U := by rw [← hU]; exact balloc (Below.refl _ _) _
          have HB6 := Lib.hid ((HBi.out.trans hb6).below hub)
          have HO6 := Lib.hid ((HO.out.only hb6 fun k (hk : k = b) => .inl (by omega)).on hub)
          have HR6 := Lib.hid (hR6.on hub)
          have HS6 := Lib.hid (show Sl 1 boolC U U.heap.size (some ⟨w5.heap.size, 0, none⟩) [qb] by rw [← hU]; exact Row.sl' (t := 4) boolC_length ((Row.new w5 _ _).of rfl))
          have hsz7 : lo5 ≤ U.heap.size := by have := HB6.out.size; have := Hlo5.out; omega
          have HU := Lib.hid hU
          have hbl7 : bs.length ≤ 7 := by have := Hbl.out; omega
          clear hU hub hb6 hsz6 hR6 hkk
          go_wp2_with (at_builtin; rw [HU.out]; refine wpList_app rfl (.tmp 35) (.tmp 39) 31 rfl lo5 4 _ 1 1 boolC Try.underlying31 zeroBoolQ rfl (by decide) (by decide) boolC_length boolC_one _ bs rfl HO6.out (some ⟨w5.heap.size, 0, none⟩) 1 1 [qb] rfl rfl HS6.out (by simp; omega) hsz7 ?_; intro v' w' hown hgr)
          go_roundg (m - (k + 1))
          case measure => omega
          case rel =>
            exact ⟨k + 1, bs ++ [qb], by omega, rfl, by go_num, by rw [List.length_append, Hbl.out]; rfl, hown, HB6.out.grown hgr fun k hk => .inr (by have := (HO6.out.ty k hk).1; have := Hlo5.out; omega), (HR6.out.grown hgr fun k hk => by have := (HO6.out.ty k hk).1; omega).mono (by omega)⟩
        · have hkI : ¬ (k : Int) < (m : Int) := by omega
          obtain ⟨A10, c10, rfl, hc101, hc102, _⟩ := HO.out.shape boolC_length
          obtain ⟨U, hU⟩ : ∃ z, wr.alloc (.cells #[.slice A10 bs.length c10] 31) = z := ⟨_, rfl⟩
          have hub : Below wr.heap.size wr U := by rw [← hU]; exact balloc (Below.refl _ _) _
          have HFU := Lib.hid ((HFW.out.only HBi.out fun j (hj : j = b) => by omega).only (S := fun _ => False) (only_below hub) fun j h => h.elim)
          have HS6 := Lib.hid (show Sl 1 svC U U.heap.size (some ⟨wr.heap.size, 0, none⟩) [(⟨A10, bs.length, c10⟩ : SV)] by rw [← hU]; exact Row.sl' (t := 31) svC_length ((Row.new wr _ _).of rfl))
          have HBU := Lib.hid (HBi.out.below hub)
          have HRU := Lib.hid (HRi.out.on hub)
          have hlo := Hlo5.out
          have hsz8 : W3.heap.size ≤ U.heap.size := by have := HB.out.size; have := HBU.out.size; omega
          obtain ⟨hs, hsl, how0, h3⟩ := HFU.out
          obtain ⟨hs', hsl', how0', h3'⟩ := HFW.out
          have HX := Lib.hid (show SlS (fun k => W3.heap.size ≤ k ∧ (Value.slice A8 rs.length c8).ownBlock ≠ some k) 1 boolC U A10 bs from by
            refine (slS_ow boolC_length HO.out (S := fun k => lo5 ≤ k) fun k hk => (HO.out.ty k hk).1).mono (fun k _ hk => ⟨by have := HB.out.size; have hk : lo5 ≤ k := hk; omega, fun e => ?_⟩) |>.keep hub.size fun k _ hl => hub.block k hl
            have := (how0'.ty k e).2.1
            have hk : lo5 ≤ k := hk
            omega)
          have HU := Lib.hid hU
          have Hh := Lib.hid (And.intro hsl (And.intro how0 h3))
          have hhl : hs.length ≤ 3 := by rw [hsl, Hcr.out]; omega
          clear hU hub hsl how0 h3 hsl' how0' h3' hlo
          go_wp2_with (at_builtin; rw [HU.out]; refine wpList_app2 rfl (.tmp 41) (.tmp 43) 28 rfl W3.heap.size 31 _ 1 24 svC Try.underlying28 zeroRowQ rfl (by decide) (by decide) svC_length svC_one _ hs rfl Hh.out.2.1 (some ⟨wr.heap.size, 0, none⟩) 1 1 [(⟨A10, bs.length, c10⟩ : SV)] rfl rfl HS6.out (by simp; omega) hsz8 ?_; intro v' w' hown hgr hob)
          go_roundg (ws.length - (i + 1))
          case measure => omega
          case rel =>
            have hzU := HBU.out.size
            have hF := FlW.snoc (r := bs) Hh.out.1 Hh.out.2.1 Hh.out.2.2 (by have := HZ.out; omega) ⟨rfl, hc101, hc102⟩ HX.out hown hgr hob
            refine ⟨i + 1, U.heap.size, rs ++ [bs], by omega, rfl, by go_num, by rw [List.length_append, Hcr.out]; rfl, fun r hr => ?_, hgr.size, hF, (HB.out.trans HBU.out).grown hgr fun k hk => .inr (Hh.out.2.1.ty k hk).1, (HRU.out.grown hgr fun k hk => by have := (Hh.out.2.1.ty k hk).1; omega).mono (by omega)⟩
            rcases List.mem_append.1 hr with h | h
            · exact HR7.out r h
            · rw [List.mem_singleton.1 h, Hbl.out]; omega
    · have hiI : ¬ (i : Int) < (ws.length : Int) := by omega
      have hie : rs.length = ws.length := by have := Hcr.out; omega
      have Hie := Lib.hid hie
      clear hie
      go_wp2_with fail
      refine (pick_ok b _ 16 wr HRd.out (by have := Hpw.out; omega)).mono ?_
      rintro e w6 ⟨k, rfl, hk, hb6, hsz6, hR6⟩
      have HB6 := Lib.hid (HB.out.trans hb6)
      have HO6 := Lib.hid (HFW.out.only hb6 fun i (hi : i = b) => by omega)
      clear hk hb6 hsz6 hR6
      have hpZ := Hp3.out.only HB6.out (show ¬ pb = b by omega)
      have hrZ := Hr3.out.only HB6.out (show ¬ w.heap.size = b by omega)
      have HDZ := Lib.hid (DrPW.only (b := b) HD3.out HB6.out fun k (hk : k = b) => by omega)
      have HBZ := Lib.hid (Only.from_ (HB3.out) rfl HB6.out fun i (hi : i = b) => by omega)
      have hlp := (hpZ).lt
      have k0 : (w6).cell? ⟨pb, 0, none⟩ = some (.int .i64 pf.kind) := (hpZ).cell 0
      have k1 : (w6).cell? ⟨pb, 1, none⟩ = some (.int .i64 pf.table) := (hpZ).cell 1
      have k2 : (w6).cell? ⟨pb, 2, none⟩ = some (.slice pf.es.A pf.es.n pf.es.c) := (hpZ).cell 2
      have k3 : (w6).cell? ⟨pb, 3, none⟩ = some (.slice pf.cs.A pf.cs.n pf.cs.c) := (hpZ).cell 3
      have k4 : (w6).cell? ⟨pb, 4, none⟩ = some (.slice pf.ks.A pf.ks.n pf.ks.c) := (hpZ).cell 4
      have hlr := (hrZ).lt
      have c0 := (hrZ).cell 0
      have f0 := (hrZ).frozen 0
      have c1 := (hrZ).cell 1
      have f1 := (hrZ).frozen 1
      have c2 := (hrZ).cell 2
      have f2 := (hrZ).frozen 2
      have c3 := (hrZ).cell 3
      have f3 := (hrZ).frozen 3
      have c4 := (hrZ).cell 4
      have f4 := (hrZ).frozen 4
      have hc81 := HC8.out.1
      have hc82 := HC8.out.2
      unfold maxLen at hc82
      clear hpZ hrZ
      by_cases hk : k = 0
      · subst hk
        obtain ⟨hs, hsl, how0, h3⟩ := HO6.out
        have hsl2 : hs.length = ws.length := by rw [hsl]; exact Hie.out
        obtain ⟨g, rfl, hn', hg, hgl, _, hf, hcs⟩ := how0.head svC_length (by omega)
        have hw0 : (1 : Int) ≤ (rs.length : Int) := by have := Hie.out; omega
        have hw1 : (rs.length : Int) ≤ (c8 : Int) := by omega
        have hgb : g ≠ w.heap.size := by omega
        have hw2 : (1 : Int) < (c8 : Int) := by have := Hie.out; omega
        have hw3 : 1 < c8 := by have := Hie.out; omega
        clear hsl how0 h3 hsl2 hn' hf hcs
        go_wp2
        refine bodyPost_ret (v := .tuple #[fpV pf, .slice A2 ws.length d2, .slice (some ⟨g, 1, none⟩) (rs.length - 1) (c8 - 1)]) (by simp [results, Try.results5, go_sem, fpV, c0, c1, c2, c3, c4]) rfl ?_
        have h5 := set5 w6 w.heap.size (.int .i64 pf.kind) (.int .i64 pf.table) (.slice pf.es.A pf.es.n pf.es.c) (.slice pf.cs.A pf.cs.n pf.cs.c) (.slice pf.ks.A pf.ks.n pf.ks.c)
        have hF := (HO6.out.only h5 fun k (hk : k = w.heap.size) => by omega).in_.tail 1
        exact ⟨pf, px, _, ws, some ⟨g, 1, none⟩, c8 - 1, rs.drop 1, by rw [List.length_drop], (DrPW.only (b := b) HDZ.out h5 fun k (hk : k = w.heap.size) => by omega).low (by omega), hF, ⟨by rw [List.length_drop]; have := Hie.out; omega, fun r hr => HR7.out r (List.mem_of_mem_drop hr)⟩, by rw [List.length_drop]; omega, by unfold maxLen; omega, set5_below HBZ.out (Nat.le_refl _) _ _ _ _ _⟩
      · have hk' : (k == 0) = false := by simpa using hk
        go_wp2
        refine bodyPost_ret (v := .tuple #[fpV pf, .slice A2 ws.length d2, .slice A8 rs.length c8]) (by simp [results, Try.results5, go_sem, fpV, c0, c1, c2, c3, c4]) rfl ?_
        have h5 := set5 w6 w.heap.size (.int .i64 pf.kind) (.int .i64 pf.table) (.slice pf.es.A pf.es.n pf.es.c) (.slice pf.cs.A pf.cs.n pf.cs.c) (.slice pf.ks.A pf.ks.n pf.ks.c)
        have hF := (HO6.out.only h5 fun k (hk : k = w.heap.size) => by omega).in_
        exact ⟨pf, px, _, ws, _, c8, rs, rfl, (DrPW.only (b := b) HDZ.out h5 fun k (hk : k = w.heap.size) => by omega).low (by omega), hF, ⟨by have := Hie.out; omega, HR7.out⟩, hc81, by unfold maxLen; omega, set5_below HBZ.out (Nat.le_refl _) _ _ _ _ _⟩
end Go.Proofs.Ytcbfbgngkdiijaa
