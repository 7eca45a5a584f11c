/-
  FnExactSortRows returns true for all arguments and leaves them as they were. No condition.
-/
import Derived.Test.YtldndapcbgaliaaRows
import Derived.OpenShut
import Derived.Deep.RegionHeld3
import Derived.Deep.DeepCutAuto
import Derived.Test.YtldndapcbgaliaaTop
import Derived.Test.YtldndapcbgaliaaTopS
import Derived.Test.YtldndapcbgaliaaHel
import Derived.Test.YtldndapcbgaliaaTwo
import Derived.Test.YtldndapcbgaliaaMkK
import Derived.Test.YtldndapcbgaliaaArg
import Derived.Test.YtldndapcbgaliaaArgT
namespace Go.Proofs.Ytldndapcbgaliaa
open Go.RowKit Go.Qo
open Go.ChangeShapes Go.WideShapes Go.ChangeAt
set_option linter.unusedVariables false
set_option linter.unusedSimpArgs false

theorem szKeyI (A : Option Addr) (xs : List Key) (c : Nat) (left : Int) (w : World) (hn : xs.length ≤ maxLen) (h0 : 0 ≤ left) (h1 : left ≤ 1048576) (r : Int) (hr : (if left - xs.length < 0 then -1 else left - xs.length) = r) :
    Calls Try.prog 37 #[.slice A xs.length c, .int .i64 left] w fun e w' => e = .returned (.int .i64 r) ∧ w = w' := hr ▸ szSortKeyS_ok A xs.length c left w hn h0 h1
theorem outOk {W : Int} {rows out : List Row1} {keys : List Key} {d : Bool} {n : Nat} (hd : d = true → TabOk W rows ∧ KeysOk W keys) (h : (if d then (sortK keys rows).take n else []) = out) : out.length ≤ 400 ∧ ∀ r ∈ out, r.length ≤ 16 := by
  cases d
  · subst h; simp
  · obtain ⟨hT, hk⟩ := hd rfl
    simp only [if_true] at h
    have hr := tabRows1 hT
    have hp := sortK_perm hk.1 hr
    refine ⟨by rw [← h, List.length_take, sortK_length]; have := hT.2.2.1; omega, fun r hq => ?_⟩
    rw [← h] at hq
    have := (rowValid_len (hr r (hp.mem_iff.1 (List.mem_of_mem_take hq))).1).2
    omega

set_option maxRecDepth 20000 in
set_option maxHeartbeats 4000000 in
theorem FnExactSortRows_walk (W : Int) (A : Option Addr) (c : Nat) (xs : List Row1) (A' : Option Addr) (c' : Nat) (ys : List Key) (w : World) (hn : xs.length ≤ maxLen) (h : Rws w w.heap.size A xs) (hn' : ys.length ≤ maxLen) (h' : Sl 2 keyC w w.heap.size A' ys) :
    Calls Try.prog 11 #[.agg #[.int .i64 W, .slice A xs.length c], .slice A' ys.length c'] w fun e w' => e = .returned (.bool true) ∧ Below w.heap.size w w' := by
  obtain ⟨l, hl⟩ : ∃ l, szR 1048576 xs = l := ⟨_, rfl⟩
  obtain ⟨W0, hW0⟩ : ∃ W2, w.alloc (.cells #[.int .i64 W, .slice A xs.length c] 46) = W2 := ⟨_, rfl⟩
  have HWE := Lib.hid hW0
  have hB2 : Below w.heap.size w W0 := by rw [← hW0]; exact balloc (Below.refl _ _) _
  have hRa : Row W0 w.heap.size 46 [.int .i64 W, .slice A xs.length c] := by rw [← hW0]; exact Row.new _ _ _
  have HW := Lib.hid (And.intro hB2 hRa)
  have K1 := Lib.hid (fun (z : World) (hz : Below w.heap.size w z) => szTable_ok W A c xs 1048576 z hn (by omega) (by omega) (h.on hz) l hl)
  have BX := Lib.hid (fun (z : World) (hz : Below W0.heap.size W0 z) => show (z.cell? ⟨w.heap.size, 0, none⟩ = some (.int .i64 W) ∧ z.cell? ⟨w.heap.size, 1, none⟩ = some (.slice A xs.length c))
    from ⟨(HW.out.2.on hz).cell 0, (HW.out.2.on hz).cell 1⟩)
  have hr1 := szR_range xs 1048576 (by omega)
  rw [hl] at hr1
  have Hr1 := Lib.hid hr1
  have HH := Lib.hid (And.intro h h')
  clear hr1 hl hB2 hRa hW0 h h'
  have x0 := BX.out _ (Below.refl _ _)
  rcases Hr1.out with rfl | ⟨hl0, hl1, hx1, hx2⟩
  · go_enter Try.func11, Try.ntmps11
    go_upto_region 1 with fail
    rw [HWE.out]
    go_wp2_with fail
    refine (K1.out _ HW.out.1).mono ?_; rintro e w1 ⟨rfl, hb1⟩
    have H1 := Lib.hid (bch HW.out.1 hb1)
    clear hb1 x0
    go_wp2
    go_ret
    exact ⟨rfl, H1.out⟩
  · obtain ⟨m, hm⟩ : ∃ m, (if l - ys.length < 0 then -1 else l - ys.length) = m := ⟨_, rfl⟩
    have K2 := Lib.hid (fun z => szKeyI A' ys c' l z hn' hl0 hl1 m hm)
    have hm2 : m = -1 ∨ (0 ≤ m ∧ ys.length ≤ 1048576) := by split at hm <;> omega
    have Hm2 := Lib.hid hm2
    have HX := Lib.hid (show xs.length ≤ 1048576 ∧ (∀ r ∈ xs, r.length ≤ 1048576) from ⟨by omega, fun r hr => by have := hx2 r hr; omega⟩)
    clear hm2 hm hx1 hx2
    rcases Hm2.out with rfl | ⟨hm0, hy⟩
    · go_enter Try.func11, Try.ntmps11
      go_upto_region 1 with fail
      rw [HWE.out]
      go_wp2_with fail
      refine (K1.out _ HW.out.1).mono ?_; rintro e w1 ⟨rfl, hb1⟩
      have H1 := Lib.hid (bch HW.out.1 hb1)
      clear hb1 x0
      go_wp2_with fail
      refine (K2.out _).mono ?_; rintro e w2 ⟨rfl, rfl⟩
      go_wp2
      go_ret
      exact ⟨rfl, H1.out⟩
    · have hx := HX.out.1
      have HM := Lib.hid (fun r (hr : r ∈ xs) => show r.length ≤ maxLen by have := HX.out.2 r hr; unfold maxLen; omega)
      obtain ⟨d, hd⟩ : ∃ d : Bool, d = true ↔ (TabOk W xs ∧ KeysOk W ys) := ⟨_, @decide_eq_true_iff _ (Classical.propDecidable _)⟩
      obtain ⟨out, hout⟩ : ∃ out, (if d then sortK ys xs else []) = out := ⟨_, rfl⟩
      have HO := Lib.hid (outOk (W := W) (rows := xs) (out := out) (keys := ys) (d := d) (n := (sortK ys xs).length) (fun h => by have := hd.1 h; exact ⟨this.1, this.2⟩) (by rw [List.take_length]; exact hout))
      have Hd := Lib.hid hd
      have Hout := Lib.hid hout
      have T1 := Lib.hid (fun (z : World) (hz : Below W0.heap.size W0 z) => toTable_ok W A c xs z HX.out.1 HX.out.2 (HH.out.1.on (bch HW.out.1 hz)))
      have T2 := Lib.hid (fun (z : World) (hz : Below W0.heap.size W0 z) => toSortKeyS_ok A' c' ys z hy (HH.out.2.on (bch HW.out.1 hz)))
      have SP := Lib.hid (fun (z : World) (B3 b3 : Nat) (bs3 : List Nat) (b4 : Nat) (h3 : OwnRs valC 41 40 z B3 b3 bs3 xs []) (h4 : Row z b4 109 (ys.flatMap keyC)) =>
        hout ▸ specSortRowsT_ok W (some ⟨b3, 0, none⟩) (some ⟨b4, 0, none⟩) xs.length ys.length xs ys z hx hy (h3.svs (by omega) valC_length HM.out) (Row.sl' keyC_length h4) d hd)
      have IP := Lib.hid (fun (z : World) (B3 b3 : Nat) (bs3 : List Nat) (b4 : Nat) (h3 : OwnRs valC 41 40 z B3 b3 bs3 xs []) (h4 : Row z b4 109 (ys.flatMap keyC)) =>
        implSortRows0_ok W (some ⟨b3, 0, none⟩) (some ⟨b4, 0, none⟩) xs.length ys.length xs ys z hx hy (h3.svs (by omega) valC_length HM.out) (Row.sl' keyC_length h4) d hd out hout)
      clear hd hout
      go_enter Try.func11, Try.ntmps11
      go_upto_region 1 with fail
      rw [HWE.out]
      go_wp2_with fail
      refine (K1.out _ HW.out.1).mono ?_; rintro e w1 ⟨rfl, hb1⟩
      have H1 := Lib.hid hb1
      have x1 := BX.out _ hb1
      clear hb1 x0
      go_wp2_with fail
      refine (K2.out _).mono ?_; rintro e w2 ⟨rfl, rfl⟩
      obtain ⟨w2, hw2⟩ : ∃ w2 : World, w2 = w1 := ⟨_, rfl⟩
      subst hw2
      -- the reference's
      go_wp2_with fail
      refine (T1.out _ H1.out).mono ?_
      rintro e w3 ⟨b3, bs3, rfl, hb3, ho3⟩
      have H3 := Lib.hid (bch H1.out hb3)
      have O3 := Lib.hid ho3
      clear hb3 ho3 x1
      go_wp2_with fail
      refine (T2.out _ H3.out).mono ?_
      rintro e w4 ⟨rfl, hb4, hr4⟩
      have H4 := Lib.hid (bch H3.out hb4)
      have HS := Lib.hid (SP.out w4 _ _ _ _ (O3.out.on hb4) hr4)
      clear hb4 hr4
      go_wp2_with fail
      refine HS.out.mono ?_
      rintro e w5 ⟨v5, sv5, rfl, how5, hrt5, hb5⟩
      obtain ⟨A0, c0, rfl, _, _, _⟩ := how5.shape svC_length
      have hsl : sv5.length = out.length := hrt5.1
      rw [hsl] at how5 ⊢
      have H5 := Lib.hid (bch H4.out hb5)
      have R5 := Lib.hid (fun (z : World) (hz : Below w5.heap.size w5 z) => show Rws z z.heap.size A0 out from (rws_sv how5 (hrt5.low (Nat.zero_le _))).on hz)
      have x5 := BX.out _ H5.out
      clear hb5 how5 hrt5 hsl HS SP H1 H3 H4 O3
      -- the program's
      go_wp2_with fail
      refine (T1.out _ H5.out).mono ?_
      rintro e w6 ⟨b6, bs6, rfl, hb6, ho6⟩
      obtain ⟨W6, hW6⟩ : ∃ z, w6.alloc (.cells #[.int .i64 W, .slice (some ⟨b6, 0, none⟩) xs.length xs.length] 25) = z := ⟨_, rfl⟩
      have B6 : Below w6.heap.size w6 W6 := by rw [← hW6]; exact balloc (Below.refl _ _) _
      have R6 : Row W6 w6.heap.size 25 [.int .i64 W, .slice (some ⟨b6, 0, none⟩) xs.length xs.length] := by rw [← hW6]; exact Row.new _ _ _
      have hb6' : ∀ x ∈ bs6, w5.heap.size ≤ x ∧ x < w6.heap.size := fun x hx => ⟨(ho6.low x hx).1, by
        obtain ⟨i, hi⟩ := List.getElem?_of_mem hx
        have hil := (List.getElem?_eq_some_iff.1 hi).1
        rw [ho6.len] at hil
        exact (ho6.inner i x _ hi (List.getElem?_eq_getElem hil)).lt⟩
      have HBS := Lib.hid hb6'
      have H6 := Lib.hid (And.intro (bch hb6 B6) (And.intro R6 (And.intro (ho6.on B6) (And.intro hb6.size R6.lt))))
      have HW6 := Lib.hid hW6
      clear hb6 ho6 B6 R6 hb6' hW6 x5
      go_upto_region 10 with fail
      rw [HW6.out]
      go_wp2_with fail
      refine (T2.out _ (bch H5.out H6.out.1)).mono ?_
      rintro e w7 ⟨rfl, hb7, hr7⟩
      have hl7 := hr7.lt
      have H7 := Lib.hid (And.intro (bch H6.out.1 hb7) (And.intro (H6.out.2.1.on hb7) (And.intro (H6.out.2.2.1.on hb7) hr7)))
      have HI := Lib.hid (IP.out w7 _ _ _ _ H7.out.2.2.1 hr7)
      have y7 : w7.cell? ⟨w6.heap.size, 0, none⟩ = some (.int .i64 W) := H7.out.2.1.cell 0
      have y7' : w7.cell? ⟨w6.heap.size, 1, none⟩ = some (.slice (some ⟨b6, 0, none⟩) xs.length xs.length) := H7.out.2.1.cell 1
      clear hb7 hr7
      go_wp2_with fail
      refine HI.out.mono ?_
      rintro e w8 ⟨v8, cp, rfl, how8, hcp8, hcpm, hb8⟩
      obtain ⟨A8, c8, rfl, _, _, _⟩ := how8.shape svC_length
      rw [List.length_map] at how8 ⊢
      have hcl : cp.length = out.length := by rw [← hcpm, List.length_map]
      have HCP := Lib.hid (And.intro hcpm (And.intro hcl (show ∀ p ∈ cp, p.2.length ≤ 16 from fun p hp => HO.out.2 p.2 (by rw [← hcpm]; exact List.mem_map_of_mem hp))))
      have H8 := Lib.hid (And.intro (bch H7.out.1 hb8) (And.intro (H7.out.2.1.on hb8) (And.intro (H7.out.2.2.1.on hb8) (And.intro (H7.out.2.2.2.on hb8) (And.intro how8 hcp8)))))
      have hz78 := hb8.size
      have RC := Lib.hid (fun (z : World) (a1 : Ow w7.heap.size 41 1 svC z (.slice A8 cp.length c8) (cp.map (·.1))) (a2 : Cps w7.heap.size z cp) => show Rws z z.heap.size A8 out from HCP.out.1 ▸ rws_cp a1 a2)
      have hc400 : cp.length ≤ 400 := by rw [hcl]; exact HO.out.1
      have EQ := Lib.hid (fun (z : World) (a1 : Rws z z.heap.size A8 out) (a2 : Rws z z.heap.size A0 out) => show Calls Try.prog 41 #[.slice A8 cp.length c8, .slice A0 out.length c0] z (fun e w' => e = .returned (.bool true) ∧ Below z.heap.size z w') from by
        have := eqValueSS_ok A8 A0 c8 c0 out out z (by have := HO.out.1; unfold maxLen; omega) (by have := HO.out.1; unfold maxLen; omega) a1 a2
        rw [HCP.out.2.1]
        simpa using this)
      clear hb8 how8 hcp8 hcpm hcl HI y7 y7'
      go_wp2_with fail
      refine (EQ.out _ (RC.out _ H8.out.2.2.2.2.1 H8.out.2.2.2.2.2) (R5.out _ H8.out.1)).mono ?_
      rintro e w9 ⟨rfl, hb9⟩
      have H9 := Lib.hid (And.intro (bch H8.out.1 hb9) (And.intro (H8.out.2.1.on hb9) (And.intro (H8.out.2.2.1.on hb9) (And.intro (H8.out.2.2.2.1.on hb9) (And.intro (H8.out.2.2.2.2.1.on hb9) (H8.out.2.2.2.2.2.on hb9))))))
      have hz89 := hb9.size
      clear hb9
      have KF := Lib.hid (fun (z : World) (hz : Below w9.heap.size w9 z) => show (z.cell? ⟨w.heap.size, 0, none⟩ = some (.int .i64 W) ∧ z.cell? ⟨w.heap.size, 1, none⟩ = some (.slice A xs.length c) ∧ z.cell? ⟨w6.heap.size, 0, none⟩ = some (.int .i64 W) ∧ z.cell? ⟨w6.heap.size, 1, none⟩ = some (.slice (some ⟨b6, 0, none⟩) xs.length xs.length)) from ⟨(BX.out z (bch H5.out (bch H9.out.1 hz))).1, (BX.out z (bch H5.out (bch H9.out.1 hz))).2, (H9.out.2.1.on hz).cell 0, (H9.out.2.1.on hz).cell 1⟩)
      have HD := Lib.hid (show Below w9.heap.size w9 w9.drew from (Below.refl _ _).drew)
      have s9 := KF.out _ HD.out
      go_upto_region 14 with fail
      go_region_held3 (fun z => z.cell? ⟨w.heap.size, 0, none⟩ = some (.int .i64 W) ∧ z.cell? ⟨w.heap.size, 1, none⟩ = some (.slice A xs.length c) ∧ z.cell? ⟨w6.heap.size, 0, none⟩ = some (.int .i64 W) ∧ z.cell? ⟨w6.heap.size, 1, none⟩ = some (.slice (some ⟨b6, 0, none⟩) xs.length xs.length))
        (first | assumption | exact KF.out _ H10.out | exact KF.out _ H11.out)
        (first
          | (go_at_call 29; refine (T1.out _ (bch H5.out (bch H9.out.1 HD.out))).mono ?_; rintro e w10 ⟨b10, bs10, rfl, hb10, ho10⟩; have H10 := Lib.hid (bch HD.out hb10); have s10 := KF.out _ H10.out; have O10 := Lib.hid ho10; clear hb10 ho10)
          | (go_at_call 30; refine (eqTable_ok W W _ _ _ _ xs xs _ hn hn ((H9.out.2.2.1.on H10.out).svs (by omega) valC_length HM.out) (O10.out.svs (by omega) valC_length HM.out) true (by simp)).mono ?_; rintro e w11 ⟨rfl, hb11⟩; have H11 := Lib.hid (bch H10.out hb11); have s11 := KF.out _ H11.out; clear hb11))
      all_goals (
      go_wp2_with fail
      refine (T2.out _ (bch H5.out (bch H9.out.1 H11.out))).mono ?_
      rintro e w12 ⟨rfl, hb12, hr12⟩
      have H12 := Lib.hid (bch H11.out hb12)
      have HK := eqSortKeyS_ok (some ⟨W6.heap.size, 0, none⟩) (some ⟨w11.heap.size, 0, none⟩) ys.length ys.length ys ys w12 hn' hn' (Row.sl' keyC_length (H9.out.2.2.2.1.on H12.out)) (Row.sl' keyC_length hr12)
      rw [decide_eq_true rfl] at HK
      have HK := Lib.hid HK
      clear hb12 hr12 s9 s10 s11
      go_wp2_with fail
      refine HK.out.mono ?_
      rintro e w13 ⟨rfl, hb13⟩
      have H13 := Lib.hid (bch H12.out hb13)
      have s13 := KF.out _ H13.out
      clear hb13
      have M14 := Lib.hid (markTable2_ok W w5.heap.size b6 xs.length bs6 xs [] 1 w13 (by omega) (by omega) HX.out.1 HX.out.2 (H9.out.2.2.1.on H13.out))
      go_wp2_with fail
      refine M14.out.mono ?_
      rintro e w14 ⟨k14, rfl, hk0, hk1, hon14⟩
      have HZ := Lib.hid (show w5.heap.size ≤ w6.heap.size ∧ w6.heap.size < W6.heap.size ∧ W6.heap.size < w7.heap.size ∧ w7.heap.size ≤ w13.heap.size from ⟨H6.out.2.2.2.1, H6.out.2.2.2.2, hl7, by have := H13.out.size; omega⟩)
      have R14 := Lib.hid ((H9.out.2.2.2.1.on H13.out).only hon14 fun hx => by have := (HBS.out _ hx).2; have := HZ.out; omega)
      have F14 := Lib.hid (show Below w5.heap.size w5 w14 from Only.from_ (bch H9.out.1 H13.out) rfl hon14 fun i hi => (HBS.out i hi).1)
      have G14 := Lib.hid (show Ow w7.heap.size 41 1 svC w14 (.slice A8 cp.length c8) (cp.map (·.1)) ∧ Cps w7.heap.size w14 cp from
        ⟨(H9.out.2.2.2.2.1.on H13.out).only hon14 fun b hb => .inl (by have := (HBS.out b hb).2; have := HZ.out; omega), (H9.out.2.2.2.2.2.on H13.out).only hon14 fun b hb => .inl (by have := (HBS.out b hb).2; have := HZ.out; omega)⟩)
      have M15 := Lib.hid (markSortKeyS_ok W6.heap.size ys.length ys.length _ k14 w14 hk0 (by omega) hy R14.out (by rw [flat_length 2 keyC keyC_length]))
      have HK14 := Lib.hid (And.intro hk0 hk1)
      clear hon14 hk0 hk1 s13
      go_wp2_with fail
      refine M15.out.mono ?_
      rintro e w15 ⟨rfl, hon15⟩
      have hk15 : ¬ (k14 + 2 * (ys.length : Int) < 0) := by have := HK14.out; omega
      have F15 := Lib.hid (show Below w5.heap.size w5 w15 from Only.from_ F14.out rfl hon15 fun i hi => by subst hi; have := HZ.out; omega)
      have G15 := Lib.hid (show Ow w7.heap.size 41 1 svC w15 (.slice A8 cp.length c8) (cp.map (·.1)) ∧ Cps w7.heap.size w15 cp from
        ⟨G14.out.1.only hon15 fun b hb => .inl (by subst hb; exact hl7), G14.out.2.only hon15 fun b hb => .inl (by subst hb; exact hl7)⟩)
      clear hon15
      go_wp2_with fail
      refine (EQ.out _ (RC.out _ G15.out.1 G15.out.2) (R5.out _ F15.out)).mono ?_
      rintro e w16 ⟨rfl, hb16⟩
      have F16 := Lib.hid (bch F15.out hb16)
      have G16 := Lib.hid (And.intro (G15.out.1.on hb16) (G15.out.2.on hb16))
      clear hb16
      have M17 := markValueSSC_ok w7.heap.size w7.heap.size A8 c8 cp 1 w16 (by omega) (by omega) hc400 HCP.out.2.2 G16.out.1 G16.out.2
      have hml : mlen cp ≤ 16 * 400 := Nat.le_trans (mlen_le HCP.out.2.2) (Nat.mul_le_mul_left _ hc400)
      obtain ⟨mk, hmk⟩ : ∃ mk : Int, 1 + 2 * (mlen cp : Int) = mk := ⟨_, rfl⟩
      have hmk0 : ¬ (mk < 0) := by omega
      have hmkk : (mk != mk) = false := by simp
      rw [hmk] at M17
      have M17 := Lib.hid M17
      have HMK := Lib.hid hmk
      clear hml hmk
      go_wp2_with fail
      refine M17.out.mono ?_
      rintro e w17 ⟨rfl, how17, hcp17, hon17, _⟩
      have hin : ∀ i, (∃ p' ∈ cp, svB p'.1 = some i) → w7.heap.size ≤ i := fun i ⟨p', hp, hi⟩ => ((G16.out.2.1 p' hp).2.ty i hi).1
      have F17 := Lib.hid (show Below w5.heap.size w5 w17 from Only.from_ F16.out rfl hon17 fun i hi => by have := hin i hi; have := HZ.out; omega)
      have G17 := Lib.hid (And.intro how17 hcp17)
      clear how17 hcp17 hon17 hin
      have M18 := Lib.hid (fun (z : World) (hz : Below w17.heap.size w17 z) => heldValueSS_ok w7.heap.size w7.heap.size A8 c8 cp 1 z (by omega) (by omega) hc400 HCP.out.2.2 (G17.out.1.on hz) (G17.out.2.on hz))
      rw [HMK.out] at M18
      go_wp2_with fail
      refine (M18.out _ (Below.refl _ _)).mono ?_
      rintro e w18 ⟨rfl, hb18⟩
      have H18 := Lib.hid hb18
      have F18 := Lib.hid (bch F17.out hb18)
      have x18 := BX.out _ (bch H5.out F18.out)
      clear hb18
      go_wp2_with fail
      refine (T1.out _ (bch H5.out F18.out)).mono ?_
      rintro e w19 ⟨b19, bs19, rfl, hb19, ho19⟩
      have H19 := Lib.hid (bch H18.out hb19)
      have F19 := Lib.hid (bch F18.out hb19)
      have O19 := Lib.hid ho19
      clear hb19 ho19 x18
      go_wp2_with fail
      refine (T2.out _ (bch H5.out F19.out)).mono ?_
      rintro e w20 ⟨rfl, hb20, hr20⟩
      have H20 := Lib.hid (bch H19.out hb20)
      have F20 := Lib.hid (bch F19.out hb20)
      have HI := Lib.hid (IP.out w20 _ _ _ _ (O19.out.on hb20) hr20)
      clear hb20 hr20
      go_wp2_with fail
      refine HI.out.mono ?_
      rintro e w21 ⟨v21, cp1, rfl, how21, hcp21, hcpm1, hb21⟩
      obtain ⟨A9, c9, rfl, _, _, _⟩ := how21.shape svC_length
      rw [List.length_map] at how21 ⊢
      have hcl1 : cp1.length = out.length := by rw [← hcpm1, List.length_map]
      have F21 := Lib.hid (bch F20.out hb21)
      have H21 := Lib.hid (bch H20.out hb21)
      have R21 := Lib.hid (show Rws w21 w21.heap.size A9 out from hcpm1 ▸ rws_cp how21 hcp21)
      have EQ2 := Lib.hid (show Calls Try.prog 41 #[.slice A9 cp1.length c9, .slice A0 out.length c0] w21 (fun e w' => e = .returned (.bool true) ∧ Below w21.heap.size w21 w') from by
        have := eqValueSS_ok A9 A0 c9 c0 out out w21 (by have := HO.out.1; unfold maxLen; omega) (by have := HO.out.1; unfold maxLen; omega) R21.out (R5.out _ F21.out)
        rw [hcl1]
        simpa using this)
      clear hb21 how21 hcp21 hcpm1 hcl1
      go_wp2_with fail
      refine EQ2.out.mono ?_
      rintro e w22 ⟨rfl, hb22⟩
      have H22 := Lib.hid (bch H21.out hb22)
      have F22 := Lib.hid (bch F21.out hb22)
      clear hb22
      go_wp2_with fail
      refine (M18.out _ H22.out).mono ?_
      rintro e w23 ⟨rfl, hb23⟩
      have F23 := Lib.hid (bch F22.out hb23)
      clear hb23
      go_wp2
      go_ret
      exact ⟨rfl, bch HW.out.1 (bch H5.out F23.out)⟩)

namespace lawFnExactSortRows
theorem own : ownKnob Try.prog.godebug = none := by kernel_rfl
theorem laidOut : laidOutB Try.prog = true := by kernel_rfl
theorem valTypes : ValTypes Try.prog 144 4 3 := ⟨⟨_, _, Try.underlying144, rfl, rfl, rfl, rfl⟩, Try.underlying4, Try.underlying3, by kernel_rfl, by kernel_rfl, by kernel_rfl⟩

set_option maxRecDepth 100000 in
theorem lifted (os : Os) (started : os.Started) (H : Type) (enc : TypeId × Value → H) :
    ReturnsInHanded {} Try.checked os 11 .any (Rows.fnExactSortRowsSpec.pre6 enc Try.prog Try.f11 Rows.fnExactSortRowsRow.domain false) (Rows.fnExactSortRowsSpec.post enc Try.prog Try.f11 false true false false) := by
  refine returnsInHanded_of_change (C := Try.checked) own started (by kernel_rfl) Try.func11
    (ChangeSpec.witness6 (enc := enc) (C := Try.checked) false ⟨#[], #[.agg #[.int .i64 0, .slice none 0 0], .slice none 0 0], []⟩ 8 (by kernel_rfl) (by kernel_rfl) (by kernel_rfl) (by kernel_rfl)) ?_
  intro W base args ds gs before hval0 hW hcnd _
  have hval : ∀ (j : Nat) t v, Try.f11.params[j]? = some t → args[j]? = some v → Value.okWide Try.prog W .any base t v := hval0
  have hW' := hW
  obtain ⟨p, q, hA0, hV, rfl, hfz, hnd⟩ := hW
  have hA : DataW.TrodAll enc Try.prog W 0 (fun _ => true) true Try.f11.params.toList args.toList ds p := hA0
  rw [Try.params11] at hA hval
  obtain ⟨v0, vs0, d0, ds0, p0, q0, hargs, rfl, rfl, h0, r0⟩ := trodAll_cons hA
  obtain ⟨v1, vs1, d1, ds1, p1, q1, rfl, rfl, rfl, h1, r1⟩ := trodAll_cons r0
  obtain ⟨rfl, rfl, rfl⟩ := trodAll_nil r1
  obtain rfl : args = #[v0, v1] := by cases args; simp_all
  obtain ⟨rfl, rfl⟩ := trodVars_none hV
  obtain ⟨cs0, rfl, hz0⟩ := okWide_struct Try.underlying46 (hval 0 46 v0 rfl rfl)
  obtain ⟨cs0⟩ := cs0
  obtain ⟨a1, len1, c1, rfl⟩ := okWide_slice Try.underlying55 (hval 1 55 v1 rfl rfl)
  have k0 := h0
  have lt0 : ∀ x ∈ p0, x.block < W.heap.size := by obtain ⟨m, hm⟩ := k0; exact DataW.trod_lt m _ _ _ hm
  obtain ⟨f0, h0⟩ := h0
  have k1 := h1
  have lt1 : ∀ x ∈ p1, x.block < W.heap.size := by obtain ⟨m, hm⟩ := k1; exact DataW.trod_lt m _ _ _ hm
  obtain ⟨f1, h1⟩ := h1
  obtain ⟨W0, a0, c0, xs0, hcs0, _, hc0, hm0, s0⟩ := open_tab valTypes Try.underlying44 Try.underlying128 (by kernel_rfl) (by kernel_rfl) ⟨_, _, Try.underlying46, rfl, rfl, rfl, rfl⟩ (hz0.trans (by kernel_rfl)) h0
  have hcs0 : cs0 = [.int .i64 W0, .slice a0 xs0.length c0] := hcs0
  subst hcs0
  obtain ⟨xs1, rfl, hc1, hm1, _, s1⟩ := open_sl (sz := 2) (ec := keyC) Try.underlying55 (by kernel_rfl) (by omega) keyC_length
    (el_int_bool Try.underlying111 rfl rfl (by kernel_rfl) (by kernel_rfl) Try.underlying3 Try.underlying4) h1
  clear hA0 hval0
  refine (FnExactSortRows_walk W0 a0 c0 xs0 a1 c1 xs1 W (Nat.le_trans hc0 hm0) s0 (Nat.le_trans hc1 hm1) s1).mono fun e W' ⟨he, bel⟩ => ?_
  subst he
  exact ⟨_, rfl, _, _, _, [], _, [], hW', trodAll_mk1 (shut_bool Try.underlying4 _), (trodAll_cons_mk (Below.trod laidOut (by kernel_rfl) (of_decide_eq_true (by kernel_rfl)) k0 bel lt0) (trodAll_cons_mk (Below.trod laidOut (by kernel_rfl) (of_decide_eq_true (by kernel_rfl)) k1 bel lt1) trodAll_mk0)), rfl, bel.frame _, fun h => by cases h⟩

theorem over : Rows.fnExactSortRowsRow.holds Try.pinned (OpenSpec.ofChange Rows.fnExactSortRowsSpec) :=
  OpenClaim.holds_of_wide 11 Try.f11 rfl rfl rfl rfl rfl rfl rfl ⟨rfl, rfl, rfl, rfl, rfl⟩ rfl rfl rfl rfl rfl (by kernel_rfl) Try.func11 (by kernel_rfl)
    (of_decide_eq_true (by kernel_rfl)) (by unfold Func.isWrapper; first | (rw [if_pos (by decide +kernel)]; kernel_rfl) | (rw [if_neg (by decide +kernel)]; exact ⟨rfl, rfl⟩))
    (fun os started H enc _ => lifted os started H enc)

theorem proved : Rows.FnExactSortRowsSaid := over
end lawFnExactSortRows
#print axioms lawFnExactSortRows.proved

end Go.Proofs.Ytldndapcbgaliaa
