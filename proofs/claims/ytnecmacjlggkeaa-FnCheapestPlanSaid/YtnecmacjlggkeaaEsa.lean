/-
  Several texts in one (EsP EsF EsQ EsT EsU EsV).
-/
import Derived.Test.YtnecmacjlggkeaaProg
import Derived.Test.YtnecmacjlggkeaaEsd
import Derived.Test.YtnecmacjlggkeaaEqP
/-
  Contracts: the permille that is estimated without statistics (both programs).
-/
namespace Go.Proofs.Ytnecmacjlggkeaa
open Go.RowKit Go.Qo
set_option linter.unusedVariables false
set_option linter.unusedSimpArgs false

theorem kid2 {width deep : Int} {e : Ex} (h : ExOk width deep e) (hk : e.kind = 6 ∨ e.kind = 7 ∨ e.kind = 8 ∨ e.kind = 9) : e.kids.length = 2 := by
  have h1 := (exOk_iff.1 h).1
  unfold kidsK at h1
  rw [if_neg (by omega), if_neg (by omega), if_pos (by omega)] at h1
  omega
theorem kid1 {width deep : Int} {e : Ex} (h : ExOk width deep e) (hk : e.kind = 10 ∨ e.kind = 11) : e.kids.length = 1 := by
  have h1 := (exOk_iff.1 h).1
  unfold kidsK at h1
  rw [if_neg (by omega), if_pos (by omega)] at h1
  omega
theorem at0_kidE {f : Ex → Int} {ks : List Ex} {i : Nat} (h : i < ks.length) : at0 (ks.map f) i = f ks[i] := by
  unfold at0
  rw [List.getD_eq_getElem?_getD, List.getElem?_map, List.getElem?_eq_getElem h]
  rfl
theorem kidE_at {ks : List Ex} {i : Nat} (h : i < ks.length) : kidE ks i = ks[i] := by
  unfold kidE
  rw [List.getD_eq_getElem?_getD, List.getElem?_eq_getElem h]
  rfl
/-- Sums and products of permille stay in range. -/
theorem pm_mul {a b : Int} (ha : 0 ≤ a ∧ a ≤ 1000) (hb : 0 ≤ b ∧ b ≤ 1000) : IntKind.i64.wrap (a * b) = a * b ∧ IntKind.i64.wrap (a * b / 1000) = a * b / 1000 ∧ (a * b).tdiv 1000 = a * b / 1000 ∧ 0 ≤ a * b := by
  have h := mul_range ha hb
  exact ⟨IntWalk.i64_in _ (by omega), IntWalk.i64_in _ (by omega), Int.tdiv_eq_ediv_of_nonneg h.1, h.1⟩

def FxS (e : Ex) : Prop := ∀ (f : FE) (w : World) (width deep R : Int), ExIn w w.heap.size f e → ExOk width deep e → e.fixed = R →
  Calls Try.prog 49 #[feV f] w fun e w' => e = .returned (.int .i64 R) ∧ Below w.heap.size w w'
set_option maxRecDepth 20000 in
set_option maxHeartbeats 4000000 in
theorem specFixed_ok : ∀ x : Ex, FxS x := Ex.ind fun x ih f w width deep R h hok hr => by
  obtain ⟨a1, a2, a3, a4, a5, a6⟩ := h.flat
  obtain ⟨W1, hW1⟩ : ∃ z, w.alloc (.cells #[.int .i64 x.kind, .int .i64 x.col, .bool x.val.1, .int .i64 x.val.2, .slice f.sv.A x.kids.length f.sv.c] 39) = z := ⟨_, rfl⟩
  have B1 : Below w.heap.size w W1 := by rw [← hW1]; exact balloc (Below.refl _ _) _
  have r1 : Row W1 w.heap.size 39 [.int .i64 x.kind, .int .i64 x.col, .bool x.val.1, .int .i64 x.val.2, .slice f.sv.A x.kids.length f.sv.c] := by rw [← hW1]; exact Row.new _ _ _
  have HK := Lib.hid (fun (z : World) (hz : Below W1.heap.size W1 z) (i : Nat) (hi : i < x.kids.length) => (h.on (bch B1 hz)).kid hi)
  have c0 : W1.cell? ⟨w.heap.size, 0, none⟩ = some (.int .i64 x.kind) := r1.cell 0
  have c2 : W1.cell? ⟨w.heap.size, 2, none⟩ = some (.bool x.val.1) := r1.cell 2
  have c3 : W1.cell? ⟨w.heap.size, 3, none⟩ = some (.int .i64 x.val.2) := r1.cell 3
  have c4 : W1.cell? ⟨w.heap.size, 4, none⟩ = some (.slice f.sv.A x.kids.length f.sv.c) := r1.cell 4
  have hbw : w.heap.size < W1.heap.size := r1.lt
  have HB1 := Lib.hid B1
  have HW1 := Lib.hid hW1
  have HR := Lib.hid hr
  have HO := Lib.hid hok
  have IH := Lib.hid ih
  have he : R = topF x.kind x.val (x.kids.map Ex.fixed) := by rw [← hr]; exact fixed_eq x
  have He := Lib.hid he
  have hkm : x.kids.length ≤ 2 := hok.kids_le
  unfold feV
  rw [a1, a2, a3, a4]
  clear h hok hr ih a1 a2 a3 a4 a5 a6 B1 r1 hW1 he
  by_cases hk2 : x.kind = 2
  · have Hz := Lib.hid (show R = cstP x.val by rw [He.out]; unfold topF; rw [if_pos hk2])
    obtain ⟨nl, hnl⟩ : ∃ nl, x.val.1 = nl := ⟨_, rfl⟩
    obtain ⟨n, hn⟩ : ∃ n, x.val.2 = n := ⟨_, rfl⟩
    have Hc := Lib.hid (show cstP x.val = if nl = false ∧ n ≠ 0 then 1000 else 0 by unfold cstP; rw [hnl, hn])
    rw [hk2] at c0
    rw [hnl] at c2 ⊢
    rw [hn] at c3 ⊢
    rw [hnl, hn] at HW1
    clear hk2 hnl hn
    cases nl
    · by_cases hn0 : n = 0
      · have hn0' : (n == 0) = true := by simp [hn0]
        have Hv := Lib.hid (show R = 0 by rw [Hz.out, Hc.out, if_neg (by simp [hn0])])
        clear hn0
        go_enter Try.func49, Try.ntmps49
        go_upto_region 1 with fail
        rw [HW1.out]
        go_wp2
        go_ret
        exact ⟨ret_int Hv.out.symm, balloc HB1.out _⟩
      · have hn0' : (n == 0) = false := by simpa using hn0
        have Hv := Lib.hid (show R = 1000 by rw [Hz.out, Hc.out, if_pos ⟨rfl, hn0⟩])
        clear hn0
        go_enter Try.func49, Try.ntmps49
        go_upto_region 1 with fail
        rw [HW1.out]
        go_wp2
        go_ret
        exact ⟨ret_int Hv.out.symm, balloc HB1.out _⟩
    · have Hv := Lib.hid (show R = 0 by rw [Hz.out, Hc.out, if_neg (by simp)])
      go_enter Try.func49, Try.ntmps49
      go_upto_region 1 with fail
      rw [HW1.out]
      go_wp2
      go_ret
      exact ⟨ret_int Hv.out.symm, balloc HB1.out _⟩
  by_cases hk8 : x.kind = 8
  · have hkl : x.kids.length = 2 := kid2 HO.out (.inr (.inr (.inl hk8)))
    obtain ⟨b0, o0, g0, hA0, hb0, hat0, hg0⟩ := HK.out _ (Below.refl _ _) 0 (by omega)
    obtain ⟨b1, o1, g1, hA1, hb1, hat1, hg1⟩ := HK.out _ (Below.refl _ _) 1 (by omega)
    rw [hA0] at hA1
    cases hA1
    obtain ⟨m0, hm0⟩ : ∃ m, (x.kids[0]).fixed = m := ⟨_, rfl⟩
    obtain ⟨m1, hm1⟩ : ∃ m, (x.kids[1]).fixed = m := ⟨_, rfl⟩
    have hr0 : 0 ≤ m0 ∧ m0 ≤ 1000 := by rw [← hm0]; exact fixed_range _
    have hr1 : 0 ≤ m1 ∧ m1 ≤ 1000 := by rw [← hm1]; exact fixed_range _
    obtain ⟨p1, p2, p3, p4⟩ := pm_mul hr0 hr1
    have Hz := Lib.hid (show R = m0 * m1 / 1000 by
      rw [He.out]
      unfold topF
      rw [if_neg hk2, if_pos hk8, at0_kidE (show 0 < x.kids.length by omega), at0_kidE (show 1 < x.kids.length by omega), hm0, hm1])
    have HX0 := Lib.hid (fun z : Aft W1.heap.size W1 => IH.out _ (List.getElem_mem (show 0 < x.kids.length by omega)) g0 z.v width (deep - 1) m0 (hg0.on z.h) ((exOk_iff.1 HO.out).2.2.1 _ (List.getElem_mem _)) hm0)
    have HX1 := Lib.hid (fun z : Aft W1.heap.size W1 => IH.out _ (List.getElem_mem (show 1 < x.kids.length by omega)) g1 z.v width (deep - 1) m1 (hg1.on z.h) ((exOk_iff.1 HO.out).2.2.1 _ (List.getElem_mem _)) hm1)
    unfold feV at HX0 HX1
    obtain ⟨d0, d1, d2, d3, d4⟩ := hat0
    obtain ⟨k0, k1, k2, k3, k4⟩ := hat1
    simp only [Nat.zero_mul, Nat.add_zero, Nat.one_mul] at d0 d1 d2 d3 d4 k0 k1 k2 k3 k4
    rw [hA0] at c4
    rw [hk8] at c0
    have C4 := fun z : Aft W1.heap.size W1 => z.cell hbw c4
    have D0 := fun z : Aft W1.heap.size W1 => z.cell hb0 d0
    have D1 := fun z : Aft W1.heap.size W1 => z.cell hb0 d1
    have D2 := fun z : Aft W1.heap.size W1 => z.cell hb0 d2
    have D3 := fun z : Aft W1.heap.size W1 => z.cell hb0 d3
    have D4 := fun z : Aft W1.heap.size W1 => z.cell hb0 d4
    have K0 := fun z : Aft W1.heap.size W1 => z.cell hb0 k0
    have K1 := fun z : Aft W1.heap.size W1 => z.cell hb0 k1
    have K2 := fun z : Aft W1.heap.size W1 => z.cell hb0 k2
    have K3 := fun z : Aft W1.heap.size W1 => z.cell hb0 k3
    have K4 := fun z : Aft W1.heap.size W1 => z.cell hb0 k4
    have hkI0 : (0 : Int) < (x.kids.length : Int) := by omega
    have hkI1 : (1 : Int) < (x.kids.length : Int) := by omega
    clear hA0 hm0 hm1 hg0 hg1 hk8 hk2 d0 d1 d2 d3 d4 k0 k1 k2 k3 k4 c4 hkl
    go_enter Try.func49, Try.ntmps49
    go_upto_region 1 with fail
    rw [HW1.out]
    go_wp2
    refine wp_region_aft W1.heap.size (by kernel_rfl) (by kernel_rfl) ?_
    repeat (go_big_quiet_step (first | (go_at_call_of 49 (Value.agg #[.int .i64 g0.kind, .int .i64 g0.col, .bool g0.val.1, .int .i64 g0.val.2, .slice g0.sv.A g0.sv.n g0.sv.c]); exact Calls.aft (Nat.le_refl _) (HX0.out _)) | (go_at_call_of 49 (Value.agg #[.int .i64 g1.kind, .int .i64 g1.col, .bool g1.val.1, .int .i64 g1.val.2, .slice g1.sv.A g1.sv.n g1.sv.c]); exact Calls.aft (Nat.le_refl _) (HX1.out _))))
    refine wpQuiet_nil ?_
    intro w2 hw'
    obtain ⟨⟨_, hb2⟩, rfl⟩ := hw'
    go_wp2
    go_ret
    exact ⟨ret_int Hz.out.symm, bch HB1.out hb2⟩
  by_cases hk6 : x.kind = 6
  · have Hz := Lib.hid (show R = 100 by rw [He.out]; unfold topF; rw [if_neg hk2, if_neg hk8, if_pos hk6])
    rw [hk6] at c0
    clear hk2 hk8 hk6
    go_enter Try.func49, Try.ntmps49
    go_upto_region 1 with fail
    rw [HW1.out]
    go_wp2
    go_ret
    exact ⟨ret_int Hz.out.symm, HB1.out⟩
  · have Hz := Lib.hid (show R = 333 by rw [He.out]; unfold topF; rw [if_neg hk2, if_neg hk8, if_neg hk6])
    have hk2' : (x.kind == 2) = false := by simpa using hk2
    have hk8' : (x.kind == 8) = false := by simpa using hk8
    have hk6' : (x.kind == 6) = false := by simpa using hk6
    clear hk2 hk8 hk6
    go_enter Try.func49, Try.ntmps49
    go_upto_region 1 with fail
    rw [HW1.out]
    go_wp2
    go_ret
    exact ⟨ret_int Hz.out.symm, HB1.out⟩
end Go.Proofs.Ytnecmacjlggkeaa

/-
  Contract: the permille that is estimated without statistics (the program's).
-/
namespace Go.Proofs.Ytnecmacjlggkeaa
open Go.RowKit Go.Qo
set_option linter.unusedVariables false
set_option linter.unusedSimpArgs false

def FxI (e : Ex) : Prop := ∀ (f : FE) (b o : Nat) (w : World) (width deep R : Int), b < w.heap.size → FeAt w b o f → ExIn w w.heap.size f e → ExOk width deep e → e.fixed = R →
  Calls Try.prog 66 #[.pointer (some ⟨b, o, none⟩)] w fun e w' => e = .returned (.int .i64 R) ∧ Below w.heap.size w w'
set_option maxRecDepth 20000 in
set_option maxHeartbeats 4000000 in
theorem implFixed_ok : ∀ x : Ex, FxI x := Ex.ind fun x ih f b o w width deep R hbw hat h hok hr => by
  obtain ⟨a1, a2, a3, a4, a5, a6⟩ := h.flat
  obtain ⟨c0, c1, c2, c3, c4⟩ := hat
  rw [a1] at c0
  rw [a3] at c2 c3
  rw [a4] at c4
  have HK := Lib.hid (fun (z : World) (hz : Below w.heap.size w z) (i : Nat) (hi : i < x.kids.length) => (h.on hz).kid hi)
  have HR := Lib.hid hr
  have HO := Lib.hid hok
  have IH := Lib.hid ih
  have he : R = topF x.kind x.val (x.kids.map Ex.fixed) := by rw [← hr]; exact fixed_eq x
  have He := Lib.hid he
  have hkm : x.kids.length ≤ 2 := hok.kids_le
  clear h hok hr ih a1 a2 a3 a4 a5 a6 he c1
  by_cases hk2 : x.kind = 2
  · have Hz := Lib.hid (show R = cstP x.val by rw [He.out]; unfold topF; rw [if_pos hk2])
    obtain ⟨nl, hnl⟩ : ∃ nl, x.val.1 = nl := ⟨_, rfl⟩
    obtain ⟨n, hn⟩ : ∃ n, x.val.2 = n := ⟨_, rfl⟩
    have Hc := Lib.hid (show cstP x.val = if nl = false ∧ n ≠ 0 then 1000 else 0 by unfold cstP; rw [hnl, hn])
    rw [hk2] at c0
    rw [hnl] at c2
    rw [hn] at c3
    clear hk2 hnl hn
    cases nl
    · by_cases hn0 : n = 0
      · have hn0' : (n == 0) = true := by simp [hn0]
        have Hv := Lib.hid (show R = 0 by rw [Hz.out, Hc.out, if_neg (by simp [hn0])])
        clear hn0
        go_enter Try.func66, Try.ntmps66
        go_wp2
        go_ret
        exact ⟨ret_int Hv.out.symm, by first | exact Below.refl _ _ | exact balloc (Below.refl _ _) _⟩
      · have hn0' : (n == 0) = false := by simpa using hn0
        have Hv := Lib.hid (show R = 1000 by rw [Hz.out, Hc.out, if_pos ⟨rfl, hn0⟩])
        clear hn0
        go_enter Try.func66, Try.ntmps66
        go_wp2
        go_ret
        exact ⟨ret_int Hv.out.symm, by first | exact Below.refl _ _ | exact balloc (Below.refl _ _) _⟩
    · have Hv := Lib.hid (show R = 0 by rw [Hz.out, Hc.out, if_neg (by simp)])
      go_enter Try.func66, Try.ntmps66
      go_wp2
      go_ret
      exact ⟨ret_int Hv.out.symm, by first | exact Below.refl _ _ | exact balloc (Below.refl _ _) _⟩
  by_cases hk8 : x.kind = 8
  · have hkl : x.kids.length = 2 := kid2 HO.out (.inr (.inr (.inl hk8)))
    obtain ⟨b0, o0, g0, hA0, hb0, hat0, hg0⟩ := HK.out _ (Below.refl _ _) 0 (by omega)
    obtain ⟨b1, o1, g1, hA1, hb1, hat1, hg1⟩ := HK.out _ (Below.refl _ _) 1 (by omega)
    rw [hA0] at hA1
    cases hA1
    obtain ⟨m0, hm0⟩ : ∃ m, (x.kids[0]).fixed = m := ⟨_, rfl⟩
    obtain ⟨m1, hm1⟩ : ∃ m, (x.kids[1]).fixed = m := ⟨_, rfl⟩
    have hr0 : 0 ≤ m0 ∧ m0 ≤ 1000 := by rw [← hm0]; exact fixed_range _
    have hr1 : 0 ≤ m1 ∧ m1 ≤ 1000 := by rw [← hm1]; exact fixed_range _
    obtain ⟨p1, p2, p3, p4⟩ := pm_mul hr0 hr1
    have Hz := Lib.hid (show R = m0 * m1 / 1000 by
      rw [He.out]
      unfold topF
      rw [if_neg hk2, if_pos hk8, at0_kidE (show 0 < x.kids.length by omega), at0_kidE (show 1 < x.kids.length by omega), hm0, hm1])
    obtain ⟨o1, ho1⟩ : ∃ o1, o0 + 5 = o1 := ⟨_, rfl⟩
    have hat0' := fun z : Aft w.heap.size w => show FeAt z.v b0 o0 g0 from by have hh := hat0; simp only [Nat.zero_mul, Nat.add_zero] at hh; exact ⟨z.cell hb0 hh.1, z.cell hb0 hh.2.1, z.cell hb0 hh.2.2.1, z.cell hb0 hh.2.2.2.1, z.cell hb0 hh.2.2.2.2⟩
    have hat1' := fun z : Aft w.heap.size w => show FeAt z.v b0 o1 g1 from by have hh := hat1; simp only [Nat.one_mul] at hh; rw [ho1] at hh; exact ⟨z.cell hb0 hh.1, z.cell hb0 hh.2.1, z.cell hb0 hh.2.2.1, z.cell hb0 hh.2.2.2.1, z.cell hb0 hh.2.2.2.2⟩
    have HX0 := Lib.hid (fun z : Aft w.heap.size w => IH.out _ (List.getElem_mem (show 0 < x.kids.length by omega)) g0 b0 o0 z.v width (deep - 1) m0 (Nat.lt_of_lt_of_le hb0 z.h.size) (hat0' z) (hg0.on z.h) ((exOk_iff.1 HO.out).2.2.1 _ (List.getElem_mem _)) hm0)
    have HX1 := Lib.hid (fun z : Aft w.heap.size w => IH.out _ (List.getElem_mem (show 1 < x.kids.length by omega)) g1 b0 o1 z.v width (deep - 1) m1 (Nat.lt_of_lt_of_le hb0 z.h.size) (hat1' z) (hg1.on z.h) ((exOk_iff.1 HO.out).2.2.1 _ (List.getElem_mem _)) hm1)
    obtain ⟨d0, d1, d2, d3, d4⟩ := hat0
    obtain ⟨k0, k1, k2, k3, k4⟩ := hat1
    simp only [Nat.zero_mul, Nat.add_zero, Nat.one_mul] at d0 d1 d2 d3 d4 k0 k1 k2 k3 k4
    rw [ho1] at k0 k1 k2 k3 k4
    rw [hA0] at c4
    rw [hk8] at c0
    have C4 := fun z : Aft w.heap.size w => z.cell hbw c4
    have D0 := fun z : Aft w.heap.size w => z.cell hb0 d0
    have D1 := fun z : Aft w.heap.size w => z.cell hb0 d1
    have D2 := fun z : Aft w.heap.size w => z.cell hb0 d2
    have D3 := fun z : Aft w.heap.size w => z.cell hb0 d3
    have D4 := fun z : Aft w.heap.size w => z.cell hb0 d4
    have K0 := fun z : Aft w.heap.size w => z.cell hb0 k0
    have K1 := fun z : Aft w.heap.size w => z.cell hb0 k1
    have K2 := fun z : Aft w.heap.size w => z.cell hb0 k2
    have K3 := fun z : Aft w.heap.size w => z.cell hb0 k3
    have K4 := fun z : Aft w.heap.size w => z.cell hb0 k4
    have hkI0 : (0 : Int) < (x.kids.length : Int) := by omega
    have hkI1 : (1 : Int) < (x.kids.length : Int) := by omega
    clear hat0' hat1' hA0 hm0 hm1 hg0 hg1 hk8 hk2 d0 d1 d2 d3 d4 k0 k1 k2 k3 k4 c4 hkl
    go_enter Try.func66, Try.ntmps66
    go_wp2
    refine wp_region_aft w.heap.size (by kernel_rfl) (by kernel_rfl) ?_
    repeat (go_big_quiet_step (first | (go_at_call_of 66 (Value.pointer (some ⟨b0, o0, none⟩)); exact Calls.aft (Nat.le_refl _) (HX0.out _)) | (go_at_call_of 66 (Value.pointer (some ⟨b0, o1, none⟩)); exact Calls.aft (Nat.le_refl _) (HX1.out _))))
    refine wpQuiet_nil ?_
    intro w2 hw'
    obtain ⟨⟨_, hb2⟩, rfl⟩ := hw'
    go_wp2
    go_ret
    exact ⟨ret_int Hz.out.symm, hb2⟩
  by_cases hk6 : x.kind = 6
  · have Hz := Lib.hid (show R = 100 by rw [He.out]; unfold topF; rw [if_neg hk2, if_neg hk8, if_pos hk6])
    rw [hk6] at c0
    clear hk2 hk8 hk6
    go_enter Try.func66, Try.ntmps66
    go_wp2
    go_ret
    exact ⟨ret_int Hz.out.symm, Below.refl _ _⟩
  · have Hz := Lib.hid (show R = 333 by rw [He.out]; unfold topF; rw [if_neg hk2, if_neg hk8, if_neg hk6])
    have hk2' : (x.kind == 2) = false := by simpa using hk2
    have hk8' : (x.kind == 8) = false := by simpa using hk8
    have hk6' : (x.kind == 6) = false := by simpa using hk6
    clear hk2 hk8 hk6
    go_enter Try.func66, Try.ntmps66
    go_wp2
    go_ret
    exact ⟨ret_int Hz.out.symm, Below.refl _ _⟩
end Go.Proofs.Ytnecmacjlggkeaa

/-
  Contracts: the permille that is estimated from statistics (the reference's).
-/
namespace Go.Proofs.Ytnecmacjlggkeaa
open Go.RowKit Go.Qo
set_option linter.unusedVariables false
set_option linter.unusedSimpArgs false

/-- Quotients stay in range. -/
theorem pm_quo {a b : Int} (ha : 0 ≤ a) (ha2 : a ≤ 400000) (hb : 0 < b) : IntKind.i64.wrap a = a ∧ a.tdiv b = a / b ∧ IntKind.i64.wrap (a / b) = a / b ∧ 0 ≤ a / b := by
  have h1 := Int.ediv_nonneg ha (Int.le_of_lt hb)
  have h2 := Int.ediv_le_self b ha
  exact ⟨IntWalk.i64_in _ (by omega), Int.tdiv_eq_ediv_of_nonneg ha, IntWalk.i64_in _ (by omega), h1⟩

set_option maxRecDepth 20000 in
set_option maxHeartbeats 2000000 in
theorem equality_ok (s : St) (fs : FS) (c : Nat) (w : World) (R : Int) (h : StIn w w.heap.size fs s) (hok : StOk s) (hc : c < s.dist.length) (hr : eqlP s c = R) :
    Calls Try.prog 72 #[fsV fs, .int .i64 c] w fun e w' => e = .returned (.int .i64 R) ∧ Below w.heap.size w w' := by
  obtain ⟨a1, ⟨a2, a2', a2''⟩, ⟨a3, a3', a3''⟩, a4, a5⟩ := h
  have hcn : c < s.nulls.length := by have := hok.1; omega
  obtain ⟨x, hx⟩ : ∃ x, s.dist[c] = x := ⟨_, rfl⟩
  obtain ⟨n, hn⟩ : ∃ n, s.nulls[c] = n := ⟨_, rfl⟩
  have hxd : s.dist.getD c 0 = x := by rw [List.getD_eq_getElem?_getD, List.getElem?_eq_getElem hc, hx]; rfl
  have hnd : s.nulls.getD c 0 = n := by rw [List.getD_eq_getElem?_getD, List.getElem?_eq_getElem hcn, hn]; rfl
  have hg := getD_stok hok c
  rw [hxd, hnd] at hg
  obtain ⟨⟨hn0, hn1⟩, hx0, hx1⟩ := hg
  have hrw : 0 ≤ s.rows ∧ s.rows ≤ 400 := by have := hok.1; omega
  obtain ⟨hr0, hr4⟩ := hrw
  unfold eqlP at hr
  rw [hxd, hnd] at hr
  obtain ⟨W1, hW1⟩ : ∃ z, w.alloc (.cells #[.int .i64 s.rows, .slice fs.dv.A s.dist.length fs.dv.c, .slice fs.nv.A s.nulls.length fs.nv.c] 33) = z := ⟨_, rfl⟩
  have B1 : Below w.heap.size w W1 := by rw [← hW1]; exact balloc (Below.refl _ _) _
  have r1 : Row W1 w.heap.size 33 [.int .i64 s.rows, .slice fs.dv.A s.dist.length fs.dv.c, .slice fs.nv.A s.nulls.length fs.nv.c] := by rw [← hW1]; exact Row.new _ _ _
  obtain ⟨bd, od, hAd, hBd, dd⟩ := (a4.on B1).at1 (f := Value.int .i64) hc
  obtain ⟨bn, on_, hAn, hBn, dn⟩ := (a5.on B1).at1 (f := Value.int .i64) hcn
  have c0 : W1.cell? ⟨w.heap.size, 0, none⟩ = some (.int .i64 s.rows) := r1.cell 0
  have c1 : W1.cell? ⟨w.heap.size, 1, none⟩ = some (.slice fs.dv.A s.dist.length fs.dv.c) := r1.cell 1
  have c2 : W1.cell? ⟨w.heap.size, 2, none⟩ = some (.slice fs.nv.A s.nulls.length fs.nv.c) := r1.cell 2
  have cl := r1.lt
  rw [hAd] at c1
  rw [hAn] at c2
  rw [hx] at dd
  rw [hn] at dn
  have hcI : (c : Int) < (s.dist.length : Int) := by omega
  have hcnI : (c : Int) < (s.nulls.length : Int) := by omega
  have HB1 := Lib.hid B1
  have HW1 := Lib.hid hW1
  have HR := Lib.hid hr
  have hdm : s.dist.length ≤ maxLen ∧ s.nulls.length ≤ maxLen := by omega
  unfold maxLen at hdm
  obtain ⟨hdm1, hdm2⟩ := hdm
  unfold fsV
  rw [a1, a2, a3]
  clear a1 a2 a2' a2'' a3 a3' a3'' a4 a5 B1 r1 hW1 hr hxd hnd hx hn hok hAd hAn
  by_cases hz : s.rows = 0
  · have hz' : (s.rows == 0) = true := by simp [hz]
    have Hz := Lib.hid (show R = 0 by rw [← HR.out, if_pos (.inl hz)])
    clear hz
    go_enter Try.func72, Try.ntmps72
    go_upto_region 1 with fail
    rw [HW1.out]
    go_wp2
    go_ret
    exact ⟨ret_int Hz.out.symm, HB1.out⟩
  have hz' : (s.rows == 0) = false := by simpa using hz
  by_cases hxz : x = 0
  · have hxz' : (x == 0) = true := by simp [hxz]
    have Hz := Lib.hid (show R = 0 by rw [← HR.out, if_pos (.inr hxz)])
    clear hz hxz
    go_enter Try.func72, Try.ntmps72
    go_upto_region 1 with fail
    rw [HW1.out]
    go_wp2
    go_ret
    exact ⟨ret_int Hz.out.symm, HB1.out⟩
  have hxz' : (x == 0) = false := by simpa using hxz
  have Hz := Lib.hid (show R = 1000 * (s.rows - n) / (s.rows * x) by rw [← HR.out, if_neg (by omega)])
  have hmp : 0 < s.rows * x := Int.mul_pos (by omega) (by omega)
  have hml : s.rows * x ≤ 400 * 400 := Int.mul_le_mul hr4 hx1 hx0 (by omega)
  obtain ⟨q1, q2, q3, q4⟩ := pm_quo (a := 1000 * (s.rows - n)) (b := s.rows * x) (by omega) (by omega) hmp
  have hw1 : IntKind.i64.wrap (s.rows - n) = s.rows - n := IntWalk.i64_in _ (by omega)
  have hw2 : IntKind.i64.wrap (s.rows * x) = s.rows * x := IntWalk.i64_in _ (by omega)
  have hnz : ¬ s.rows * x = 0 := by omega
  have C0 := fun z : Aft W1.heap.size W1 => z.cell cl c0
  have C1 := fun z : Aft W1.heap.size W1 => z.cell cl c1
  have C2 := fun z : Aft W1.heap.size W1 => z.cell cl c2
  have D1 := fun z : Aft W1.heap.size W1 => z.cell hBd dd
  have D2 := fun z : Aft W1.heap.size W1 => z.cell hBn dn
  clear hz hxz hml
  go_enter Try.func72, Try.ntmps72
  go_upto_region 1 with fail
  rw [HW1.out]
  go_wp2
  go_quiet (fail)
  go_wp2
  go_ret
  exact ⟨ret_int Hz.out.symm, bdrewN HB1.out _⟩
end Go.Proofs.Ytnecmacjlggkeaa

/-
  Contract: the permille that is estimated from statistics (the reference's). (Printed by wip/espm.py.)
-/
namespace Go.Proofs.Ytnecmacjlggkeaa
open Go.RowKit Go.Qo
set_option linter.unusedVariables false
set_option linter.unusedSimpArgs false

theorem col_at {width deep : Int} {e : Ex} (h : ExOk width deep e) (hk : e.kind = 1) : ∃ c : Nat, e.col = c ∧ (c : Int) < width := by
  have h4 := (exOk_iff.1 h).2.2.2
  unfold LocOk at h4
  rw [if_pos hk] at h4
  obtain ⟨c, hc⟩ := Int.eq_ofNat_of_zero_le h4.1.1
  exact ⟨c, hc, by omega⟩
def PmS (e : Ex) : Prop := ∀ (f : FE) (s : St) (sf : FS) (w : World) (width deep R : Int), ExIn w w.heap.size f e → ExOk width deep e → StOk s → width = s.dist.length → StIn w w.heap.size sf s → e.perm s = R →
  Calls Try.prog 48 #[feV f, fsV sf] w fun e w' => e = .returned (.int .i64 R) ∧ Below w.heap.size w w'
set_option maxRecDepth 20000 in
set_option maxHeartbeats 8000000 in
theorem permille_ok : ∀ x : Ex, PmS x := Ex.ind fun x ih f s sf w width deep R h hok hst hwd hsi hr => by
  obtain ⟨a1, a2, a3, a4, a5, a6⟩ := h.flat
  obtain ⟨W1, hW1⟩ : ∃ z, (w.alloc (.cells #[.int .i64 x.kind, .int .i64 x.col, .bool x.val.1, .int .i64 x.val.2, .slice f.sv.A x.kids.length f.sv.c] 39)).alloc (.cells #[.int .i64 sf.rows, .slice sf.dv.A sf.dv.n sf.dv.c, .slice sf.nv.A sf.nv.n sf.nv.c] 33) = z := ⟨_, rfl⟩
  have B1 : Below w.heap.size w W1 := by rw [← hW1]; exact balloc (balloc (Below.refl _ _) _) _
  have r1 : Row W1 w.heap.size 39 [.int .i64 x.kind, .int .i64 x.col, .bool x.val.1, .int .i64 x.val.2, .slice f.sv.A x.kids.length f.sv.c] := by rw [← hW1]; exact Row.first _ _ _ _
  have r2 : Row W1 (w.heap.size + 1) 33 [.int .i64 sf.rows, .slice sf.dv.A sf.dv.n sf.dv.c, .slice sf.nv.A sf.nv.n sf.nv.c] := by rw [← hW1]; exact Row.second _ _ _ _
  have hgon : ∀ (z : World), Below W1.heap.size W1 z → ExIn z z.heap.size f x := fun z hz => h.on (bch B1 hz)
  have HK := Lib.hid (fun (z : World) (hz : Below W1.heap.size W1 z) (i : Nat) (hi : i < x.kids.length) => (h.on (bch B1 hz)).kid hi)
  have hsin := fun (z : World) (hz : Below W1.heap.size W1 z) => hsi.on (bch B1 hz)
  have c0 : W1.cell? ⟨w.heap.size, 0, none⟩ = some (.int .i64 x.kind) := r1.cell 0
  have c2 : W1.cell? ⟨w.heap.size, 2, none⟩ = some (.bool x.val.1) := r1.cell 2
  have c3 : W1.cell? ⟨w.heap.size, 3, none⟩ = some (.int .i64 x.val.2) := r1.cell 3
  have c4 : W1.cell? ⟨w.heap.size, 4, none⟩ = some (.slice f.sv.A x.kids.length f.sv.c) := r1.cell 4
  have s0 : W1.cell? ⟨w.heap.size + 1, 0, none⟩ = some (.int .i64 sf.rows) := r2.cell 0
  have s1 : W1.cell? ⟨w.heap.size + 1, 1, none⟩ = some (.slice sf.dv.A sf.dv.n sf.dv.c) := r2.cell 1
  have s2 : W1.cell? ⟨w.heap.size + 1, 2, none⟩ = some (.slice sf.nv.A sf.nv.n sf.nv.c) := r2.cell 2
  have hbw : w.heap.size < W1.heap.size := r1.lt
  have hbs : w.heap.size + 1 < W1.heap.size := r2.lt
  have HB1 := Lib.hid B1
  have HW1 := Lib.hid hW1
  have HO := Lib.hid hok
  have HS := Lib.hid (And.intro hst hwd)
  have IH := Lib.hid ih
  have He := Lib.hid (show R = topP s x.kind x.val x.kids (x.kids.map (Ex.perm s)) by rw [← hr]; exact perm_eq s x)
  have hkm : x.kids.length ≤ 2 := hok.kids_le
  have HSI := Lib.hid hsin
  have Hsf := Lib.hid hsi
  unfold feV fsV
  rw [a1, a2, a3, a4]
  clear h hok hst hwd hsi hr ih a1 a2 a3 a4 a5 a6 B1 r1 r2 hW1 hgon hsin
  by_cases hk2 : x.kind = 2
  · have Hz := Lib.hid (show R = cstP x.val by rw [He.out]; unfold topP; rw [if_pos hk2])
    obtain ⟨nl, hnl⟩ : ∃ nl, x.val.1 = nl := ⟨_, rfl⟩
    obtain ⟨n, hn⟩ : ∃ n, x.val.2 = n := ⟨_, rfl⟩
    have Hc := Lib.hid (show cstP x.val = if nl = false ∧ n ≠ 0 then 1000 else 0 by unfold cstP; rw [hnl, hn])
    rw [hk2] at c0
    rw [hnl] at c2 ⊢
    rw [hn] at c3 ⊢
    rw [hnl, hn] at HW1
    clear hk2 hnl hn
    cases nl
    · by_cases hn0 : n = 0
      · have hn0' : (n == 0) = true := by simp [hn0]
        have Hv := Lib.hid (show R = 0 by rw [Hz.out, Hc.out, if_neg (by simp [hn0])])
        clear hn0
        go_enter Try.func48, Try.ntmps48
        go_upto_region 1 with fail
        rw [HW1.out]
        go_wp2
        go_ret
        exact ⟨ret_int Hv.out.symm, balloc HB1.out _⟩
      · have hn0' : (n == 0) = false := by simpa using hn0
        have Hv := Lib.hid (show R = 1000 by rw [Hz.out, Hc.out, if_pos ⟨rfl, hn0⟩])
        clear hn0
        go_enter Try.func48, Try.ntmps48
        go_upto_region 1 with fail
        rw [HW1.out]
        go_wp2
        go_ret
        exact ⟨ret_int Hv.out.symm, balloc HB1.out _⟩
    · have Hv := Lib.hid (show R = 0 by rw [Hz.out, Hc.out, if_neg (by simp)])
      go_enter Try.func48, Try.ntmps48
      go_upto_region 1 with fail
      rw [HW1.out]
      go_wp2
      go_ret
      exact ⟨ret_int Hv.out.symm, balloc HB1.out _⟩
  by_cases hk10 : x.kind = 10
  · have hkl : x.kids.length = 1 := kid1 HO.out (.inl hk10)
    obtain ⟨b0, o0, g0, hA0, hb0, hat0, hg0⟩ := HK.out _ (Below.refl _ _) 0 (by omega)
    obtain ⟨m0, hm0⟩ : ∃ m, (x.kids[0]).perm s = m := ⟨_, rfl⟩
    have hr0 : 0 ≤ m0 ∧ m0 ≤ 1000 := by rw [← hm0]; exact perm_range HS.out.1 _
    obtain ⟨d0, d1, d2, d3, d4⟩ := hat0
    simp only [Nat.zero_mul, Nat.add_zero, Nat.one_mul] at d0 d1 d2 d3 d4
    have hkI0 : (0 : Int) < (x.kids.length : Int) := by omega
    have hgon0 := fun (z : World) (hz : Below W1.heap.size W1 z) => hg0.on hz
    have hsin := HSI.out
    have HX0 := Lib.hid (fun z : Aft W1.heap.size W1 => IH.out _ (List.getElem_mem (show 0 < x.kids.length by omega)) g0 s sf z.v width (deep - 1) m0 (hgon0 z.v z.h) ((exOk_iff.1 HO.out).2.2.1 _ (List.getElem_mem _)) HS.out.1 HS.out.2 (hsin z.v z.h) hm0)
    unfold feV fsV at HX0
    have Hz := Lib.hid (show R = 1000 - m0 by rw [He.out]; unfold topP; rw [if_neg hk2, if_pos hk10, at0_kidE (show 0 < x.kids.length by omega), hm0])
    have hww : IntKind.i64.wrap (1000 - m0) = 1000 - m0 := IntWalk.i64_in _ (by omega)
    rw [hA0] at c4
    rw [hk10] at c0
    have C4 := fun z : Aft W1.heap.size W1 => z.cell hbw c4
    have D0 := fun z : Aft W1.heap.size W1 => z.cell hb0 d0
    have D1 := fun z : Aft W1.heap.size W1 => z.cell hb0 d1
    have D2 := fun z : Aft W1.heap.size W1 => z.cell hb0 d2
    have D3 := fun z : Aft W1.heap.size W1 => z.cell hb0 d3
    have D4 := fun z : Aft W1.heap.size W1 => z.cell hb0 d4
    have S0 := fun z : Aft W1.heap.size W1 => z.cell hbs s0
    have S1 := fun z : Aft W1.heap.size W1 => z.cell hbs s1
    have S2 := fun z : Aft W1.heap.size W1 => z.cell hbs s2
    clear hA0 hm0 hg0 hk10 hk2 hgon0 hsin c4 d0 d1 d2 d3 d4 s0 s1 s2 hkl
    go_enter Try.func48, Try.ntmps48
    go_upto_region 1 with fail
    rw [HW1.out]
    go_wp2
    refine wp_region_aft W1.heap.size (by kernel_rfl) (by kernel_rfl) ?_
    repeat (go_big_quiet_step ((go_at_call 48; exact Calls.aft (Nat.le_refl _) (HX0.out _))))
    refine wpQuiet_nil ?_
    intro w2 hw'
    obtain ⟨⟨_, hb2⟩, rfl⟩ := hw'
    go_wp2
    go_ret
    exact ⟨ret_int Hz.out.symm, bch HB1.out hb2⟩
  by_cases hk8 : x.kind = 8
  · have hkl : x.kids.length = 2 := kid2 HO.out (.inr (.inr (.inl hk8)))
    obtain ⟨b0, o0, g0, hA0, hb0, hat0, hg0⟩ := HK.out _ (Below.refl _ _) 0 (by omega)
    obtain ⟨m0, hm0⟩ : ∃ m, (x.kids[0]).perm s = m := ⟨_, rfl⟩
    have hr0 : 0 ≤ m0 ∧ m0 ≤ 1000 := by rw [← hm0]; exact perm_range HS.out.1 _
    obtain ⟨d0, d1, d2, d3, d4⟩ := hat0
    simp only [Nat.zero_mul, Nat.add_zero, Nat.one_mul] at d0 d1 d2 d3 d4
    have hkI0 : (0 : Int) < (x.kids.length : Int) := by omega
    obtain ⟨b1, o1, g1, hA1, hb1, hat1, hg1⟩ := HK.out _ (Below.refl _ _) 1 (by omega)
    rw [hA0] at hA1
    cases hA1
    obtain ⟨m1, hm1⟩ : ∃ m, (x.kids[1]).perm s = m := ⟨_, rfl⟩
    have hr1 : 0 ≤ m1 ∧ m1 ≤ 1000 := by rw [← hm1]; exact perm_range HS.out.1 _
    obtain ⟨k0, k1, k2, k3, k4⟩ := hat1
    simp only [Nat.zero_mul, Nat.add_zero, Nat.one_mul] at k0 k1 k2 k3 k4
    have hkI1 : (1 : Int) < (x.kids.length : Int) := by omega
    have hgon0 := fun (z : World) (hz : Below W1.heap.size W1 z) => hg0.on hz
    have hsin := HSI.out
    have hgon1 := fun (z : World) (hz : Below W1.heap.size W1 z) => hg1.on hz
    have HX0 := Lib.hid (fun z : Aft W1.heap.size W1 => IH.out _ (List.getElem_mem (show 0 < x.kids.length by omega)) g0 s sf z.v width (deep - 1) m0 (hgon0 z.v z.h) ((exOk_iff.1 HO.out).2.2.1 _ (List.getElem_mem _)) HS.out.1 HS.out.2 (hsin z.v z.h) hm0)
    have HX1 := Lib.hid (fun z : Aft W1.heap.size W1 => IH.out _ (List.getElem_mem (show 1 < x.kids.length by omega)) g1 s sf z.v width (deep - 1) m1 (hgon1 z.v z.h) ((exOk_iff.1 HO.out).2.2.1 _ (List.getElem_mem _)) HS.out.1 HS.out.2 (hsin z.v z.h) hm1)
    unfold feV fsV at HX0 HX1
    obtain ⟨p1, p2, p3, p4⟩ := pm_mul hr0 hr1
    have Hz := Lib.hid (show R = m0 * m1 / 1000 by rw [He.out]; unfold topP; rw [if_neg hk2, if_neg hk10, if_pos hk8, at0_kidE (show 0 < x.kids.length by omega), at0_kidE (show 1 < x.kids.length by omega), hm0, hm1])
    rw [hA0] at c4
    rw [hk8] at c0
    have C4 := fun z : Aft W1.heap.size W1 => z.cell hbw c4
    have D0 := fun z : Aft W1.heap.size W1 => z.cell hb0 d0
    have D1 := fun z : Aft W1.heap.size W1 => z.cell hb0 d1
    have D2 := fun z : Aft W1.heap.size W1 => z.cell hb0 d2
    have D3 := fun z : Aft W1.heap.size W1 => z.cell hb0 d3
    have D4 := fun z : Aft W1.heap.size W1 => z.cell hb0 d4
    have K0 := fun z : Aft W1.heap.size W1 => z.cell hb0 k0
    have K1 := fun z : Aft W1.heap.size W1 => z.cell hb0 k1
    have K2 := fun z : Aft W1.heap.size W1 => z.cell hb0 k2
    have K3 := fun z : Aft W1.heap.size W1 => z.cell hb0 k3
    have K4 := fun z : Aft W1.heap.size W1 => z.cell hb0 k4
    have S0 := fun z : Aft W1.heap.size W1 => z.cell hbs s0
    have S1 := fun z : Aft W1.heap.size W1 => z.cell hbs s1
    have S2 := fun z : Aft W1.heap.size W1 => z.cell hbs s2
    clear hA0 hm0 hm1 hg0 hg1 hk8 hk10 hk2 hgon0 hgon1 hsin c4 d0 d1 d2 d3 d4 k0 k1 k2 k3 k4 s0 s1 s2 hkl
    go_enter Try.func48, Try.ntmps48
    go_upto_region 1 with fail
    rw [HW1.out]
    go_wp2
    refine wp_region_aft W1.heap.size (by kernel_rfl) (by kernel_rfl) ?_
    repeat (go_big_quiet_step (first | (go_at_call_of 48 (Value.agg #[.int .i64 g0.kind, .int .i64 g0.col, .bool g0.val.1, .int .i64 g0.val.2, .slice g0.sv.A g0.sv.n g0.sv.c]); exact Calls.aft (Nat.le_refl _) (HX0.out _)) | (go_at_call_of 48 (Value.agg #[.int .i64 g1.kind, .int .i64 g1.col, .bool g1.val.1, .int .i64 g1.val.2, .slice g1.sv.A g1.sv.n g1.sv.c]); exact Calls.aft (Nat.le_refl _) (HX1.out _))))
    refine wpQuiet_nil ?_
    intro w2 hw'
    obtain ⟨⟨_, hb2⟩, rfl⟩ := hw'
    go_wp2
    go_ret
    exact ⟨ret_int Hz.out.symm, bch HB1.out hb2⟩
  by_cases hk9 : x.kind = 9
  · have hkl : x.kids.length = 2 := kid2 HO.out (.inr (.inr (.inr hk9)))
    obtain ⟨b0, o0, g0, hA0, hb0, hat0, hg0⟩ := HK.out _ (Below.refl _ _) 0 (by omega)
    obtain ⟨m0, hm0⟩ : ∃ m, (x.kids[0]).perm s = m := ⟨_, rfl⟩
    have hr0 : 0 ≤ m0 ∧ m0 ≤ 1000 := by rw [← hm0]; exact perm_range HS.out.1 _
    obtain ⟨d0, d1, d2, d3, d4⟩ := hat0
    simp only [Nat.zero_mul, Nat.add_zero, Nat.one_mul] at d0 d1 d2 d3 d4
    have hkI0 : (0 : Int) < (x.kids.length : Int) := by omega
    obtain ⟨b1, o1, g1, hA1, hb1, hat1, hg1⟩ := HK.out _ (Below.refl _ _) 1 (by omega)
    rw [hA0] at hA1
    cases hA1
    obtain ⟨m1, hm1⟩ : ∃ m, (x.kids[1]).perm s = m := ⟨_, rfl⟩
    have hr1 : 0 ≤ m1 ∧ m1 ≤ 1000 := by rw [← hm1]; exact perm_range HS.out.1 _
    obtain ⟨k0, k1, k2, k3, k4⟩ := hat1
    simp only [Nat.zero_mul, Nat.add_zero, Nat.one_mul] at k0 k1 k2 k3 k4
    have hkI1 : (1 : Int) < (x.kids.length : Int) := by omega
    have hgon0 := fun (z : World) (hz : Below W1.heap.size W1 z) => hg0.on hz
    have hsin := HSI.out
    have hgon1 := fun (z : World) (hz : Below W1.heap.size W1 z) => hg1.on hz
    have HX0 := Lib.hid (fun z : Aft W1.heap.size W1 => IH.out _ (List.getElem_mem (show 0 < x.kids.length by omega)) g0 s sf z.v width (deep - 1) m0 (hgon0 z.v z.h) ((exOk_iff.1 HO.out).2.2.1 _ (List.getElem_mem _)) HS.out.1 HS.out.2 (hsin z.v z.h) hm0)
    have HX1 := Lib.hid (fun z : Aft W1.heap.size W1 => IH.out _ (List.getElem_mem (show 1 < x.kids.length by omega)) g1 s sf z.v width (deep - 1) m1 (hgon1 z.v z.h) ((exOk_iff.1 HO.out).2.2.1 _ (List.getElem_mem _)) HS.out.1 HS.out.2 (hsin z.v z.h) hm1)
    unfold feV fsV at HX0 HX1
    obtain ⟨p1, p2, p3, p4⟩ := pm_mul hr0 hr1
    have hmr := mul_range hr0 hr1
    have Hz := Lib.hid (show R = m0 + m1 - m0 * m1 / 1000 by rw [He.out]; unfold topP; rw [if_neg hk2, if_neg hk10, if_neg hk8, if_pos hk9, at0_kidE (show 0 < x.kids.length by omega), at0_kidE (show 1 < x.kids.length by omega), hm0, hm1])
    have hw1 : IntKind.i64.wrap (m0 + m1) = m0 + m1 := IntWalk.i64_in _ (by omega)
    have hw2 : IntKind.i64.wrap (m0 + m1 - m0 * m1 / 1000) = m0 + m1 - m0 * m1 / 1000 := IntWalk.i64_in _ (by omega)
    rw [hA0] at c4
    rw [hk9] at c0
    have C4 := fun z : Aft W1.heap.size W1 => z.cell hbw c4
    have D0 := fun z : Aft W1.heap.size W1 => z.cell hb0 d0
    have D1 := fun z : Aft W1.heap.size W1 => z.cell hb0 d1
    have D2 := fun z : Aft W1.heap.size W1 => z.cell hb0 d2
    have D3 := fun z : Aft W1.heap.size W1 => z.cell hb0 d3
    have D4 := fun z : Aft W1.heap.size W1 => z.cell hb0 d4
    have K0 := fun z : Aft W1.heap.size W1 => z.cell hb0 k0
    have K1 := fun z : Aft W1.heap.size W1 => z.cell hb0 k1
    have K2 := fun z : Aft W1.heap.size W1 => z.cell hb0 k2
    have K3 := fun z : Aft W1.heap.size W1 => z.cell hb0 k3
    have K4 := fun z : Aft W1.heap.size W1 => z.cell hb0 k4
    have S0 := fun z : Aft W1.heap.size W1 => z.cell hbs s0
    have S1 := fun z : Aft W1.heap.size W1 => z.cell hbs s1
    have S2 := fun z : Aft W1.heap.size W1 => z.cell hbs s2
    have Hlast := Lib.hid (fun (z : World) (hz : Below W1.heap.size W1 z) => show (z.cell? ⟨w.heap.size, 4, none⟩ = some (.slice (some ⟨b0, o0, none⟩) x.kids.length f.sv.c) ∧ z.cell? ⟨b0, o0 + 5, none⟩ = some (.int .i64 g1.kind) ∧ z.cell? ⟨b0, o0 + 5 + 1, none⟩ = some (.int .i64 g1.col) ∧ z.cell? ⟨b0, o0 + 5 + 2, none⟩ = some (.bool g1.val.1) ∧ z.cell? ⟨b0, o0 + 5 + 3, none⟩ = some (.int .i64 g1.val.2) ∧ z.cell? ⟨b0, o0 + 5 + 4, none⟩ = some (.slice g1.sv.A g1.sv.n g1.sv.c)) ∧ z.cell? ⟨w.heap.size + 1, 0, none⟩ = some (.int .i64 sf.rows) ∧ z.cell? ⟨w.heap.size + 1, 1, none⟩ = some (.slice sf.dv.A sf.dv.n sf.dv.c) ∧ z.cell? ⟨w.heap.size + 1, 2, none⟩ = some (.slice sf.nv.A sf.nv.n sf.nv.c) from ⟨⟨(Aft.mk z hz).cell hbw c4, (Aft.mk z hz).cell hb0 k0, (Aft.mk z hz).cell hb0 k1, (Aft.mk z hz).cell hb0 k2, (Aft.mk z hz).cell hb0 k3, (Aft.mk z hz).cell hb0 k4⟩, (Aft.mk z hz).cell hbs s0, (Aft.mk z hz).cell hbs s1, (Aft.mk z hz).cell hbs s2⟩)
    have HX1' := Lib.hid (fun (y : World) (hy : Below W1.heap.size W1 y) (z : Aft y.heap.size y) => IH.out _ (List.getElem_mem (show 1 < x.kids.length by omega)) g1 s sf z.v width (deep - 1) m1 (hg1.on (bch hy z.h)) ((exOk_iff.1 HO.out).2.2.1 _ (List.getElem_mem _)) HS.out.1 HS.out.2 (hsin z.v (bch hy z.h)) hm1)
    unfold feV fsV at HX1'
    clear hA0 hm0 hm1 hg0 hg1 hk9 hk8 hk10 hk2 hgon0 hgon1 hsin c4 d0 d1 d2 d3 d4 k0 k1 k2 k3 k4 s0 s1 s2 hkl hmr HX1
    go_enter Try.func48, Try.ntmps48
    go_upto_region 1 with fail
    rw [HW1.out]
    go_wp2
    refine wp_region_aft W1.heap.size (by kernel_rfl) (by kernel_rfl) ?_
    repeat (go_big_quiet_step ((go_at_call 48; exact Calls.aft (Nat.le_refl _) (HX0.out _))))
    refine wpQuiet_nil ?_
    intro w2 hw'
    obtain ⟨⟨_, hb2⟩, rfl⟩ := hw'
    go_wp2
    obtain ⟨⟨l0, l1, l2, l3, l4, l5⟩, l6, l7, l8⟩ := Hlast.out _ hb2
    have hbw2 : w.heap.size < w2.heap.size := Nat.lt_of_lt_of_le hbw hb2.size
    have hbs2 : w.heap.size + 1 < w2.heap.size := Nat.lt_of_lt_of_le hbs hb2.size
    have hb02 : b0 < w2.heap.size := Nat.lt_of_lt_of_le hb0 hb2.size
    have H2 := Lib.hid hb2
    have HX2 := Lib.hid (HX1'.out w2 hb2)
    have L0 := fun z : Aft w2.heap.size w2 => z.cell hbw2 l0
    have L1 := fun z : Aft w2.heap.size w2 => z.cell hb02 l1
    have L2 := fun z : Aft w2.heap.size w2 => z.cell hb02 l2
    have L3 := fun z : Aft w2.heap.size w2 => z.cell hb02 l3
    have L4 := fun z : Aft w2.heap.size w2 => z.cell hb02 l4
    have L5 := fun z : Aft w2.heap.size w2 => z.cell hb02 l5
    have L6 := fun z : Aft w2.heap.size w2 => z.cell hbs2 l6
    have L7 := fun z : Aft w2.heap.size w2 => z.cell hbs2 l7
    have L8 := fun z : Aft w2.heap.size w2 => z.cell hbs2 l8
    clear C4 D0 D1 D2 D3 D4 K0 K1 K2 K3 K4 S0 S1 S2 l0 l1 l2 l3 l4 l5 l6 l7 l8 hb2
    go_wp2
    refine wp_region_aft w2.heap.size (by kernel_rfl) (by kernel_rfl) ?_
    repeat (go_big_quiet_step ((go_at_call 48; exact Calls.aft (Nat.le_refl _) (HX2.out _))))
    refine wpQuiet_nil ?_
    intro w3 hw'
    obtain ⟨⟨_, hb3⟩, rfl⟩ := hw'
    go_wp2
    go_ret
    exact ⟨ret_int Hz.out.symm, bch HB1.out (bch H2.out hb3)⟩
  by_cases hk6 : x.kind = 6
  · have hkl : x.kids.length = 2 := kid2 HO.out (.inl hk6)
    have hp0 : 0 < x.kids.length := by omega
    have hp1 : 1 < x.kids.length := by omega
    obtain ⟨b0, o0, g0, hA0, hb0, hat0, hg0⟩ := HK.out _ (Below.refl _ _) 0 hp0
    obtain ⟨b1, o1, g1, hA1, hb1, hat1, hg1⟩ := HK.out _ (Below.refl _ _) 1 hp1
    rw [hA0] at hA1
    cases hA1
    obtain ⟨d0, d1, d2, d3, d4⟩ := hat0
    obtain ⟨k0, k1, k2, k3, k4⟩ := hat1
    simp only [Nat.zero_mul, Nat.add_zero, Nat.one_mul] at d0 d1 d2 d3 d4 k0 k1 k2 k3 k4
    have e1 := hg0.flat.1
    have e2 := hg0.flat.2.1
    have e4 := hg1.flat.1
    have e6 := hg1.flat.2.2.1
    rw [e1] at d0
    rw [e2] at d1
    rw [e4] at k0
    rw [e6] at k2
    have hkI0 : (0 : Int) < (x.kids.length : Int) := by omega
    have hkI1 : (1 : Int) < (x.kids.length : Int) := by omega
    have Hz := Lib.hid (show R = if (x.kids[0]).kind = 1 ∧ (x.kids[1]).kind = 2 ∧ (x.kids[1]).val.1 = false then eqlP s (x.kids[0]).col.toNat else 100 by
      rw [He.out]; unfold topP; rw [if_neg hk2, if_neg hk10, if_neg hk8, if_neg hk9, if_pos hk6, kidE_at hp0, kidE_at hp1])
    have HOK := Lib.hid ((exOk_iff.1 HO.out).2.2.1 _ (List.getElem_mem hp0))
    have Hcol := Lib.hid (fun hk => col_at HOK.out hk)
    rw [hA0] at c4
    rw [hk6] at c0
    obtain ⟨kd, hkd⟩ : ∃ z, (x.kids[0]).kind = z := ⟨_, rfl⟩
    obtain ⟨ke, hke⟩ : ∃ z, (x.kids[1]).kind = z := ⟨_, rfl⟩
    obtain ⟨nl, hnl⟩ : ∃ z, (x.kids[1]).val.1 = z := ⟨_, rfl⟩
    obtain ⟨cl, hcl⟩ : ∃ z, (x.kids[0]).col = z := ⟨_, rfl⟩
    rw [hkd, hke, hnl, hcl] at Hz
    rw [hkd, hcl] at Hcol
    rw [hkd] at d0
    rw [hcl] at d1
    rw [hke] at k0
    rw [hnl] at k2
    clear hA0 hg0 hg1 hk6 hk9 hk8 hk10 hk2 hkl e1 e2 e4 e6 hkd hke hnl hcl
    by_cases h1 : kd = 1
    case neg =>
      have h1' : (kd == 1) = false := by simpa using h1
      have Hv := Lib.hid (show R = 100 by rw [Hz.out, if_neg fun hh => h1 hh.1])
      clear h1
      go_enter Try.func48, Try.ntmps48
      go_upto_region 1 with fail
      rw [HW1.out]
      go_wp2
      go_ret
      exact ⟨ret_int Hv.out.symm, HB1.out⟩
    case pos =>
      have h1' : (kd == 1) = true := by simp [h1]
      obtain ⟨c, hc, hcw⟩ := Hcol.out h1
      have H1 := Lib.hid h1
      clear h1
      by_cases h2 : ke = 2
      case neg =>
        have h2' : (ke == 2) = false := by simpa using h2
        have Hv := Lib.hid (show R = 100 by rw [Hz.out, if_neg fun hh => h2 hh.2.1])
        clear h2 hc
        go_enter Try.func48, Try.ntmps48
        go_upto_region 1 with fail
        rw [HW1.out]
        go_wp2
        go_ret
        exact ⟨ret_int Hv.out.symm, HB1.out⟩
      case pos =>
        have h2' : (ke == 2) = true := by simp [h2]
        have H2 := Lib.hid h2
        clear h2
        cases nl
        · have Hv := Lib.hid (show eqlP s c = R by rw [Hz.out, if_pos ⟨H1.out, H2.out, rfl⟩, hc]; rfl)
          have HEQ := Lib.hid (fun z : Aft W1.heap.size W1 => equality_ok s sf c z.v R (HSI.out z.v z.h) HS.out.1 (by have := HS.out.2; omega) Hv.out)
          unfold fsV at HEQ
          rw [hc] at d1
          have C4 := fun z : Aft W1.heap.size W1 => z.cell hbw c4
          have D1 := fun z : Aft W1.heap.size W1 => z.cell hb0 d1
          have S0 := fun z : Aft W1.heap.size W1 => z.cell hbs s0
          have S1 := fun z : Aft W1.heap.size W1 => z.cell hbs s1
          have S2 := fun z : Aft W1.heap.size W1 => z.cell hbs s2
          clear hc
          go_enter Try.func48, Try.ntmps48
          go_upto_region 1 with fail
          rw [HW1.out]
          go_wp2
          refine wp_region_aft W1.heap.size (by kernel_rfl) (by kernel_rfl) ?_
          repeat (go_big_quiet_step ((go_at_call 72; exact Calls.aft (Nat.le_refl _) (HEQ.out _))))
          refine wpQuiet_nil ?_
          intro w2 hw'
          obtain ⟨⟨_, hb2⟩, rfl⟩ := hw'
          go_wp2
          go_ret
          exact ⟨rfl, bch HB1.out hb2⟩
        · have Hv := Lib.hid (show R = 100 by rw [Hz.out, if_neg fun hh => by cases hh.2.2])
          clear hc
          go_enter Try.func48, Try.ntmps48
          go_upto_region 1 with fail
          rw [HW1.out]
          go_wp2
          go_ret
          exact ⟨ret_int Hv.out.symm, HB1.out⟩
  by_cases hk7 : x.kind = 7
  · have Hz := Lib.hid (show R = 333 by rw [He.out]; unfold topP; rw [if_neg hk2, if_neg hk10, if_neg hk8, if_neg hk9, if_neg hk6, if_pos hk7])
    rw [hk7] at c0
    clear hk2 hk10 hk8 hk9 hk6 hk7
    go_enter Try.func48, Try.ntmps48
    go_upto_region 1 with fail
    rw [HW1.out]
    go_wp2
    go_ret
    exact ⟨ret_int Hz.out.symm, HB1.out⟩
  by_cases hk11 : x.kind = 11
  · have hkl : x.kids.length = 1 := kid1 HO.out (.inr hk11)
    have hp0 : 0 < x.kids.length := by omega
    obtain ⟨b0, o0, g0, hA0, hb0, hat0, hg0⟩ := HK.out _ (Below.refl _ _) 0 hp0
    obtain ⟨d0, d1, d2, d3, d4⟩ := hat0
    simp only [Nat.zero_mul, Nat.add_zero] at d0 d1 d2 d3 d4
    have e1 := hg0.flat.1
    have e2 := hg0.flat.2.1
    rw [e1] at d0
    rw [e2] at d1
    have hkI0 : (0 : Int) < (x.kids.length : Int) := by omega
    have Hz := Lib.hid (show R = if (x.kids[0]).kind = 1 ∧ 0 < s.rows then 1000 * s.nulls.getD (x.kids[0]).col.toNat 0 / s.rows else 0 by
      rw [He.out]; unfold topP; rw [if_neg hk2, if_neg hk10, if_neg hk8, if_neg hk9, if_neg hk6, if_neg hk7, if_pos hk11, kidE_at hp0]; rfl)
    have HOK := Lib.hid ((exOk_iff.1 HO.out).2.2.1 _ (List.getElem_mem hp0))
    have Hcol := Lib.hid (fun hk => col_at HOK.out hk)
    rw [hA0] at c4
    rw [hk11] at c0
    obtain ⟨kd, hkd⟩ : ∃ z, (x.kids[0]).kind = z := ⟨_, rfl⟩
    obtain ⟨cl, hcl⟩ : ∃ z, (x.kids[0]).col = z := ⟨_, rfl⟩
    rw [hkd, hcl] at Hz
    rw [hkd, hcl] at Hcol
    rw [hkd] at d0
    rw [hcl] at d1
    obtain ⟨a1, ⟨a2, a2', a2''⟩, ⟨a3, a3', a3''⟩, a4, a5⟩ := HSI.out W1 (Below.refl _ _)
    rw [a1] at s0
    rw [a3] at s2
    have hrw : 0 ≤ s.rows ∧ s.rows ≤ 400 := by have := HS.out.1.1; omega
    obtain ⟨hr0, hr4⟩ := hrw
    have Ha1 := Lib.hid a1
    have Ha3 := Lib.hid a3
    clear hA0 hg0 hk11 hk7 hk6 hk9 hk8 hk10 hk2 hkl e1 e2 hkd hcl a2 a2' a2'' a3' a3'' a4 s1
    by_cases h1 : kd = 1
    case neg =>
      have h1' : (kd == 1) = false := by simpa using h1
      have Hv := Lib.hid (show R = 0 by rw [Hz.out, if_neg fun hh => h1 hh.1])
      rw [Ha1.out, Ha3.out] at HW1 ⊢
      clear h1 a1 a3
      go_enter Try.func48, Try.ntmps48
      go_upto_region 1 with fail
      rw [HW1.out]
      go_wp2
      go_ret
      exact ⟨ret_int Hv.out.symm, HB1.out⟩
    case pos =>
      have h1' : (kd == 1) = true := by simp [h1]
      obtain ⟨c, hc, hcw⟩ := Hcol.out h1
      have H1 := Lib.hid h1
      clear h1
      by_cases h2 : 0 < s.rows
      case neg =>
        have Hv := Lib.hid (show R = 0 by rw [Hz.out, if_neg fun hh => h2 hh.2])
        rw [Ha1.out, Ha3.out] at HW1 ⊢
        clear a1 a3 hc
        go_enter Try.func48, Try.ntmps48
        go_upto_region 1 with fail
        rw [HW1.out]
        go_wp2
        go_ret
        exact ⟨ret_int Hv.out.symm, HB1.out⟩
      case pos =>
        have hcn : c < s.nulls.length := by have := HS.out.1.1; have := HS.out.2; omega
        obtain ⟨bn, on_, hAn, hBn, dn⟩ := a5.at1 (f := Value.int .i64) hcn
        obtain ⟨n, hn⟩ : ∃ n, s.nulls[c] = n := ⟨_, rfl⟩
        have hnd : s.nulls.getD c 0 = n := by rw [List.getD_eq_getElem?_getD, List.getElem?_eq_getElem hcn, hn]; rfl
        have hg := getD_stok HS.out.1 c
        rw [hnd] at hg
        have Hv := Lib.hid (show R = 1000 * n / s.rows by rw [Hz.out, if_pos ⟨H1.out, h2⟩, hc, Int.toNat_natCast, hnd]; rfl)
        obtain ⟨q1, q2, q3, q4⟩ := pm_quo (a := 1000 * n) (b := s.rows) (by omega) (by omega) h2
        have hnz : ¬ s.rows = 0 := by omega
        have hcnI : (c : Int) < (s.nulls.length : Int) := by omega
        rw [hAn] at s2
        rw [hn] at dn
        rw [hc] at d1
        rw [Ha1.out, Ha3.out] at HW1 ⊢
        have C4 := fun z : Aft W1.heap.size W1 => z.cell hbw c4
        have D0 := fun z : Aft W1.heap.size W1 => z.cell hb0 d0
        have D1 := fun z : Aft W1.heap.size W1 => z.cell hb0 d1
        have S0 := fun z : Aft W1.heap.size W1 => z.cell hbs s0
        have S2 := fun z : Aft W1.heap.size W1 => z.cell hbs s2
        have DN := fun z : Aft W1.heap.size W1 => z.cell hBn dn
        clear a1 a3 a5 hAn hn hnd hg hc
        go_enter Try.func48, Try.ntmps48
        go_upto_region 1 with fail
        rw [HW1.out]
        go_wp2
        go_quiet (fail)
        go_wp2
        go_ret
        exact ⟨ret_int Hv.out.symm, bdrewN HB1.out _⟩
  · have Hz := Lib.hid (show R = 500 by rw [He.out]; unfold topP; rw [if_neg hk2, if_neg hk10, if_neg hk8, if_neg hk9, if_neg hk6, if_neg hk7, if_neg hk11])
    have hk2' : (x.kind == 2) = false := by simpa using hk2
    have hk10' : (x.kind == 10) = false := by simpa using hk10
    have hk8' : (x.kind == 8) = false := by simpa using hk8
    have hk9' : (x.kind == 9) = false := by simpa using hk9
    have hk6' : (x.kind == 6) = false := by simpa using hk6
    have hk7' : (x.kind == 7) = false := by simpa using hk7
    have hk11' : (x.kind == 11) = false := by simpa using hk11
    clear hk2 hk10 hk8 hk9 hk6 hk7 hk11
    go_enter Try.func48, Try.ntmps48
    go_upto_region 1 with fail
    rw [HW1.out]
    go_wp2
    go_ret
    exact ⟨ret_int Hz.out.symm, HB1.out⟩
end Go.Proofs.Ytnecmacjlggkeaa

/-
  Contracts: the permille that is estimated from statistics (the program's).
-/
namespace Go.Proofs.Ytnecmacjlggkeaa
open Go.RowKit Go.Qo
set_option linter.unusedVariables false
set_option linter.unusedSimpArgs false

/-- What an equality of a column with a constant is estimated to select. -/
def eqTop (s : St) (ks : List Ex) : Int := if (kidE ks 0).kind = 1 ∧ (kidE ks 1).kind = 2 ∧ (kidE ks 1).val.1 = false then eqlP s (kidE ks 0).col.toNat else 100
set_option maxRecDepth 20000 in
set_option maxHeartbeats 4000000 in
theorem equalPermille_ok (x : Ex) (f : FE) (b o : Nat) (s : St) (sf : FS) (sb so : Nat) (w : World) (width deep R : Int) (hbw : b < w.heap.size) (hat : FeAt w b o f) (h : ExIn w w.heap.size f x) (hok : ExOk width deep x) (hk6 : x.kind = 6) (hst : StOk s) (hwd : width = s.dist.length) (hsw : sb < w.heap.size) (hsat : FsAt w sb so sf) (hsi : StIn w w.heap.size sf s) (hr : eqTop s x.kids = R) :
    Calls Try.prog 92 #[.pointer (some ⟨b, o, none⟩), .pointer (some ⟨sb, so, none⟩)] w fun e w' => e = .returned (.int .i64 R) ∧ Below w.heap.size w w' := by
  obtain ⟨_, _, _, a4, _, _⟩ := h.flat
  obtain ⟨c0, c1, c2, c3, c4⟩ := hat
  obtain ⟨s0, s1, s2⟩ := hsat
  rw [a4] at c4
  have hkl : x.kids.length = 2 := kid2 hok (.inl hk6)
  have hp0 : 0 < x.kids.length := by omega
  have hp1 : 1 < x.kids.length := by omega
  obtain ⟨b0, o0, g0, hA0, hb0, hat0, hg0⟩ := h.kid hp0
  obtain ⟨b1, o1, g1, hA1, hb1, hat1, hg1⟩ := h.kid hp1
  rw [hA0] at hA1
  cases hA1
  obtain ⟨d0, d1, d2, d3, d4⟩ := hat0
  obtain ⟨k0, k1, k2, k3, k4⟩ := hat1
  simp only [Nat.zero_mul, Nat.add_zero, Nat.one_mul] at d0 d1 d2 d3 d4 k0 k1 k2 k3 k4
  have e1 := hg0.flat.1
  have e2 := hg0.flat.2.1
  have e4 := hg1.flat.1
  have e6 := hg1.flat.2.2.1
  rw [e1] at d0
  rw [e2] at d1
  rw [e4] at k0
  rw [e6] at k2
  have hkI0 : (0 : Int) < (x.kids.length : Int) := by omega
  have hkI1 : (1 : Int) < (x.kids.length : Int) := by omega
  have Hz := Lib.hid (show R = if (x.kids[0]).kind = 1 ∧ (x.kids[1]).kind = 2 ∧ (x.kids[1]).val.1 = false then eqlP s (x.kids[0]).col.toNat else 100 by
    rw [← hr]; unfold eqTop; rw [kidE_at hp0, kidE_at hp1])
  have HOK := Lib.hid ((exOk_iff.1 hok).2.2.1 _ (List.getElem_mem hp0))
  have Hcol := Lib.hid (fun hk => col_at HOK.out hk)
  rw [hA0] at c4
  obtain ⟨kd, hkd⟩ : ∃ z, (x.kids[0]).kind = z := ⟨_, rfl⟩
  obtain ⟨ke, hke⟩ : ∃ z, (x.kids[1]).kind = z := ⟨_, rfl⟩
  obtain ⟨nl, hnl⟩ : ∃ z, (x.kids[1]).val.1 = z := ⟨_, rfl⟩
  obtain ⟨cl, hcl⟩ : ∃ z, (x.kids[0]).col = z := ⟨_, rfl⟩
  rw [hkd, hke, hnl, hcl] at Hz
  rw [hkd, hcl] at Hcol
  rw [hkd] at d0
  rw [hcl] at d1
  rw [hke] at k0
  rw [hnl] at k2
  obtain ⟨a1, ⟨a2, a2', a2''⟩, ⟨a3, a3', a3''⟩, a4', a5⟩ := hsi
  rw [a1] at s0
  rw [a2] at s1
  rw [a3] at s2
  have HS := Lib.hid (And.intro hst hwd)
  have C4 := fun z : Aft w.heap.size w => z.cell hbw c4
  clear h hok hk6 hst hwd hr a4 hkl hA0 hg0 hg1 e1 e2 e4 e6 hkd hke hnl hcl a1 a2 a2' a2'' a3 a3' a3'' c0 c1 c2 c3 d2 d3 d4 k1 k3 k4
  by_cases h1 : kd = 1
  case neg =>
    have h1' : (kd != 1) = true := by simpa using h1
    have Hv := Lib.hid (show R = 100 by rw [Hz.out, if_neg fun hh => h1 hh.1])
    clear h1
    go_enter Try.func92, Try.ntmps92
    go_wp2
    go_quiet (fail)
    go_wp2
    go_ret
    exact ⟨ret_int Hv.out.symm, bdrewN (Below.refl _ _) _⟩
  case pos =>
    have h1' : (kd != 1) = false := by simp [h1]
    obtain ⟨c, hc, hcw⟩ := Hcol.out h1
    have H1 := Lib.hid h1
    rw [hc] at d1
    clear h1
    by_cases h2 : ke = 2
    case neg =>
      have h2' : (ke != 2) = true := by simpa using h2
      have Hv := Lib.hid (show R = 100 by rw [Hz.out, if_neg fun hh => h2 hh.2.1])
      clear h2 hc
      go_enter Try.func92, Try.ntmps92
      go_wp2
      go_quiet (fail)
      go_wp2
      go_ret
      exact ⟨ret_int Hv.out.symm, bdrewN (Below.refl _ _) _⟩
    case pos =>
      have h2' : (ke != 2) = false := by simp [h2]
      have H2 := Lib.hid h2
      clear h2
      cases nl
      case true =>
        have Hv := Lib.hid (show R = 100 by rw [Hz.out, if_neg fun hh => by cases hh.2.2])
        clear hc
        go_enter Try.func92, Try.ntmps92
        go_wp2
        go_quiet (fail)
        go_wp2
        go_ret
        exact ⟨ret_int Hv.out.symm, bdrewN (Below.refl _ _) _⟩
      case false =>
        have hcd : c < s.dist.length := by have := HS.out.2; omega
        have hcn : c < s.nulls.length := by have := HS.out.1.1; omega
        obtain ⟨xd, hxd⟩ : ∃ x, s.dist[c] = x := ⟨_, rfl⟩
        obtain ⟨n, hn⟩ : ∃ n, s.nulls[c] = n := ⟨_, rfl⟩
        have hxdd : s.dist.getD c 0 = xd := by rw [List.getD_eq_getElem?_getD, List.getElem?_eq_getElem hcd, hxd]; rfl
        have hnd : s.nulls.getD c 0 = n := by rw [List.getD_eq_getElem?_getD, List.getElem?_eq_getElem hcn, hn]; rfl
        have hg := getD_stok HS.out.1 c
        rw [hxdd, hnd] at hg
        obtain ⟨⟨hn0, hn1⟩, hx0, hx1⟩ := hg
        have hrw : 0 ≤ s.rows ∧ s.rows ≤ 400 := by have := HS.out.1.1; omega
        obtain ⟨hr0, hr4⟩ := hrw
        have He : R = if s.rows = 0 ∨ xd = 0 then 0 else 1000 * (s.rows - n) / (s.rows * xd) := by
          rw [Hz.out, if_pos ⟨H1.out, H2.out, rfl⟩, hc]
          show eqlP s c = _
          unfold eqlP
          rw [hxdd, hnd]
        obtain ⟨bd, od, hAd, hBd, dd⟩ := a4'.at1 (f := Value.int .i64) hcd
        obtain ⟨bn, on_, hAn, hBn, dn⟩ := a5.at1 (f := Value.int .i64) hcn
        rw [hAd] at s1
        rw [hAn] at s2
        rw [hxd] at dd
        rw [hn] at dn
        have hcI : (c : Int) < (s.dist.length : Int) := by omega
        have hcnI : (c : Int) < (s.nulls.length : Int) := by omega
        have S0 := fun z : Aft w.heap.size w => z.cell hsw s0
        have S1 := fun z : Aft w.heap.size w => z.cell hsw s1
        have S2 := fun z : Aft w.heap.size w => z.cell hsw s2
        have D1 := fun z : Aft w.heap.size w => z.cell hb0 d1
        have E1 := fun z : Aft w.heap.size w => z.cell hBd dd
        have E2 := fun z : Aft w.heap.size w => z.cell hBn dn
        have He := Lib.hid He
        clear hc hxd hn hxdd hnd hAd hAn a4' a5
        by_cases hz : s.rows = 0
        · have hz' : (s.rows == 0) = true := by simp [hz]
          have Hv := Lib.hid (show R = 0 by rw [He.out, if_pos (.inl hz)])
          clear hz
          go_enter Try.func92, Try.ntmps92
          go_wp2
          go_quiet (fail)
          go_wp2
          go_quiet (fail)
          go_wp2
          go_ret
          exact ⟨ret_int Hv.out.symm, by first | exact bdrewN (Below.refl _ _) _ | exact bdrewN (bdrewN (Below.refl _ _) _) _⟩
        have hz' : (s.rows == 0) = false := by simpa using hz
        by_cases hxz : xd = 0
        · have hxz' : (xd == 0) = true := by simp [hxz]
          have Hv := Lib.hid (show R = 0 by rw [He.out, if_pos (.inr hxz)])
          clear hz hxz
          go_enter Try.func92, Try.ntmps92
          go_wp2
          go_quiet (fail)
          go_wp2
          go_quiet (fail)
          go_wp2
          go_ret
          exact ⟨ret_int Hv.out.symm, by first | exact bdrewN (Below.refl _ _) _ | exact bdrewN (bdrewN (Below.refl _ _) _) _⟩
        have hxz' : (xd == 0) = false := by simpa using hxz
        have Hv := Lib.hid (show R = 1000 * (s.rows - n) / (s.rows * xd) by rw [He.out, if_neg (by omega)])
        have hmp : 0 < s.rows * xd := Int.mul_pos (by omega) (by omega)
        have hml : s.rows * xd ≤ 400 * 400 := Int.mul_le_mul hr4 hx1 hx0 (by omega)
        obtain ⟨q1, q2, q3, q4⟩ := pm_quo (a := 1000 * (s.rows - n)) (b := s.rows * xd) (by omega) (by omega) hmp
        have hw1 : IntKind.i64.wrap (s.rows - n) = s.rows - n := IntWalk.i64_in _ (by omega)
        have hw2 : IntKind.i64.wrap (s.rows * xd) = s.rows * xd := IntWalk.i64_in _ (by omega)
        have hnz : ¬ s.rows * xd = 0 := by omega
        clear hz hxz hml
        go_enter Try.func92, Try.ntmps92
        go_wp2
        go_quiet (fail)
        go_wp2
        go_quiet (fail)
        go_wp2
        go_quiet (fail)
        go_wp2
        go_ret
        exact ⟨ret_int Hv.out.symm, by first | exact bdrewN (Below.refl _ _) _ | exact bdrewN (bdrewN (Below.refl _ _) _) _ | exact bdrewN (bdrewN (bdrewN (Below.refl _ _) _) _) _⟩
end Go.Proofs.Ytnecmacjlggkeaa

/-
  Contract: selectivity (the program's permille from statistics). (Printed by wip/esu.py.)
-/
namespace Go.Proofs.Ytnecmacjlggkeaa
open Go.RowKit Go.Qo
set_option linter.unusedVariables false
set_option linter.unusedSimpArgs false

theorem feAt_below {w w' : World} {B b o : Nat} {f : FE} (h : FeAt w b o f) (hb : Below B w w') (hB : b < B) : FeAt w' b o f :=
  ⟨(hb.cell (p := ⟨_, _, none⟩) hB).trans h.1, (hb.cell (p := ⟨_, _, none⟩) hB).trans h.2.1, (hb.cell (p := ⟨_, _, none⟩) hB).trans h.2.2.1, (hb.cell (p := ⟨_, _, none⟩) hB).trans h.2.2.2.1, (hb.cell (p := ⟨_, _, none⟩) hB).trans h.2.2.2.2⟩
def PmI (e : Ex) : Prop := ∀ (f : FE) (b o : Nat) (s : St) (sf : FS) (sb so : Nat) (w : World) (width deep R : Int), b < w.heap.size → FeAt w b o f → ExIn w w.heap.size f e → ExOk width deep e → StOk s → width = s.dist.length → sb < w.heap.size → FsAt w sb so sf → StIn w w.heap.size sf s → e.perm s = R →
  Calls Try.prog 67 #[.pointer (some ⟨b, o, none⟩), .pointer (some ⟨sb, so, none⟩)] w fun e w' => e = .returned (.int .i64 R) ∧ Below w.heap.size w w'
set_option maxRecDepth 20000 in
set_option maxHeartbeats 8000000 in
theorem selectivity_ok : ∀ x : Ex, PmI x := Ex.ind fun x ih f b o s sf sb so w width deep R hbw hat h hok hst hwd hsw hsat hsi hr => by
  obtain ⟨a1, _, a3, a4, _, _⟩ := h.flat
  have CX := Lib.hid (fun (z : World) (hz : Below w.heap.size w z) => feAt_below hat hz hbw)
  have SX := Lib.hid (fun (z : World) (hz : Below w.heap.size w z) => And.intro (hsat.below hz hsw) (hsi.on hz))
  have HX := Lib.hid (fun (z : World) (hz : Below w.heap.size w z) => h.on hz)
  have HEQ := Lib.hid (fun hk6 => equalPermille_ok x f b o s sf sb so w width deep R hbw hat h hok hk6 hst hwd hsw hsat hsi)
  obtain ⟨c0, c1, c2, c3, c4⟩ := hat
  obtain ⟨s0, s1, s2⟩ := hsat
  rw [a1] at c0
  rw [a3] at c2 c3
  rw [a4] at c4
  have HO := Lib.hid hok
  have HS := Lib.hid (And.intro hst hwd)
  have IH := Lib.hid ih
  have He := Lib.hid (show R = topP s x.kind x.val x.kids (x.kids.map (Ex.perm s)) by rw [← hr]; exact perm_eq s x)
  have hkm : x.kids.length ≤ 2 := hok.kids_le
  have Ha4 := Lib.hid (And.intro a1 a4)
  clear h hok hst hwd hsi hr ih a1 a3 a4 c1
  by_cases hk2 : x.kind = 2
  · have Hz := Lib.hid (show R = cstP x.val by rw [He.out]; unfold topP; rw [if_pos hk2])
    obtain ⟨nl, hnl⟩ : ∃ nl, x.val.1 = nl := ⟨_, rfl⟩
    obtain ⟨n, hn⟩ : ∃ n, x.val.2 = n := ⟨_, rfl⟩
    have Hc := Lib.hid (show cstP x.val = if nl = false ∧ n ≠ 0 then 1000 else 0 by unfold cstP; rw [hnl, hn])
    rw [hk2] at c0
    rw [hnl] at c2
    rw [hn] at c3
    clear hk2 hnl hn
    cases nl
    · by_cases hn0 : n = 0
      · have hn0' : (n == 0) = true := by simp [hn0]
        have Hv := Lib.hid (show R = 0 by rw [Hz.out, Hc.out, if_neg (by simp [hn0])])
        clear hn0
        go_enter Try.func67, Try.ntmps67
        go_wp2
        go_ret
        exact ⟨ret_int Hv.out.symm, by first | exact Below.refl _ _ | exact balloc (Below.refl _ _) _⟩
      · have hn0' : (n == 0) = false := by simpa using hn0
        have Hv := Lib.hid (show R = 1000 by rw [Hz.out, Hc.out, if_pos ⟨rfl, hn0⟩])
        clear hn0
        go_enter Try.func67, Try.ntmps67
        go_wp2
        go_ret
        exact ⟨ret_int Hv.out.symm, by first | exact Below.refl _ _ | exact balloc (Below.refl _ _) _⟩
    · have Hv := Lib.hid (show R = 0 by rw [Hz.out, Hc.out, if_neg (by simp)])
      go_enter Try.func67, Try.ntmps67
      go_wp2
      go_ret
      exact ⟨ret_int Hv.out.symm, by first | exact Below.refl _ _ | exact balloc (Below.refl _ _) _⟩
  have hk2' : (x.kind == 2) = false := by simpa using hk2
  by_cases hk10 : x.kind = 10
  · have hkl : x.kids.length = 1 := kid1 HO.out (.inl hk10)
    have hp0 : 0 < x.kids.length := by omega
    obtain ⟨b0, o0, g0, hA0, hb0, hat0, hg0⟩ := (HX.out w (Below.refl _ _)).kid hp0
    simp only [Nat.zero_mul, Nat.add_zero] at hat0
    obtain ⟨m0, hm0⟩ : ∃ m, (x.kids[0]).perm s = m := ⟨_, rfl⟩
    have hr0 : 0 ≤ m0 ∧ m0 ≤ 1000 := by rw [← hm0]; exact perm_range HS.out.1 _
    have hkI0 : (0 : Int) < (x.kids.length : Int) := by omega
    have Hz := Lib.hid (show R = 1000 - m0 by rw [He.out]; unfold topP; rw [if_neg hk2, if_pos hk10, at0_kidE hp0, hm0])
    have hww : IntKind.i64.wrap (1000 - m0) = 1000 - m0 := IntWalk.i64_in _ (by omega)
    have HX0 := Lib.hid (IH.out _ (List.getElem_mem hp0) g0 b0 o0 s sf sb so w width (deep - 1) m0 hb0 hat0 hg0 ((exOk_iff.1 HO.out).2.2.1 _ (List.getElem_mem _)) HS.out.1 HS.out.2 hsw (SX.out w (Below.refl _ _)).1 (SX.out w (Below.refl _ _)).2 hm0)
    rw [hA0] at c4
    rw [hk10] at c0
    clear hA0 hm0 hg0 hk10 hk2 hkl
    go_enter Try.func67, Try.ntmps67
    go_wp2_with fail
    refine HX0.out.mono ?_
    rintro e w2 ⟨rfl, hb2⟩
    go_wp2
    go_ret
    exact ⟨ret_int Hz.out.symm, hb2⟩
  have hk10' : (x.kind == 10) = false := by simpa using hk10
  by_cases hk89 : x.kind = 8 ∨ x.kind = 9
  · have hkl : x.kids.length = 2 := kid2 HO.out (by omega)
    have hp0 : 0 < x.kids.length := by omega
    have hp1 : 1 < x.kids.length := by omega
    obtain ⟨b0, o0, g0, hA0, hb0, hat0, hg0⟩ := (HX.out w (Below.refl _ _)).kid hp0
    simp only [Nat.zero_mul, Nat.add_zero] at hat0
    obtain ⟨m0, hm0⟩ : ∃ m, (x.kids[0]).perm s = m := ⟨_, rfl⟩
    obtain ⟨m1, hm1⟩ : ∃ m, (x.kids[1]).perm s = m := ⟨_, rfl⟩
    have hr0 : 0 ≤ m0 ∧ m0 ≤ 1000 := by rw [← hm0]; exact perm_range HS.out.1 _
    have hr1 : 0 ≤ m1 ∧ m1 ≤ 1000 := by rw [← hm1]; exact perm_range HS.out.1 _
    have hkI0 : (0 : Int) < (x.kids.length : Int) := by omega
    have hkI1 : (1 : Int) < (x.kids.length : Int) := by omega
    obtain ⟨p1, p2, p3, p4⟩ := pm_mul hr0 hr1
    have hmr := mul_range hr0 hr1
    have hw1 : IntKind.i64.wrap (m0 + m1) = m0 + m1 := IntWalk.i64_in _ (by omega)
    have hw2 : IntKind.i64.wrap (m0 + m1 - m0 * m1 / 1000) = m0 + m1 - m0 * m1 / 1000 := IntWalk.i64_in _ (by omega)
    have HX0 := Lib.hid (IH.out _ (List.getElem_mem hp0) g0 b0 o0 s sf sb so w width (deep - 1) m0 hb0 hat0 hg0 ((exOk_iff.1 HO.out).2.2.1 _ (List.getElem_mem _)) HS.out.1 HS.out.2 hsw (SX.out w (Below.refl _ _)).1 (SX.out w (Below.refl _ _)).2 hm0)
    have HA0 := Lib.hid hA0
    rw [hA0] at c4
    have hk3 : x.kind = 8 ∨ x.kind = 9 := hk89
    have Hm1 := Lib.hid hm1
    have Hm0 := Lib.hid hm0
    clear hA0 hm0 hm1 hg0 hkl hmr hk89
    rcases hk3 with hk | hk
    · have Hz := Lib.hid (show R = m0 * m1 / 1000 by rw [He.out]; unfold topP; rw [if_neg hk2, if_neg hk10, if_pos hk, at0_kidE hp0, at0_kidE hp1, Hm0.out, Hm1.out])
      rw [hk] at c0
      have Hk := Lib.hid hk
      clear hk hk2 hk10
      go_enter Try.func67, Try.ntmps67
      go_wp2_with fail
      refine HX0.out.mono ?_
      rintro e w2 ⟨rfl, hb2⟩
      obtain ⟨b1, o1, g1, hA1, hb1, hat1, hg1⟩ := (HX.out w2 hb2).kid hp1
      rw [HA0.out] at hA1
      cases hA1
      simp only [Nat.one_mul] at hat1
      obtain ⟨l0, l1, l2, l3, l4⟩ := CX.out w2 hb2
      rw [Ha4.out.1, Hk.out] at l0
      rw [Ha4.out.2, HA0.out] at l4
      have HX1 := Lib.hid (IH.out _ (List.getElem_mem hp1) g1 b0 (o0 + 5) s sf sb so w2 width (deep - 1) m1 hb1 hat1 hg1 ((exOk_iff.1 HO.out).2.2.1 _ (List.getElem_mem _)) HS.out.1 HS.out.2 (Nat.lt_of_lt_of_le hsw hb2.size) (SX.out w2 hb2).1 (SX.out w2 hb2).2 Hm1.out)
      have H2 := Lib.hid hb2
      have hbw2 : b < w2.heap.size := Nat.lt_of_lt_of_le hbw hb2.size
      clear hb2 hg1 hat1
      go_wp2_with fail
      refine HX1.out.mono ?_
      rintro e w3 ⟨rfl, hb3⟩
      have r0 := (hb3.cell (p := ⟨_, _, none⟩) hbw2).trans l0
      go_wp2
      go_ret
      exact ⟨ret_int Hz.out.symm, bch H2.out hb3⟩
    · have Hz := Lib.hid (show R = m0 + m1 - m0 * m1 / 1000 by rw [He.out]; unfold topP; rw [if_neg hk2, if_neg hk10, if_neg (by omega), if_pos hk, at0_kidE hp0, at0_kidE hp1, Hm0.out, Hm1.out])
      rw [hk] at c0
      have Hk := Lib.hid hk
      clear hk hk2 hk10
      go_enter Try.func67, Try.ntmps67
      go_wp2_with fail
      refine HX0.out.mono ?_
      rintro e w2 ⟨rfl, hb2⟩
      obtain ⟨b1, o1, g1, hA1, hb1, hat1, hg1⟩ := (HX.out w2 hb2).kid hp1
      rw [HA0.out] at hA1
      cases hA1
      simp only [Nat.one_mul] at hat1
      obtain ⟨l0, l1, l2, l3, l4⟩ := CX.out w2 hb2
      rw [Ha4.out.1, Hk.out] at l0
      rw [Ha4.out.2, HA0.out] at l4
      have HX1 := Lib.hid (IH.out _ (List.getElem_mem hp1) g1 b0 (o0 + 5) s sf sb so w2 width (deep - 1) m1 hb1 hat1 hg1 ((exOk_iff.1 HO.out).2.2.1 _ (List.getElem_mem _)) HS.out.1 HS.out.2 (Nat.lt_of_lt_of_le hsw hb2.size) (SX.out w2 hb2).1 (SX.out w2 hb2).2 Hm1.out)
      have H2 := Lib.hid hb2
      have hbw2 : b < w2.heap.size := Nat.lt_of_lt_of_le hbw hb2.size
      clear hb2 hg1 hat1
      go_wp2_with fail
      refine HX1.out.mono ?_
      rintro e w3 ⟨rfl, hb3⟩
      have r0 := (hb3.cell (p := ⟨_, _, none⟩) hbw2).trans l0
      go_wp2
      go_ret
      exact ⟨ret_int Hz.out.symm, bch H2.out hb3⟩
  have h8 : ¬ x.kind = 8 := by omega
  have h9 : ¬ x.kind = 9 := by omega
  have hk8' : (x.kind == 8) = false := by
    have : x.kind ≠ 8 := by omega
    simpa using this
  have hk9' : (x.kind == 9) = false := by
    have : x.kind ≠ 9 := by omega
    simpa using this
  by_cases hk6 : x.kind = 6
  · have HQ := Lib.hid (HEQ.out hk6 (show eqTop s x.kids = R by rw [He.out]; unfold topP eqTop; rw [if_neg hk2, if_neg hk10, if_neg h8, if_neg h9, if_pos hk6]))
    rw [hk6] at c0
    clear hk6 hk2 hk10 hk89
    go_enter Try.func67, Try.ntmps67
    go_wp2_with fail
    refine HQ.out.mono ?_
    rintro e w2 ⟨rfl, hb2⟩
    go_wp2
    go_ret
    exact ⟨rfl, hb2⟩
  have hk6' : (x.kind == 6) = false := by simpa using hk6
  by_cases hk7 : x.kind = 7
  · have Hz := Lib.hid (show R = 333 by rw [He.out]; unfold topP; rw [if_neg hk2, if_neg hk10, if_neg h8, if_neg h9, if_neg hk6, if_pos hk7])
    rw [hk7] at c0
    clear hk2 hk10 hk89 hk6 hk7
    go_enter Try.func67, Try.ntmps67
    go_wp2
    go_ret
    exact ⟨ret_int Hz.out.symm, Below.refl _ _⟩
  have hk7' : (x.kind == 7) = false := by simpa using hk7
  by_cases hk11 : x.kind = 11
  case neg =>
    have Hz := Lib.hid (show R = 500 by rw [He.out]; unfold topP; rw [if_neg hk2, if_neg hk10, if_neg h8, if_neg h9, if_neg hk6, if_neg hk7, if_neg hk11])
    have hk11' : (x.kind == 11) = false := by simpa using hk11
    clear hk2 hk10 hk89 hk6 hk7 hk11
    go_enter Try.func67, Try.ntmps67
    go_wp2
    go_ret
    exact ⟨ret_int Hz.out.symm, Below.refl _ _⟩
  case pos =>
    have hkl : x.kids.length = 1 := kid1 HO.out (.inr hk11)
    have hp0 : 0 < x.kids.length := by omega
    obtain ⟨b0, o0, g0, hA0, hb0, hat0, hg0⟩ := (HX.out w (Below.refl _ _)).kid hp0
    obtain ⟨d0, d1, d2, d3, d4⟩ := hat0
    simp only [Nat.zero_mul, Nat.add_zero] at d0 d1 d2 d3 d4
    have e1 := hg0.flat.1
    have e2 := hg0.flat.2.1
    rw [e1] at d0
    rw [e2] at d1
    have hkI0 : (0 : Int) < (x.kids.length : Int) := by omega
    have Hz := Lib.hid (show R = if (x.kids[0]).kind = 1 ∧ 0 < s.rows then 1000 * s.nulls.getD (x.kids[0]).col.toNat 0 / s.rows else 0 by
      rw [He.out]; unfold topP; rw [if_neg hk2, if_neg hk10, if_neg h8, if_neg h9, if_neg hk6, if_neg hk7, if_pos hk11, kidE_at hp0]; rfl)
    have HOK := Lib.hid ((exOk_iff.1 HO.out).2.2.1 _ (List.getElem_mem hp0))
    have Hcol := Lib.hid (fun hk => col_at HOK.out hk)
    rw [hA0] at c4
    rw [hk11] at c0
    obtain ⟨kd, hkd⟩ : ∃ z, (x.kids[0]).kind = z := ⟨_, rfl⟩
    obtain ⟨cl, hcl⟩ : ∃ z, (x.kids[0]).col = z := ⟨_, rfl⟩
    rw [hkd, hcl] at Hz
    rw [hkd, hcl] at Hcol
    rw [hkd] at d0
    rw [hcl] at d1
    obtain ⟨t1, ⟨t2, t2', t2''⟩, ⟨t3, t3', t3''⟩, t4, t5⟩ := (SX.out w (Below.refl _ _)).2
    rw [t1] at s0
    rw [t3] at s2
    have hrw : 0 ≤ s.rows ∧ s.rows ≤ 400 := by have := HS.out.1.1; omega
    obtain ⟨hr0, hr4⟩ := hrw
    clear hA0 hg0 hk11 hk7 hk6 hk89 hk10 hk2 hkl e1 e2 hkd hcl t1 t2 t2' t2'' t3 t3' t3'' t4 s1 d2 d3 d4
    by_cases h1 : kd = 1
    case neg =>
      have h1' : (kd != 1) = true := by simpa using h1
      have Hv := Lib.hid (show R = 0 by rw [Hz.out, if_neg fun hh => h1 hh.1])
      clear h1
      go_enter Try.func67, Try.ntmps67
      go_wp2
      go_ret
      exact ⟨ret_int Hv.out.symm, Below.refl _ _⟩
    case pos =>
      have h1' : (kd != 1) = false := by simp [h1]
      obtain ⟨c, hc, hcw⟩ := Hcol.out h1
      have H1 := Lib.hid h1
      clear h1
      by_cases h2 : s.rows = 0
      case pos =>
        have h2' : (s.rows == 0) = true := by simp [h2]
        have Hv := Lib.hid (show R = 0 by rw [Hz.out, if_neg fun hh => by omega])
        clear hc h2
        go_enter Try.func67, Try.ntmps67
        go_wp2
        go_ret
        exact ⟨ret_int Hv.out.symm, Below.refl _ _⟩
      case neg =>
        have h2' : (s.rows == 0) = false := by simpa using h2
        have h2p : 0 < s.rows := by omega
        have hcn : c < s.nulls.length := by have := HS.out.1.1; have := HS.out.2; omega
        obtain ⟨bn, on_, hAn, hBn, dn⟩ := t5.at1 (f := Value.int .i64) hcn
        obtain ⟨n, hn⟩ : ∃ n, s.nulls[c] = n := ⟨_, rfl⟩
        have hnd : s.nulls.getD c 0 = n := by rw [List.getD_eq_getElem?_getD, List.getElem?_eq_getElem hcn, hn]; rfl
        have hg := getD_stok HS.out.1 c
        rw [hnd] at hg
        have Hv := Lib.hid (show R = 1000 * n / s.rows by rw [Hz.out, if_pos ⟨H1.out, h2p⟩, hc, Int.toNat_natCast, hnd]; rfl)
        obtain ⟨q1, q2, q3, q4⟩ := pm_quo (a := 1000 * n) (b := s.rows) (by omega) (by omega) h2p
        have hcnI : (c : Int) < (s.nulls.length : Int) := by omega
        rw [hAn] at s2
        rw [hn] at dn
        rw [hc] at d1
        have C4 := fun z : Aft w.heap.size w => z.cell hbw c4
        have D1 := fun z : Aft w.heap.size w => z.cell hb0 d1
        have S0 := fun z : Aft w.heap.size w => z.cell hsw s0
        have S2 := fun z : Aft w.heap.size w => z.cell hsw s2
        have E2 := fun z : Aft w.heap.size w => z.cell hBn dn
        clear t5 hAn hn hnd hg hc
        go_enter Try.func67, Try.ntmps67
        go_wp2
        go_quiet (fail)
        go_wp2
        go_ret
        exact ⟨ret_int Hv.out.symm, bdrewN (Below.refl _ _) _⟩
end Go.Proofs.Ytnecmacjlggkeaa
