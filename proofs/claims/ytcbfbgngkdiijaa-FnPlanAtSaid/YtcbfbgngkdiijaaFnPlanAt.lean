/-
  FnPlanAt returns true for all bytes and leaves them as they were. No condition. (Printed by wip/fpa.py.)
-/
import Derived.Test.YtcbfbgngkdiijaaRows
import Derived.OpenShut
import Derived.Test.YtcbfbgngkdiijaaAtS
import Derived.Test.YtcbfbgngkdiijaaDrA
import Derived.Test.YtcbfbgngkdiijaaEqP
import Derived.Test.YtcbfbgngkdiijaaArgB
import Derived.Deep.DeepCutAuto
namespace Go.Proofs.Ytcbfbgngkdiijaa
open Go.RowKit Go.Qo
open Go.ChangeShapes Go.WideShapes Go.ChangeAt
set_option linter.unusedVariables false
set_option linter.unusedSimpArgs false

/-- What is held of a plan in a box. -/
def Bx (w0 : Nat) (x : Pl) (b : Nat) (f : FP) (z : World) : Prop := w0 ≤ b ∧ Row z b 27 (fpC f) ∧ PlT Any z f x
theorem Bx.on {w0 b : Nat} {x : Pl} {f : FP} {z z' : World} (h : Bx w0 x b f z) (hb : Below z.heap.size z z') : Bx w0 x b f z' := ⟨h.1, h.2.1.on hb, h.2.2.keep hb.size fun k _ hl => hb.block k hl⟩
theorem Bx.cells {w0 b : Nat} {x : Pl} {f : FP} {z : World} (h : Bx w0 x b f z) : z.cell? ⟨b, 0, none⟩ = some (.int .i64 f.kind) ∧ z.cell? ⟨b, 1, none⟩ = some (.int .i64 f.table) ∧ z.cell? ⟨b, 2, none⟩ = some (.slice f.es.A f.es.n f.es.c) ∧ z.cell? ⟨b, 3, none⟩ = some (.slice f.cs.A f.cs.n f.cs.c) ∧ z.cell? ⟨b, 4, none⟩ = some (.slice f.ks.A f.ks.n f.ks.c) := ⟨h.2.1.cell 0, h.2.1.cell 1, h.2.1.cell 2, h.2.1.cell 3, h.2.1.cell 4⟩
theorem apD_le : apD ≤ 1048576 := by decide
theorem five_of {z : World} {b : Nat} {f : FP} (h : Row z b 27 (fpC f)) : z.cell? ⟨b, 0, none⟩ = some (.int .i64 f.kind) ∧ z.cell? ⟨b, 1, none⟩ = some (.int .i64 f.table) ∧ z.cell? ⟨b, 2, none⟩ = some (.slice f.es.A f.es.n f.es.c) ∧ z.cell? ⟨b, 3, none⟩ = some (.slice f.cs.A f.cs.n f.cs.c) ∧ z.cell? ⟨b, 4, none⟩ = some (.slice f.ks.A f.ks.n f.ks.c) := ⟨h.cell 0, h.cell 1, h.cell 2, h.cell 3, h.cell 4⟩

set_option maxRecDepth 20000 in
set_option maxHeartbeats 8000000 in
theorem FnPlanAt_walk (A : Option Addr) (c : Nat) (xs : List Int) (A0 : Option Addr) (c0 : Nat) (zs : List Int) (w : World) (hc : xs.length ≤ c) (hm : c ≤ maxLen) (hg : ∀ x ∈ xs, 0 ≤ x ∧ x ≤ 255) (h : Sl 1 byteC w w.heap.size A xs) (hc0 : zs.length ≤ c0) (hm0 : c0 ≤ maxLen) (hg0 : ∀ x ∈ zs, 0 ≤ x ∧ x ≤ 255) (h0 : Sl 1 byteC w w.heap.size A0 zs) :
    Calls Try.prog 4 #[.slice A xs.length c, .slice A0 zs.length c0] w fun e w' => e = .returned (.bool true) ∧ Below w.heap.size w w' := by
  have HD := Lib.hid (drawPlanAt_ok A c xs w hc hm hg h)
  have hx63 : xs.length ≤ 9223372036854775807 := by unfold maxLen at hm; omega
  have hz63 : zs.length ≤ 9223372036854775807 := by unfold maxLen at hm0; omega
  clear h hg hc hm h0 hg0 hc0 hm0
  by_cases hx : (1048576 : Int) < xs.length
  · clear HD
    go_enter Try.func4, Try.ntmps4
    go_wp2
    go_ret
    exact ⟨rfl, Below.refl _ _⟩
  by_cases hz : (1048576 : Int) < zs.length
  · clear HD
    go_enter Try.func4, Try.ntmps4
    go_wp2
    go_ret
    exact ⟨rfl, Below.refl _ _⟩
  go_enter Try.func4, Try.ntmps4
  go_wp2_with fail
  refine HD.out.mono ?_
  rintro e w3 ⟨pf, px, A2, is, c2, rfl, hx3, hpn, hs2, hil, hic, hb3⟩
  unfold fpV
  obtain ⟨W4, hW4⟩ : ∃ z, w3.alloc (.cells #[.int .i64 pf.kind, .int .i64 pf.table, .slice pf.es.A pf.es.n pf.es.c, .slice pf.cs.A pf.cs.n pf.cs.c, .slice pf.ks.A pf.ks.n pf.ks.c] 27) = z := ⟨_, rfl⟩
  obtain ⟨pb, hpb⟩ : ∃ n, w3.heap.size = n := ⟨_, rfl⟩
  have B4 : Below w3.heap.size w3 W4 := by rw [← hW4]; exact balloc (Below.refl _ _) _
  have bp : Bx 0 px pb pf W4 := ⟨Nat.zero_le _, by rw [← hW4, ← hpb]; exact (Row.new _ _ _).of rfl, (hx3.keep B4.size fun k _ hl => B4.block k hl).mono fun _ _ _ => trivial⟩
  have BP := Lib.hid (fun (z : World) (hz : Below W4.heap.size W4 z) => bp.on hz)
  have HS := Lib.hid (fun (z : World) (hz : Below W4.heap.size W4 z) => (hs2.on B4).on hz)
  have HN := Lib.hid (show plN px ≤ 1048576 from Nat.le_trans hpn apD_le)
  have HB3 := Lib.hid (And.intro hb3 B4)
  have HW4 := Lib.hid hW4
  have Hpb := Lib.hid hpb
  have HIC := Lib.hid (And.intro hil hic)
  have KI := Lib.hid (fun (z : World) (hz : Below W4.heap.size W4 z) => implPlanAt_ok pf px A2 c2 is z Any (BP.out z hz).2.2 HN.out (HS.out z hz) (by omega))
  have KS := Lib.hid (fun (z : World) (hz : Below W4.heap.size W4 z) => specPlanAt_ok pf px A2 c2 is z (BP.out z hz).2.2 (HS.out z hz) (by omega))
  unfold fpV at KI KS
  obtain ⟨x0, x1, x2, x3, x4⟩ := (BP.out _ (Below.refl _ _)).cells
  have hpl := (BP.out _ (Below.refl _ _)).2.1.lt
  clear hx3 hpn hs2 hil hic hb3 B4 bp hW4 hpb HD
  go_upto_region 4 with fail
  rw [HW4.out, Hpb.out]
  go_wp2_with fail
  refine (KI.out _ (Below.refl _ _)).mono ?_
  rintro e w5 ⟨qf, rfl, hq, hb5⟩
  obtain ⟨t, ht⟩ : ∃ t, (atP px is).isSome = t := ⟨_, rfl⟩
  obtain ⟨R, hR⟩ : ∃ R, resP (atP px is) = R := ⟨_, rfl⟩
  rw [hR] at hq
  rw [ht]
  obtain ⟨W6, hW6⟩ : ∃ z, w5.alloc (.cells #[.int .i64 qf.kind, .int .i64 qf.table, .slice qf.es.A qf.es.n qf.es.c, .slice qf.cs.A qf.cs.n qf.cs.c, .slice qf.ks.A qf.ks.n qf.ks.c] 27) = z := ⟨_, rfl⟩
  obtain ⟨qb, hqb⟩ : ∃ n, w5.heap.size = n := ⟨_, rfl⟩
  have B6 : Below w5.heap.size w5 W6 := by rw [← hW6]; exact balloc (Below.refl _ _) _
  have bq : Bx 0 R qb qf W6 := ⟨Nat.zero_le _, by rw [← hW6, ← hqb]; exact (Row.new _ _ _).of rfl, (hq.keep B6.size fun k _ hl => B6.block k hl).mono fun _ _ _ => trivial⟩
  have BQ := Lib.hid (fun (z : World) (hz : Below W6.heap.size W6 z) => bq.on hz)
  have H6 := Lib.hid (bch hb5 B6)
  have HW6 := Lib.hid hW6
  have Hqb := Lib.hid hqb
  have HT := Lib.hid ht
  have HR := Lib.hid hR
  unfold fpV
  obtain ⟨x0, x1, x2, x3, x4⟩ := (BP.out _ H6.out).cells
  have hpl := (BP.out _ H6.out).2.1.lt
  clear hq hb5 ht hR B6 bq hW6 hqb
  go_upto_region 5 with fail
  rw [HW6.out, Hqb.out]
  go_wp2_with fail
  refine (KS.out _ H6.out).mono ?_
  rintro e w7 ⟨wf, rfl, hwf, hb7⟩
  rw [HT.out]
  rw [HR.out] at hwf
  obtain ⟨W8, hW8⟩ : ∃ z, w7.alloc (.cells #[.int .i64 wf.kind, .int .i64 wf.table, .slice wf.es.A wf.es.n wf.es.c, .slice wf.cs.A wf.cs.n wf.cs.c, .slice wf.ks.A wf.ks.n wf.ks.c] 27) = z := ⟨_, rfl⟩
  obtain ⟨wb, hwb⟩ : ∃ n, w7.heap.size = n := ⟨_, rfl⟩
  have B8 : Below w7.heap.size w7 W8 := by rw [← hW8]; exact balloc (Below.refl _ _) _
  have bw : Bx 0 R wb wf W8 := ⟨Nat.zero_le _, by rw [← hW8, ← hwb]; exact (Row.new _ _ _).of rfl, (hwf.keep B8.size fun k _ hl => B8.block k hl).mono fun _ _ _ => trivial⟩
  have BW := Lib.hid (fun (z : World) (hz : Below W8.heap.size W8 z) => bw.on hz)
  have H8 := Lib.hid (bch hb7 B8)
  have HW8 := Lib.hid hW8
  have Hwb := Lib.hid hwb
  have KE := Lib.hid (fun (z : World) (hz : Below W8.heap.size W8 z) => equalPlans_ok R qf wf z (BQ.out z (bch H8.out hz)).2.2.in_ (BW.out z hz).2.2.in_)
  unfold fpV at KE
  unfold fpV
  obtain ⟨x0, x1, x2, x3, x4⟩ := (BQ.out _ H8.out).cells
  obtain ⟨y0, y1, y2, y3, y4⟩ := (BW.out _ (Below.refl _ _)).cells
  have hql := (BQ.out _ H8.out).2.1.lt
  have hwl := (BW.out _ (Below.refl _ _)).2.1.lt
  clear hwf hb7 B8 bw hW8 hwb
  go_upto_region 6 with fail
  rw [HW8.out, Hwb.out]
  cases t
  · have hnn : (false != false) = false := rfl
    go_wp2_with fail
    refine (KE.out _ (Below.refl _ _)).mono ?_
    rintro e w9 ⟨rfl, hb9⟩
    obtain ⟨x0, x1, x2, x3, x4⟩ := (BQ.out _ (bch H8.out hb9)).cells
    obtain ⟨y0, y1, y2, y3, y4⟩ := (BW.out _ hb9).cells
    have hql := (BQ.out _ (bch H8.out hb9)).2.1.lt
    have hwl := (BW.out _ hb9).2.1.lt
    have H9 := Lib.hid hb9
    clear hb9
    go_wp2_with fail
    refine (KE.out _ H9.out).mono ?_
    rintro e w10 ⟨rfl, hb10⟩
    go_wp2
    go_ret
    exact ⟨rfl, bch HB3.out.1 (bch HB3.out.2 (bch H6.out (bch H8.out (bch H9.out hb10))))⟩
  · obtain ⟨y, hy⟩ : ∃ y, atP px is = some y := by have := HT.out; rwa [Option.isSome_iff_exists] at this
    have hRy : R = y := by rw [← HR.out, hy]; rfl
    subst hRy
    have HY := Lib.hid hy
    go_wp2_with fail
    refine (KE.out _ (Below.refl _ _)).mono ?_
    rintro e w9 ⟨rfl, hb9⟩
    have H9 := Lib.hid (bch H6.out (bch H8.out hb9))
    have HQ9 := Lib.hid (show Below W6.heap.size W6 w9 from bch H8.out hb9)
    obtain ⟨k, hk⟩ : ∃ k, zs.length % (is.length + 1) = k := ⟨_, rfl⟩
    have hk1 : k ≤ is.length := by have := Nat.mod_lt zs.length (show 0 < is.length + 1 by omega); omega
    have ek : (zs.length : Int).tmod ((is.length : Int) + 1) = (k : Int) := by rw [← hk]; exact Int.ofNat_tmod _ _
    have ek2 : (zs.length : Int) % ((is.length : Int) + 1) = (k : Int) := by rw [← hk]; rfl
    have hkz : ¬ ((is.length : Int) + 1 = 0) := by omega
    have hil9 : is.length ≤ 3 := HIC.out.1
    have hicc : is.length ≤ c2 := HIC.out.2.1
    have hkc : k ≤ c2 := by omega
    have hwi : IntKind.i64.wrap ((is.length : Int) + 1) = (is.length : Int) + 1 := IntWalk.i64_in _ (by omega)
    obtain ⟨M, hM⟩ : ∃ M, atP px (is.take k) = some M := by
      have h1 := HY.out
      rw [← List.take_append_drop k is, atP_append] at h1
      cases h2 : atP px (is.take k) with
      | none => rw [h2] at h1; cases h1
      | some M => exact ⟨M, rfl⟩
    have hM2 : atP M (is.drop k) = some R := by
      have h1 := HY.out
      rw [← List.take_append_drop k is, atP_append, hM] at h1
      exact h1
    have HM := Lib.hid (And.intro hM hM2)
    have K9 := Lib.hid (fun (z : World) (S : Nat → Prop) (hz : Below w9.heap.size w9 z) (hS : PlT S z pf px) => implPlanAt_ok pf px A2 c2 (is.take k) z S hS HN.out ((HS.out z (bch H9.out hz)).cut k) (by rw [List.length_take]; omega))
    rw [List.length_take, Nat.min_eq_left hk1] at K9
    unfold fpV at K9
    have HP9 := Lib.hid (fun (z : World) (hz : Below w9.heap.size w9 z) => show z.cell? ⟨pb, 0, none⟩ = some (.int .i64 pf.kind) ∧ z.cell? ⟨pb, 1, none⟩ = some (.int .i64 pf.table) ∧ z.cell? ⟨pb, 2, none⟩ = some (.slice pf.es.A pf.es.n pf.es.c) ∧ z.cell? ⟨pb, 3, none⟩ = some (.slice pf.cs.A pf.cs.n pf.cs.c) ∧ z.cell? ⟨pb, 4, none⟩ = some (.slice pf.ks.A pf.ks.n pf.ks.c) from five_of ((BP.out z (bch H9.out hz)).2.1))
    have hpl9 : pb < w9.heap.size := (BP.out _ H9.out).2.1.lt
    clear hb9 hk hM hM2 x0 x1 x2 x3 x4 y0 y1 y2 y3 y4 hql hwl hy
    go_upto_region 9 with fail
    go_cut [12, 13] (fun s12 s13 wx => ∃ (bx : Nat) (g : FP), s12 = .pointer (some ⟨bx, 0, none⟩) ∧ s13 = .bool true ∧ Bx w9.heap.size M bx g wx ∧ PlT (fun j => j ≠ bx) wx g M ∧ Below w9.heap.size w9 wx)
    case first =>
      obtain ⟨u, hu⟩ : ∃ u, w9.drew = u := ⟨_, rfl⟩
      have Bu := Lib.hid (show Below w9.heap.size w9 u from hu ▸ (Below.refl _ _).drew)
      have Hu := Lib.hid hu
      clear hu
      refine wp_region_g 10 (fun z => z.cell? ⟨pb, 0, none⟩ = some (.int .i64 pf.kind) ∧ z.cell? ⟨pb, 1, none⟩ = some (.int .i64 pf.table) ∧ z.cell? ⟨pb, 2, none⟩ = some (.slice pf.es.A pf.es.n pf.es.c) ∧ z.cell? ⟨pb, 3, none⟩ = some (.slice pf.cs.A pf.cs.n pf.cs.c) ∧ z.cell? ⟨pb, 4, none⟩ = some (.slice pf.ks.A pf.ks.n pf.ks.c)) (by kernel_rfl) ?_ (fun hHeld => ?_)
      · exact HP9.out _ (Below.refl _ _).drew
      rw [Hu.out] at hHeld ⊢
      refine takeG (i := 0) (v := ?v1) rfl (by kernel_rfl) (by kernel_rfl) (by kernel_rfl) (by kernel_rfl) (fun _ _ _ h => h) (Or.inl ⟨by rfl, ?hy1⟩) (by assumption) ?_
      case hy1 => ((intro w' hSw; (try dsimp only at hSw); go_simp) <;> with_reducible rfl)
      try simp only [Act.put, List.setIfInBounds_toArray, List.set_cons_zero, List.set_cons_succ]
      refine takeG (i := 1) (v := ?v2) rfl (by kernel_rfl) (by kernel_rfl) (by kernel_rfl) (by kernel_rfl) (fun _ _ _ h => h) (Or.inl ⟨by rfl, ?hy2⟩) (by assumption) ?_
      case hy2 => ((intro w' hSw; (try dsimp only at hSw); go_simp) <;> with_reducible rfl)
      try simp only [Act.put, List.setIfInBounds_toArray, List.set_cons_zero, List.set_cons_succ]
      refine takeG (i := 2) (v := ?v3) rfl (by kernel_rfl) (by kernel_rfl) (by kernel_rfl) (by kernel_rfl) (fun _ _ _ h => h) (Or.inl ⟨by rfl, ?hy3⟩) (by assumption) ?_
      case hy3 => ((intro w' hSw; (try dsimp only at hSw); go_simp) <;> with_reducible rfl)
      try simp only [Act.put, List.setIfInBounds_toArray, List.set_cons_zero, List.set_cons_succ]
      refine takeG (i := 3) (v := ?v4) rfl (by kernel_rfl) (by kernel_rfl) (by kernel_rfl) (by kernel_rfl) (fun _ _ _ h => h) (Or.inl ⟨by rfl, ?hy4⟩) (by assumption) ?_
      case hy4 => ((intro w' hSw; (try dsimp only at hSw); go_simp) <;> with_reducible rfl)
      try simp only [Act.put, List.setIfInBounds_toArray, List.set_cons_zero, List.set_cons_succ]
      refine wpAnyG_ready (rs := [4, 8]) (by kernel_rfl) (by simp) ?_
      refine readyG rfl (fun K hK => ?_) (readyG rfl (fun K hK => ?_) AllReadyG.nil)
      · skip
        go_simp
        go_at_call 9
        refine (K9.out u (fun j => j < w9.heap.size) Bu.out (((BP.out _ H9.out).2.2.mono fun j hj _ => hj).keep (Bu.out).size fun j hj hl => (Bu.out).block j hj)).mono ?_
        rintro e xa1 ⟨g, rfl, hg, hb⟩
        rw [show resP (atP px (is.take k)) = M by rw [HM.out.1]; rfl] at hg
        rw [show (atP px (is.take k)).isSome = true by rw [HM.out.1]; rfl]
        have Bxa1 := Lib.hid (bch Bu.out hb)
        have Gxa1 := Lib.hid (And.intro hg hb)
        unfold fpV
        clear hg hb
        refine hK.out _ _ ?hS5 (fun hHeld => ?_)
        case hS5 => exact fun _ => HP9.out _ Bxa1.out
        replace hHeld := hHeld (by decide)
        clear hK K
        try simp only [Act.put, List.setIfInBounds_toArray, List.set_cons_zero, List.set_cons_succ]
        refine takeG (i := 5) (v := ?v6) rfl (by kernel_rfl) (by kernel_rfl) (by kernel_rfl) (by kernel_rfl) (fun _ _ _ h => h) (Or.inl ⟨by rfl, ?hy6⟩) (by assumption) ?_
        case hy6 => ((intro w' hSw; (try dsimp only at hSw); go_simp) <;> with_reducible rfl)
        try simp only [Act.put, List.setIfInBounds_toArray, List.set_cons_zero, List.set_cons_succ]
        refine takeG (i := 6) (v := ?v7) rfl (by kernel_rfl) (by kernel_rfl) (by kernel_rfl) (by kernel_rfl) (fun _ _ _ h => h) (Or.inl ⟨by rfl, ?hy7⟩) (by assumption) ?_
        case hy7 => ((intro w' hSw; (try dsimp only at hSw); go_simp) <;> with_reducible rfl)
        try simp only [Act.put, List.setIfInBounds_toArray, List.set_cons_zero, List.set_cons_succ]
        refine takeG (i := 7) (v := ?v8) rfl (by kernel_rfl) (by kernel_rfl) (by kernel_rfl) (by kernel_rfl) (fun _ _ _ h => h) (Or.inl ⟨by rfl, ?hy8⟩) (by assumption) ?_
        case hy8 => ((intro w' hSw; (try dsimp only at hSw); go_simp) <;> with_reducible rfl)
        try simp only [Act.put, List.setIfInBounds_toArray, List.set_cons_zero, List.set_cons_succ]
        refine wpAnyG_ready (rs := [8]) (by kernel_rfl) (by simp) ?_
        refine readyG rfl (fun K hK => ?_) AllReadyG.nil
        obtain ⟨ya2, hya2⟩ : ∃ z, xa1.alloc (.cells #[.int .i64 0, .int .i64 0, .slice none 0 0, .slice none 0 0, .slice none 0 0] 27) = z := ⟨_, rfl⟩
        obtain ⟨bxya2, hbx⟩ : ∃ n, xa1.heap.size = n := ⟨_, rfl⟩
        have bya2 : Below xa1.heap.size xa1 ya2 := by rw [← hya2]; exact balloc (Below.refl _ _) _
        have Rya2 := Lib.hid (show Row ya2 bxya2 27 [.int .i64 0, .int .i64 0, .slice none 0 0, .slice none 0 0, .slice none 0 0] by rw [← hya2, ← hbx]; exact Row.new _ _ _)
        have Bya2 := Lib.hid (bch Bxa1.out bya2)
        have Xya2 := Lib.hid (And.intro bya2 hbx)
        have Hya2 := Lib.hid hya2
        clear hya2 hbx bya2
        go_simp
        rw [Hya2.out, Xya2.out.2]
        refine hK.out _ _ ?hS9 (fun hHeld => ?_)
        case hS9 => exact fun _ => HP9.out _ Bya2.out
        replace hHeld := hHeld (by decide)
        clear hK K
        try simp only [Act.put, List.setIfInBounds_toArray, List.set_cons_zero, List.set_cons_succ]
        refine wpAnyG_ready (rs := [9]) (by kernel_rfl) (by simp) ?_
        refine readyG rfl (fun K hK => ?_) AllReadyG.nil
        have e0 : ya2.cell? ⟨bxya2, 0, none⟩ = some (.int .i64 0) := Rya2.out.cell 0
        have e1 : ya2.cell? ⟨bxya2, 1, none⟩ = some (.int .i64 0) := Rya2.out.cell 1
        have e2 : ya2.cell? ⟨bxya2, 2, none⟩ = some (.slice none 0 0) := Rya2.out.cell 2
        have e3 : ya2.cell? ⟨bxya2, 3, none⟩ = some (.slice none 0 0) := Rya2.out.cell 3
        have e4 : ya2.cell? ⟨bxya2, 4, none⟩ = some (.slice none 0 0) := Rya2.out.cell 4
        have f0 := Rya2.out.frozen 0
        have f1 := Rya2.out.frozen 1
        have f2 := Rya2.out.frozen 2
        have f3 := Rya2.out.frozen 3
        have f4 := Rya2.out.frozen 4
        have hlb := Rya2.out.lt
        go_simp
        obtain ⟨za, hza⟩ : ∃ q, (((((ya2.setCell ⟨bxya2, 0, none⟩ (.int .i64 g.kind)).setCell ⟨bxya2, 1, none⟩ (.int .i64 g.table)).setCell ⟨bxya2, 2, none⟩ (.slice g.es.A g.es.n g.es.c)).setCell ⟨bxya2, 3, none⟩ (.slice g.cs.A g.cs.n g.cs.c)).setCell ⟨bxya2, 4, none⟩ (.slice g.ks.A g.ks.n g.ks.c)) = q := ⟨_, rfl⟩
        rw [hza]
        have rZ : Row za bxya2 27 (fpC g) := by rw [← hza]; exact (((((Rya2.out.set 0 _).set 1 _).set 2 _).set 3 _).set 4 _).of rfl
        have h5 : Only (fun k => k = bxya2) ya2 za := by rw [← hza]; exact set5 _ _ _ _ _ _ _
        have hcs : w9.heap.size ≤ bxya2 := by
          have h1 := Xya2.out.2
          have h2 := (Bxa1.out).size
          omega
        have hT : PlT (fun j => j ≠ bxya2) ya2 g M := ((Gxa1.out.1.mono (T := fun j => j < xa1.heap.size) fun j hj _ => hj).keep Xya2.out.1.size fun j hj hl => Xya2.out.1.block j hl).mono fun j _ hj => by
          have h1 := Xya2.out.2
          have hj : j < xa1.heap.size := hj
          omega
        have hT2 := hT.keep h5.size fun j hj hl => h5.block j hl hj
        have BZ : Below w9.heap.size w9 za := Only.from_ Bya2.out rfl h5 fun i (hi : i = bxya2) => by omega
        have HZ := Lib.hid (And.intro (show Bx w9.heap.size M bxya2 g za from ⟨hcs, rZ, hT2.mono fun _ _ _ => trivial⟩) (And.intro hT2 BZ))
        clear hza rZ h5 hcs hT hT2 BZ
        refine hK.out _ _ ?hS10 (fun hHeld => ?_)
        case hS10 => exact fun _ => HP9.out _ HZ.out.2.2
        replace hHeld := hHeld (by decide)
        clear hK K
        try simp only [Act.put, List.setIfInBounds_toArray, List.set_cons_zero, List.set_cons_succ]
        refine wpAnyG_ready (rs := [10]) (by kernel_rfl) (by simp) ?_
        refine readyG rfl (fun K hK => ?_) AllReadyG.nil
        go_simp
        refine hK.out _ _ ?hS11 (fun hHeld => ?_)
        case hS11 => exact fun h => absurd rfl h
        clear hK K
        try simp only [Act.put, List.setIfInBounds_toArray, List.set_cons_zero, List.set_cons_succ]
        refine wpAnyG_done (by kernel_rfl) ?_ _
        go_wp2
        go_meet
        exact ⟨_, g, rfl, rfl, HZ.out.1, HZ.out.2.1, HZ.out.2.2⟩
      · skip
        obtain ⟨ya1, hya1⟩ : ∃ z, u.alloc (.cells #[.int .i64 0, .int .i64 0, .slice none 0 0, .slice none 0 0, .slice none 0 0] 27) = z := ⟨_, rfl⟩
        obtain ⟨bxya1, hbx⟩ : ∃ n, u.heap.size = n := ⟨_, rfl⟩
        have bya1 : Below u.heap.size u ya1 := by rw [← hya1]; exact balloc (Below.refl _ _) _
        have Rya1 := Lib.hid (show Row ya1 bxya1 27 [.int .i64 0, .int .i64 0, .slice none 0 0, .slice none 0 0, .slice none 0 0] by rw [← hya1, ← hbx]; exact Row.new _ _ _)
        have Bya1 := Lib.hid (bch Bu.out bya1)
        have Xya1 := Lib.hid (And.intro bya1 hbx)
        have Hya1 := Lib.hid hya1
        clear hya1 hbx bya1
        go_simp
        rw [Hya1.out, Xya1.out.2]
        refine hK.out _ _ ?hS12 (fun hHeld => ?_)
        case hS12 => exact fun _ => HP9.out _ Bya1.out
        replace hHeld := hHeld (by decide)
        clear hK K
        try simp only [Act.put, List.setIfInBounds_toArray, List.set_cons_zero, List.set_cons_succ]
        refine wpAnyG_ready (rs := [4]) (by kernel_rfl) (by simp) ?_
        refine readyG rfl (fun K hK => ?_) AllReadyG.nil
        go_simp
        go_at_call 9
        refine (K9.out ya1 (fun j => j < w9.heap.size) Bya1.out (((BP.out _ H9.out).2.2.mono fun j hj _ => hj).keep (Bya1.out).size fun j hj hl => (Bya1.out).block j hj)).mono ?_
        rintro e xa2 ⟨g, rfl, hg, hb⟩
        rw [show resP (atP px (is.take k)) = M by rw [HM.out.1]; rfl] at hg
        rw [show (atP px (is.take k)).isSome = true by rw [HM.out.1]; rfl]
        have Bxa2 := Lib.hid (bch Bya1.out hb)
        have Gxa2 := Lib.hid (And.intro hg hb)
        unfold fpV
        clear hg hb
        have Rxa2 := Lib.hid (Rya1.out.on Gxa2.out.2)
        refine hK.out _ _ ?hS13 (fun hHeld => ?_)
        case hS13 => exact fun _ => HP9.out _ Bxa2.out
        replace hHeld := hHeld (by decide)
        clear hK K
        try simp only [Act.put, List.setIfInBounds_toArray, List.set_cons_zero, List.set_cons_succ]
        refine takeG (i := 5) (v := ?v14) rfl (by kernel_rfl) (by kernel_rfl) (by kernel_rfl) (by kernel_rfl) (fun _ _ _ h => h) (Or.inl ⟨by rfl, ?hy14⟩) (by assumption) ?_
        case hy14 => ((intro w' hSw; (try dsimp only at hSw); go_simp) <;> with_reducible rfl)
        try simp only [Act.put, List.setIfInBounds_toArray, List.set_cons_zero, List.set_cons_succ]
        refine takeG (i := 6) (v := ?v15) rfl (by kernel_rfl) (by kernel_rfl) (by kernel_rfl) (by kernel_rfl) (fun _ _ _ h => h) (Or.inl ⟨by rfl, ?hy15⟩) (by assumption) ?_
        case hy15 => ((intro w' hSw; (try dsimp only at hSw); go_simp) <;> with_reducible rfl)
        try simp only [Act.put, List.setIfInBounds_toArray, List.set_cons_zero, List.set_cons_succ]
        refine takeG (i := 7) (v := ?v16) rfl (by kernel_rfl) (by kernel_rfl) (by kernel_rfl) (by kernel_rfl) (fun _ _ _ h => h) (Or.inl ⟨by rfl, ?hy16⟩) (by assumption) ?_
        case hy16 => ((intro w' hSw; (try dsimp only at hSw); go_simp) <;> with_reducible rfl)
        try simp only [Act.put, List.setIfInBounds_toArray, List.set_cons_zero, List.set_cons_succ]
        refine wpAnyG_ready (rs := [9]) (by kernel_rfl) (by simp) ?_
        refine readyG rfl (fun K hK => ?_) AllReadyG.nil
        have e0 : xa2.cell? ⟨bxya1, 0, none⟩ = some (.int .i64 0) := Rxa2.out.cell 0
        have e1 : xa2.cell? ⟨bxya1, 1, none⟩ = some (.int .i64 0) := Rxa2.out.cell 1
        have e2 : xa2.cell? ⟨bxya1, 2, none⟩ = some (.slice none 0 0) := Rxa2.out.cell 2
        have e3 : xa2.cell? ⟨bxya1, 3, none⟩ = some (.slice none 0 0) := Rxa2.out.cell 3
        have e4 : xa2.cell? ⟨bxya1, 4, none⟩ = some (.slice none 0 0) := Rxa2.out.cell 4
        have f0 := Rxa2.out.frozen 0
        have f1 := Rxa2.out.frozen 1
        have f2 := Rxa2.out.frozen 2
        have f3 := Rxa2.out.frozen 3
        have f4 := Rxa2.out.frozen 4
        have hlb := Rxa2.out.lt
        go_simp
        obtain ⟨za, hza⟩ : ∃ q, (((((xa2.setCell ⟨bxya1, 0, none⟩ (.int .i64 g.kind)).setCell ⟨bxya1, 1, none⟩ (.int .i64 g.table)).setCell ⟨bxya1, 2, none⟩ (.slice g.es.A g.es.n g.es.c)).setCell ⟨bxya1, 3, none⟩ (.slice g.cs.A g.cs.n g.cs.c)).setCell ⟨bxya1, 4, none⟩ (.slice g.ks.A g.ks.n g.ks.c)) = q := ⟨_, rfl⟩
        rw [hza]
        have rZ : Row za bxya1 27 (fpC g) := by rw [← hza]; exact (((((Rxa2.out.set 0 _).set 1 _).set 2 _).set 3 _).set 4 _).of rfl
        have h5 : Only (fun k => k = bxya1) xa2 za := by rw [← hza]; exact set5 _ _ _ _ _ _ _
        have hcs : w9.heap.size ≤ bxya1 := by
          have h1 := Xya1.out.2
          have h2 := (Bu.out).size
          omega
        have hT : PlT (fun j => j ≠ bxya1) xa2 g M := Gxa2.out.1.mono fun j hj hk => by
          have h1 := Xya1.out.2
          have h2 := Xya1.out.1.size
          have h3 := Rya1.out.lt
          rcases hk with hk | hk
          · have hk : j < w9.heap.size := hk
            omega
          · omega
        have hT2 := hT.keep h5.size fun j hj hl => h5.block j hl hj
        have BZ : Below w9.heap.size w9 za := Only.from_ Bxa2.out rfl h5 fun i (hi : i = bxya1) => by omega
        have HZ := Lib.hid (And.intro (show Bx w9.heap.size M bxya1 g za from ⟨hcs, rZ, hT2.mono fun _ _ _ => trivial⟩) (And.intro hT2 BZ))
        clear hza rZ h5 hcs hT hT2 BZ
        refine hK.out _ _ ?hS17 (fun hHeld => ?_)
        case hS17 => exact fun _ => HP9.out _ HZ.out.2.2
        replace hHeld := hHeld (by decide)
        clear hK K
        try simp only [Act.put, List.setIfInBounds_toArray, List.set_cons_zero, List.set_cons_succ]
        refine wpAnyG_ready (rs := [10]) (by kernel_rfl) (by simp) ?_
        refine readyG rfl (fun K hK => ?_) AllReadyG.nil
        go_simp
        refine hK.out _ _ ?hS18 (fun hHeld => ?_)
        case hS18 => exact fun h => absurd rfl h
        clear hK K
        try simp only [Act.put, List.setIfInBounds_toArray, List.set_cons_zero, List.set_cons_succ]
        refine wpAnyG_done (by kernel_rfl) ?_ _
        go_wp2
        go_meet
        exact ⟨_, g, rfl, rfl, HZ.out.1, HZ.out.2.1, HZ.out.2.2⟩
    case rest =>
      obtain ⟨mb, mf, rfl, rfl, hbm, -, hb11⟩ := hcut
      obtain ⟨w11, h11⟩ : ∃ z, z = wc := ⟨_, rfl⟩
      subst h11
      have H11 := Lib.hid hb11
      have M11 := Lib.hid hbm.2.2
      have HP11 := Lib.hid (fun (z : World) (hz : Below w11.heap.size w11 z) => show z.cell? ⟨mb, 0, none⟩ = some (.int .i64 mf.kind) ∧ z.cell? ⟨mb, 1, none⟩ = some (.int .i64 mf.table) ∧ z.cell? ⟨mb, 2, none⟩ = some (.slice mf.es.A mf.es.n mf.es.c) ∧ z.cell? ⟨mb, 3, none⟩ = some (.slice mf.cs.A mf.cs.n mf.cs.c) ∧ z.cell? ⟨mb, 4, none⟩ = some (.slice mf.ks.A mf.ks.n mf.ks.c) from five_of ((hbm.on hz).2.1))
      have HMN := Lib.hid (show plN M ≤ 1048576 from Nat.le_trans (atP_le _ _ _ HM.out.1) HN.out)
      have K11 := Lib.hid (fun (A3 : Option Addr) (c3 : Nat) (z : World) (S : Nat → Prop) (hz : Below w11.heap.size w11 z) (hS : PlT S z mf M) (hA : ∀ b off, A2 = some ⟨b, off, none⟩ → k < is.length → A3 = some ⟨b, off + k * 1, none⟩) => implPlanAt_ok mf M A3 c3 (is.drop k) z S hS HMN.out (Sl.from_ (HS.out z (bch H9.out (bch H11.out hz))) hA) (by rw [List.length_drop]; omega))
      rw [List.length_drop] at K11
      unfold fpV at K11
      have hml := hbm.2.1.lt
      clear hbm hb11
      go_upto_region 10 with fail
      go_cut [14, 15] (fun s14 s15 wx => ∃ (bx : Nat) (g : FP), s14 = .pointer (some ⟨bx, 0, none⟩) ∧ s15 = .bool true ∧ Bx w11.heap.size R bx g wx ∧ PlT (fun j => j ≠ bx) wx g R ∧ Below w11.heap.size w11 wx)
      case first =>
        obtain ⟨v, hv⟩ : ∃ u, w11.drew = u := ⟨_, rfl⟩
        have Bv := Lib.hid (show Below w11.heap.size w11 v from hv ▸ (Below.refl _ _).drew)
        have Hv := Lib.hid hv
        clear hv
        by_cases hkc2 : c2 = k
        · skip
          refine wp_region_g 10 (fun z => z.cell? ⟨mb, 0, none⟩ = some (.int .i64 mf.kind) ∧ z.cell? ⟨mb, 1, none⟩ = some (.int .i64 mf.table) ∧ z.cell? ⟨mb, 2, none⟩ = some (.slice mf.es.A mf.es.n mf.es.c) ∧ z.cell? ⟨mb, 3, none⟩ = some (.slice mf.cs.A mf.cs.n mf.cs.c) ∧ z.cell? ⟨mb, 4, none⟩ = some (.slice mf.ks.A mf.ks.n mf.ks.c)) (by kernel_rfl) ?_ (fun hHeld => ?_)
          · exact HP11.out _ (Below.refl _ _).drew
          rw [Hv.out] at hHeld ⊢
          refine takeG (i := 0) (v := ?v19) rfl (by kernel_rfl) (by kernel_rfl) (by kernel_rfl) (by kernel_rfl) (fun _ _ _ h => h) (Or.inl ⟨by rfl, ?hy19⟩) (by assumption) ?_
          case hy19 => ((intro w' hSw; (try dsimp only at hSw); go_simp) <;> with_reducible rfl)
          try simp only [Act.put, List.setIfInBounds_toArray, List.set_cons_zero, List.set_cons_succ]
          refine takeG (i := 1) (v := ?v20) rfl (by kernel_rfl) (by kernel_rfl) (by kernel_rfl) (by kernel_rfl) (fun _ _ _ h => h) (Or.inl ⟨by rfl, ?hy20⟩) (by assumption) ?_
          case hy20 => ((intro w' hSw; (try dsimp only at hSw); go_simp) <;> with_reducible rfl)
          try simp only [Act.put, List.setIfInBounds_toArray, List.set_cons_zero, List.set_cons_succ]
          refine takeG (i := 2) (v := ?v21) rfl (by kernel_rfl) (by kernel_rfl) (by kernel_rfl) (by kernel_rfl) (fun _ _ _ h => h) (Or.inl ⟨by rfl, ?hy21⟩) (by assumption) ?_
          case hy21 => ((intro w' hSw; (try dsimp only at hSw); go_simp) <;> with_reducible rfl)
          try simp only [Act.put, List.setIfInBounds_toArray, List.set_cons_zero, List.set_cons_succ]
          refine takeG (i := 3) (v := ?v22) rfl (by kernel_rfl) (by kernel_rfl) (by kernel_rfl) (by kernel_rfl) (fun _ _ _ h => h) (Or.inl ⟨by rfl, ?hy22⟩) (by assumption) ?_
          case hy22 => ((intro w' hSw; (try dsimp only at hSw); go_simp) <;> with_reducible rfl)
          try simp only [Act.put, List.setIfInBounds_toArray, List.set_cons_zero, List.set_cons_succ]
          refine wpAnyG_ready (rs := [4, 8]) (by kernel_rfl) (by simp) ?_
          refine readyG rfl (fun K hK => ?_) (readyG rfl (fun K hK => ?_) AllReadyG.nil)
          · skip
            go_simp
            go_at_call 9
            refine (K11.out _ _ v (fun j => j < w11.heap.size) Bv.out ((M11.out.mono fun j hj _ => hj).keep (Bv.out).size fun j hj hl => (Bv.out).block j hj) ?_).mono ?_
            · intro b9 off9 hA hl
              first
              | (exfalso; omega)
              | (subst hA; simp [Addr.add_lit])
            rintro e xb1 ⟨g, rfl, hg, hb⟩
            rw [show resP (atP M (is.drop k)) = R by rw [HM.out.2]; rfl] at hg
            rw [show (atP M (is.drop k)).isSome = true by rw [HM.out.2]; rfl]
            have Bxb1 := Lib.hid (bch Bv.out hb)
            have Gxb1 := Lib.hid (And.intro hg hb)
            unfold fpV
            clear hg hb
            refine hK.out _ _ ?hS23 (fun hHeld => ?_)
            case hS23 => exact fun _ => HP11.out _ Bxb1.out
            replace hHeld := hHeld (by decide)
            clear hK K
            try simp only [Act.put, List.setIfInBounds_toArray, List.set_cons_zero, List.set_cons_succ]
            refine takeG (i := 5) (v := ?v24) rfl (by kernel_rfl) (by kernel_rfl) (by kernel_rfl) (by kernel_rfl) (fun _ _ _ h => h) (Or.inl ⟨by rfl, ?hy24⟩) (by assumption) ?_
            case hy24 => ((intro w' hSw; (try dsimp only at hSw); go_simp) <;> with_reducible rfl)
            try simp only [Act.put, List.setIfInBounds_toArray, List.set_cons_zero, List.set_cons_succ]
            refine takeG (i := 6) (v := ?v25) rfl (by kernel_rfl) (by kernel_rfl) (by kernel_rfl) (by kernel_rfl) (fun _ _ _ h => h) (Or.inl ⟨by rfl, ?hy25⟩) (by assumption) ?_
            case hy25 => ((intro w' hSw; (try dsimp only at hSw); go_simp) <;> with_reducible rfl)
            try simp only [Act.put, List.setIfInBounds_toArray, List.set_cons_zero, List.set_cons_succ]
            refine takeG (i := 7) (v := ?v26) rfl (by kernel_rfl) (by kernel_rfl) (by kernel_rfl) (by kernel_rfl) (fun _ _ _ h => h) (Or.inl ⟨by rfl, ?hy26⟩) (by assumption) ?_
            case hy26 => ((intro w' hSw; (try dsimp only at hSw); go_simp) <;> with_reducible rfl)
            try simp only [Act.put, List.setIfInBounds_toArray, List.set_cons_zero, List.set_cons_succ]
            refine wpAnyG_ready (rs := [8]) (by kernel_rfl) (by simp) ?_
            refine readyG rfl (fun K hK => ?_) AllReadyG.nil
            obtain ⟨yb2, hyb2⟩ : ∃ z, xb1.alloc (.cells #[.int .i64 0, .int .i64 0, .slice none 0 0, .slice none 0 0, .slice none 0 0] 27) = z := ⟨_, rfl⟩
            obtain ⟨bxyb2, hbx⟩ : ∃ n, xb1.heap.size = n := ⟨_, rfl⟩
            have byb2 : Below xb1.heap.size xb1 yb2 := by rw [← hyb2]; exact balloc (Below.refl _ _) _
            have Ryb2 := Lib.hid (show Row yb2 bxyb2 27 [.int .i64 0, .int .i64 0, .slice none 0 0, .slice none 0 0, .slice none 0 0] by rw [← hyb2, ← hbx]; exact Row.new _ _ _)
            have Byb2 := Lib.hid (bch Bxb1.out byb2)
            have Xyb2 := Lib.hid (And.intro byb2 hbx)
            have Hyb2 := Lib.hid hyb2
            clear hyb2 hbx byb2
            go_simp
            rw [Hyb2.out, Xyb2.out.2]
            refine hK.out _ _ ?hS27 (fun hHeld => ?_)
            case hS27 => exact fun _ => HP11.out _ Byb2.out
            replace hHeld := hHeld (by decide)
            clear hK K
            try simp only [Act.put, List.setIfInBounds_toArray, List.set_cons_zero, List.set_cons_succ]
            refine wpAnyG_ready (rs := [9]) (by kernel_rfl) (by simp) ?_
            refine readyG rfl (fun K hK => ?_) AllReadyG.nil
            have e0 : yb2.cell? ⟨bxyb2, 0, none⟩ = some (.int .i64 0) := Ryb2.out.cell 0
            have e1 : yb2.cell? ⟨bxyb2, 1, none⟩ = some (.int .i64 0) := Ryb2.out.cell 1
            have e2 : yb2.cell? ⟨bxyb2, 2, none⟩ = some (.slice none 0 0) := Ryb2.out.cell 2
            have e3 : yb2.cell? ⟨bxyb2, 3, none⟩ = some (.slice none 0 0) := Ryb2.out.cell 3
            have e4 : yb2.cell? ⟨bxyb2, 4, none⟩ = some (.slice none 0 0) := Ryb2.out.cell 4
            have f0 := Ryb2.out.frozen 0
            have f1 := Ryb2.out.frozen 1
            have f2 := Ryb2.out.frozen 2
            have f3 := Ryb2.out.frozen 3
            have f4 := Ryb2.out.frozen 4
            have hlb := Ryb2.out.lt
            go_simp
            obtain ⟨zb, hzb⟩ : ∃ q, (((((yb2.setCell ⟨bxyb2, 0, none⟩ (.int .i64 g.kind)).setCell ⟨bxyb2, 1, none⟩ (.int .i64 g.table)).setCell ⟨bxyb2, 2, none⟩ (.slice g.es.A g.es.n g.es.c)).setCell ⟨bxyb2, 3, none⟩ (.slice g.cs.A g.cs.n g.cs.c)).setCell ⟨bxyb2, 4, none⟩ (.slice g.ks.A g.ks.n g.ks.c)) = q := ⟨_, rfl⟩
            rw [hzb]
            have rZ : Row zb bxyb2 27 (fpC g) := by rw [← hzb]; exact (((((Ryb2.out.set 0 _).set 1 _).set 2 _).set 3 _).set 4 _).of rfl
            have h5 : Only (fun k => k = bxyb2) yb2 zb := by rw [← hzb]; exact set5 _ _ _ _ _ _ _
            have hcs : w11.heap.size ≤ bxyb2 := by
              have h1 := Xyb2.out.2
              have h2 := (Bxb1.out).size
              omega
            have hT : PlT (fun j => j ≠ bxyb2) yb2 g R := ((Gxb1.out.1.mono (T := fun j => j < xb1.heap.size) fun j hj _ => hj).keep Xyb2.out.1.size fun j hj hl => Xyb2.out.1.block j hl).mono fun j _ hj => by
              have h1 := Xyb2.out.2
              have hj : j < xb1.heap.size := hj
              omega
            have hT2 := hT.keep h5.size fun j hj hl => h5.block j hl hj
            have BZ : Below w11.heap.size w11 zb := Only.from_ Byb2.out rfl h5 fun i (hi : i = bxyb2) => by omega
            have HZ := Lib.hid (And.intro (show Bx w11.heap.size R bxyb2 g zb from ⟨hcs, rZ, hT2.mono fun _ _ _ => trivial⟩) (And.intro hT2 BZ))
            clear hzb rZ h5 hcs hT hT2 BZ
            refine hK.out _ _ ?hS28 (fun hHeld => ?_)
            case hS28 => exact fun _ => HP11.out _ HZ.out.2.2
            replace hHeld := hHeld (by decide)
            clear hK K
            try simp only [Act.put, List.setIfInBounds_toArray, List.set_cons_zero, List.set_cons_succ]
            refine wpAnyG_ready (rs := [10]) (by kernel_rfl) (by simp) ?_
            refine readyG rfl (fun K hK => ?_) AllReadyG.nil
            go_simp
            refine hK.out _ _ ?hS29 (fun hHeld => ?_)
            case hS29 => exact fun h => absurd rfl h
            clear hK K
            try simp only [Act.put, List.setIfInBounds_toArray, List.set_cons_zero, List.set_cons_succ]
            refine wpAnyG_done (by kernel_rfl) ?_ _
            go_wp2
            subst hkc2
            go_meet
            exact ⟨_, g, rfl, rfl, HZ.out.1, HZ.out.2.1, HZ.out.2.2⟩
          · skip
            obtain ⟨yb1, hyb1⟩ : ∃ z, v.alloc (.cells #[.int .i64 0, .int .i64 0, .slice none 0 0, .slice none 0 0, .slice none 0 0] 27) = z := ⟨_, rfl⟩
            obtain ⟨bxyb1, hbx⟩ : ∃ n, v.heap.size = n := ⟨_, rfl⟩
            have byb1 : Below v.heap.size v yb1 := by rw [← hyb1]; exact balloc (Below.refl _ _) _
            have Ryb1 := Lib.hid (show Row yb1 bxyb1 27 [.int .i64 0, .int .i64 0, .slice none 0 0, .slice none 0 0, .slice none 0 0] by rw [← hyb1, ← hbx]; exact Row.new _ _ _)
            have Byb1 := Lib.hid (bch Bv.out byb1)
            have Xyb1 := Lib.hid (And.intro byb1 hbx)
            have Hyb1 := Lib.hid hyb1
            clear hyb1 hbx byb1
            go_simp
            rw [Hyb1.out, Xyb1.out.2]
            refine hK.out _ _ ?hS30 (fun hHeld => ?_)
            case hS30 => exact fun _ => HP11.out _ Byb1.out
            replace hHeld := hHeld (by decide)
            clear hK K
            try simp only [Act.put, List.setIfInBounds_toArray, List.set_cons_zero, List.set_cons_succ]
            refine wpAnyG_ready (rs := [4]) (by kernel_rfl) (by simp) ?_
            refine readyG rfl (fun K hK => ?_) AllReadyG.nil
            go_simp
            go_at_call 9
            refine (K11.out _ _ yb1 (fun j => j < w11.heap.size) Byb1.out ((M11.out.mono fun j hj _ => hj).keep (Byb1.out).size fun j hj hl => (Byb1.out).block j hj) ?_).mono ?_
            · intro b9 off9 hA hl
              first
              | (exfalso; omega)
              | (subst hA; simp [Addr.add_lit])
            rintro e xb2 ⟨g, rfl, hg, hb⟩
            rw [show resP (atP M (is.drop k)) = R by rw [HM.out.2]; rfl] at hg
            rw [show (atP M (is.drop k)).isSome = true by rw [HM.out.2]; rfl]
            have Bxb2 := Lib.hid (bch Byb1.out hb)
            have Gxb2 := Lib.hid (And.intro hg hb)
            unfold fpV
            clear hg hb
            have Rxb2 := Lib.hid (Ryb1.out.on Gxb2.out.2)
            refine hK.out _ _ ?hS31 (fun hHeld => ?_)
            case hS31 => exact fun _ => HP11.out _ Bxb2.out
            replace hHeld := hHeld (by decide)
            clear hK K
            try simp only [Act.put, List.setIfInBounds_toArray, List.set_cons_zero, List.set_cons_succ]
            refine takeG (i := 5) (v := ?v32) rfl (by kernel_rfl) (by kernel_rfl) (by kernel_rfl) (by kernel_rfl) (fun _ _ _ h => h) (Or.inl ⟨by rfl, ?hy32⟩) (by assumption) ?_
            case hy32 => ((intro w' hSw; (try dsimp only at hSw); go_simp) <;> with_reducible rfl)
            try simp only [Act.put, List.setIfInBounds_toArray, List.set_cons_zero, List.set_cons_succ]
            refine takeG (i := 6) (v := ?v33) rfl (by kernel_rfl) (by kernel_rfl) (by kernel_rfl) (by kernel_rfl) (fun _ _ _ h => h) (Or.inl ⟨by rfl, ?hy33⟩) (by assumption) ?_
            case hy33 => ((intro w' hSw; (try dsimp only at hSw); go_simp) <;> with_reducible rfl)
            try simp only [Act.put, List.setIfInBounds_toArray, List.set_cons_zero, List.set_cons_succ]
            refine takeG (i := 7) (v := ?v34) rfl (by kernel_rfl) (by kernel_rfl) (by kernel_rfl) (by kernel_rfl) (fun _ _ _ h => h) (Or.inl ⟨by rfl, ?hy34⟩) (by assumption) ?_
            case hy34 => ((intro w' hSw; (try dsimp only at hSw); go_simp) <;> with_reducible rfl)
            try simp only [Act.put, List.setIfInBounds_toArray, List.set_cons_zero, List.set_cons_succ]
            refine wpAnyG_ready (rs := [9]) (by kernel_rfl) (by simp) ?_
            refine readyG rfl (fun K hK => ?_) AllReadyG.nil
            have e0 : xb2.cell? ⟨bxyb1, 0, none⟩ = some (.int .i64 0) := Rxb2.out.cell 0
            have e1 : xb2.cell? ⟨bxyb1, 1, none⟩ = some (.int .i64 0) := Rxb2.out.cell 1
            have e2 : xb2.cell? ⟨bxyb1, 2, none⟩ = some (.slice none 0 0) := Rxb2.out.cell 2
            have e3 : xb2.cell? ⟨bxyb1, 3, none⟩ = some (.slice none 0 0) := Rxb2.out.cell 3
            have e4 : xb2.cell? ⟨bxyb1, 4, none⟩ = some (.slice none 0 0) := Rxb2.out.cell 4
            have f0 := Rxb2.out.frozen 0
            have f1 := Rxb2.out.frozen 1
            have f2 := Rxb2.out.frozen 2
            have f3 := Rxb2.out.frozen 3
            have f4 := Rxb2.out.frozen 4
            have hlb := Rxb2.out.lt
            go_simp
            obtain ⟨zb, hzb⟩ : ∃ q, (((((xb2.setCell ⟨bxyb1, 0, none⟩ (.int .i64 g.kind)).setCell ⟨bxyb1, 1, none⟩ (.int .i64 g.table)).setCell ⟨bxyb1, 2, none⟩ (.slice g.es.A g.es.n g.es.c)).setCell ⟨bxyb1, 3, none⟩ (.slice g.cs.A g.cs.n g.cs.c)).setCell ⟨bxyb1, 4, none⟩ (.slice g.ks.A g.ks.n g.ks.c)) = q := ⟨_, rfl⟩
            rw [hzb]
            have rZ : Row zb bxyb1 27 (fpC g) := by rw [← hzb]; exact (((((Rxb2.out.set 0 _).set 1 _).set 2 _).set 3 _).set 4 _).of rfl
            have h5 : Only (fun k => k = bxyb1) xb2 zb := by rw [← hzb]; exact set5 _ _ _ _ _ _ _
            have hcs : w11.heap.size ≤ bxyb1 := by
              have h1 := Xyb1.out.2
              have h2 := (Bv.out).size
              omega
            have hT : PlT (fun j => j ≠ bxyb1) xb2 g R := Gxb2.out.1.mono fun j hj hk => by
              have h1 := Xyb1.out.2
              have h2 := Xyb1.out.1.size
              have h3 := Ryb1.out.lt
              rcases hk with hk | hk
              · have hk : j < w11.heap.size := hk
                omega
              · omega
            have hT2 := hT.keep h5.size fun j hj hl => h5.block j hl hj
            have BZ : Below w11.heap.size w11 zb := Only.from_ Bxb2.out rfl h5 fun i (hi : i = bxyb1) => by omega
            have HZ := Lib.hid (And.intro (show Bx w11.heap.size R bxyb1 g zb from ⟨hcs, rZ, hT2.mono fun _ _ _ => trivial⟩) (And.intro hT2 BZ))
            clear hzb rZ h5 hcs hT hT2 BZ
            refine hK.out _ _ ?hS35 (fun hHeld => ?_)
            case hS35 => exact fun _ => HP11.out _ HZ.out.2.2
            replace hHeld := hHeld (by decide)
            clear hK K
            try simp only [Act.put, List.setIfInBounds_toArray, List.set_cons_zero, List.set_cons_succ]
            refine wpAnyG_ready (rs := [10]) (by kernel_rfl) (by simp) ?_
            refine readyG rfl (fun K hK => ?_) AllReadyG.nil
            go_simp
            refine hK.out _ _ ?hS36 (fun hHeld => ?_)
            case hS36 => exact fun h => absurd rfl h
            clear hK K
            try simp only [Act.put, List.setIfInBounds_toArray, List.set_cons_zero, List.set_cons_succ]
            refine wpAnyG_done (by kernel_rfl) ?_ _
            go_wp2
            subst hkc2
            go_meet
            exact ⟨_, g, rfl, rfl, HZ.out.1, HZ.out.2.1, HZ.out.2.2⟩
        · skip
          refine wp_region_g 10 (fun z => z.cell? ⟨mb, 0, none⟩ = some (.int .i64 mf.kind) ∧ z.cell? ⟨mb, 1, none⟩ = some (.int .i64 mf.table) ∧ z.cell? ⟨mb, 2, none⟩ = some (.slice mf.es.A mf.es.n mf.es.c) ∧ z.cell? ⟨mb, 3, none⟩ = some (.slice mf.cs.A mf.cs.n mf.cs.c) ∧ z.cell? ⟨mb, 4, none⟩ = some (.slice mf.ks.A mf.ks.n mf.ks.c)) (by kernel_rfl) ?_ (fun hHeld => ?_)
          · exact HP11.out _ (Below.refl _ _).drew
          rw [Hv.out] at hHeld ⊢
          refine takeG (i := 0) (v := ?v37) rfl (by kernel_rfl) (by kernel_rfl) (by kernel_rfl) (by kernel_rfl) (fun _ _ _ h => h) (Or.inl ⟨by rfl, ?hy37⟩) (by assumption) ?_
          case hy37 => ((intro w' hSw; (try dsimp only at hSw); go_simp) <;> with_reducible rfl)
          try simp only [Act.put, List.setIfInBounds_toArray, List.set_cons_zero, List.set_cons_succ]
          refine takeG (i := 1) (v := ?v38) rfl (by kernel_rfl) (by kernel_rfl) (by kernel_rfl) (by kernel_rfl) (fun _ _ _ h => h) (Or.inl ⟨by rfl, ?hy38⟩) (by assumption) ?_
          case hy38 => ((intro w' hSw; (try dsimp only at hSw); go_simp) <;> with_reducible rfl)
          try simp only [Act.put, List.setIfInBounds_toArray, List.set_cons_zero, List.set_cons_succ]
          refine takeG (i := 2) (v := ?v39) rfl (by kernel_rfl) (by kernel_rfl) (by kernel_rfl) (by kernel_rfl) (fun _ _ _ h => h) (Or.inl ⟨by rfl, ?hy39⟩) (by assumption) ?_
          case hy39 => ((intro w' hSw; (try dsimp only at hSw); go_simp) <;> with_reducible rfl)
          try simp only [Act.put, List.setIfInBounds_toArray, List.set_cons_zero, List.set_cons_succ]
          refine takeG (i := 3) (v := ?v40) rfl (by kernel_rfl) (by kernel_rfl) (by kernel_rfl) (by kernel_rfl) (fun _ _ _ h => h) (Or.inl ⟨by rfl, ?hy40⟩) (by assumption) ?_
          case hy40 => ((intro w' hSw; (try dsimp only at hSw); go_simp) <;> with_reducible rfl)
          try simp only [Act.put, List.setIfInBounds_toArray, List.set_cons_zero, List.set_cons_succ]
          refine wpAnyG_ready (rs := [4, 8]) (by kernel_rfl) (by simp) ?_
          refine readyG rfl (fun K hK => ?_) (readyG rfl (fun K hK => ?_) AllReadyG.nil)
          · skip
            go_simp
            go_at_call 9
            refine (K11.out _ _ v (fun j => j < w11.heap.size) Bv.out ((M11.out.mono fun j hj _ => hj).keep (Bv.out).size fun j hj hl => (Bv.out).block j hj) ?_).mono ?_
            · intro b9 off9 hA hl
              first
              | (exfalso; omega)
              | (subst hA; simp [Addr.add_lit])
            rintro e xb1 ⟨g, rfl, hg, hb⟩
            rw [show resP (atP M (is.drop k)) = R by rw [HM.out.2]; rfl] at hg
            rw [show (atP M (is.drop k)).isSome = true by rw [HM.out.2]; rfl]
            have Bxb1 := Lib.hid (bch Bv.out hb)
            have Gxb1 := Lib.hid (And.intro hg hb)
            unfold fpV
            clear hg hb
            refine hK.out _ _ ?hS41 (fun hHeld => ?_)
            case hS41 => exact fun _ => HP11.out _ Bxb1.out
            replace hHeld := hHeld (by decide)
            clear hK K
            try simp only [Act.put, List.setIfInBounds_toArray, List.set_cons_zero, List.set_cons_succ]
            refine takeG (i := 5) (v := ?v42) rfl (by kernel_rfl) (by kernel_rfl) (by kernel_rfl) (by kernel_rfl) (fun _ _ _ h => h) (Or.inl ⟨by rfl, ?hy42⟩) (by assumption) ?_
            case hy42 => ((intro w' hSw; (try dsimp only at hSw); go_simp) <;> with_reducible rfl)
            try simp only [Act.put, List.setIfInBounds_toArray, List.set_cons_zero, List.set_cons_succ]
            refine takeG (i := 6) (v := ?v43) rfl (by kernel_rfl) (by kernel_rfl) (by kernel_rfl) (by kernel_rfl) (fun _ _ _ h => h) (Or.inl ⟨by rfl, ?hy43⟩) (by assumption) ?_
            case hy43 => ((intro w' hSw; (try dsimp only at hSw); go_simp) <;> with_reducible rfl)
            try simp only [Act.put, List.setIfInBounds_toArray, List.set_cons_zero, List.set_cons_succ]
            refine takeG (i := 7) (v := ?v44) rfl (by kernel_rfl) (by kernel_rfl) (by kernel_rfl) (by kernel_rfl) (fun _ _ _ h => h) (Or.inl ⟨by rfl, ?hy44⟩) (by assumption) ?_
            case hy44 => ((intro w' hSw; (try dsimp only at hSw); go_simp) <;> with_reducible rfl)
            try simp only [Act.put, List.setIfInBounds_toArray, List.set_cons_zero, List.set_cons_succ]
            refine wpAnyG_ready (rs := [8]) (by kernel_rfl) (by simp) ?_
            refine readyG rfl (fun K hK => ?_) AllReadyG.nil
            obtain ⟨yb2, hyb2⟩ : ∃ z, xb1.alloc (.cells #[.int .i64 0, .int .i64 0, .slice none 0 0, .slice none 0 0, .slice none 0 0] 27) = z := ⟨_, rfl⟩
            obtain ⟨bxyb2, hbx⟩ : ∃ n, xb1.heap.size = n := ⟨_, rfl⟩
            have byb2 : Below xb1.heap.size xb1 yb2 := by rw [← hyb2]; exact balloc (Below.refl _ _) _
            have Ryb2 := Lib.hid (show Row yb2 bxyb2 27 [.int .i64 0, .int .i64 0, .slice none 0 0, .slice none 0 0, .slice none 0 0] by rw [← hyb2, ← hbx]; exact Row.new _ _ _)
            have Byb2 := Lib.hid (bch Bxb1.out byb2)
            have Xyb2 := Lib.hid (And.intro byb2 hbx)
            have Hyb2 := Lib.hid hyb2
            clear hyb2 hbx byb2
            go_simp
            rw [Hyb2.out, Xyb2.out.2]
            refine hK.out _ _ ?hS45 (fun hHeld => ?_)
            case hS45 => exact fun _ => HP11.out _ Byb2.out
            replace hHeld := hHeld (by decide)
            clear hK K
            try simp only [Act.put, List.setIfInBounds_toArray, List.set_cons_zero, List.set_cons_succ]
            refine wpAnyG_ready (rs := [9]) (by kernel_rfl) (by simp) ?_
            refine readyG rfl (fun K hK => ?_) AllReadyG.nil
            have e0 : yb2.cell? ⟨bxyb2, 0, none⟩ = some (.int .i64 0) := Ryb2.out.cell 0
            have e1 : yb2.cell? ⟨bxyb2, 1, none⟩ = some (.int .i64 0) := Ryb2.out.cell 1
            have e2 : yb2.cell? ⟨bxyb2, 2, none⟩ = some (.slice none 0 0) := Ryb2.out.cell 2
            have e3 : yb2.cell? ⟨bxyb2, 3, none⟩ = some (.slice none 0 0) := Ryb2.out.cell 3
            have e4 : yb2.cell? ⟨bxyb2, 4, none⟩ = some (.slice none 0 0) := Ryb2.out.cell 4
            have f0 := Ryb2.out.frozen 0
            have f1 := Ryb2.out.frozen 1
            have f2 := Ryb2.out.frozen 2
            have f3 := Ryb2.out.frozen 3
            have f4 := Ryb2.out.frozen 4
            have hlb := Ryb2.out.lt
            go_simp
            obtain ⟨zb, hzb⟩ : ∃ q, (((((yb2.setCell ⟨bxyb2, 0, none⟩ (.int .i64 g.kind)).setCell ⟨bxyb2, 1, none⟩ (.int .i64 g.table)).setCell ⟨bxyb2, 2, none⟩ (.slice g.es.A g.es.n g.es.c)).setCell ⟨bxyb2, 3, none⟩ (.slice g.cs.A g.cs.n g.cs.c)).setCell ⟨bxyb2, 4, none⟩ (.slice g.ks.A g.ks.n g.ks.c)) = q := ⟨_, rfl⟩
            rw [hzb]
            have rZ : Row zb bxyb2 27 (fpC g) := by rw [← hzb]; exact (((((Ryb2.out.set 0 _).set 1 _).set 2 _).set 3 _).set 4 _).of rfl
            have h5 : Only (fun k => k = bxyb2) yb2 zb := by rw [← hzb]; exact set5 _ _ _ _ _ _ _
            have hcs : w11.heap.size ≤ bxyb2 := by
              have h1 := Xyb2.out.2
              have h2 := (Bxb1.out).size
              omega
            have hT : PlT (fun j => j ≠ bxyb2) yb2 g R := ((Gxb1.out.1.mono (T := fun j => j < xb1.heap.size) fun j hj _ => hj).keep Xyb2.out.1.size fun j hj hl => Xyb2.out.1.block j hl).mono fun j _ hj => by
              have h1 := Xyb2.out.2
              have hj : j < xb1.heap.size := hj
              omega
            have hT2 := hT.keep h5.size fun j hj hl => h5.block j hl hj
            have BZ : Below w11.heap.size w11 zb := Only.from_ Byb2.out rfl h5 fun i (hi : i = bxyb2) => by omega
            have HZ := Lib.hid (And.intro (show Bx w11.heap.size R bxyb2 g zb from ⟨hcs, rZ, hT2.mono fun _ _ _ => trivial⟩) (And.intro hT2 BZ))
            clear hzb rZ h5 hcs hT hT2 BZ
            refine hK.out _ _ ?hS46 (fun hHeld => ?_)
            case hS46 => exact fun _ => HP11.out _ HZ.out.2.2
            replace hHeld := hHeld (by decide)
            clear hK K
            try simp only [Act.put, List.setIfInBounds_toArray, List.set_cons_zero, List.set_cons_succ]
            refine wpAnyG_ready (rs := [10]) (by kernel_rfl) (by simp) ?_
            refine readyG rfl (fun K hK => ?_) AllReadyG.nil
            go_simp
            refine hK.out _ _ ?hS47 (fun hHeld => ?_)
            case hS47 => exact fun h => absurd rfl h
            clear hK K
            try simp only [Act.put, List.setIfInBounds_toArray, List.set_cons_zero, List.set_cons_succ]
            refine wpAnyG_done (by kernel_rfl) ?_ _
            go_wp2
            go_meet
            exact ⟨_, g, rfl, rfl, HZ.out.1, HZ.out.2.1, HZ.out.2.2⟩
          · skip
            obtain ⟨yb1, hyb1⟩ : ∃ z, v.alloc (.cells #[.int .i64 0, .int .i64 0, .slice none 0 0, .slice none 0 0, .slice none 0 0] 27) = z := ⟨_, rfl⟩
            obtain ⟨bxyb1, hbx⟩ : ∃ n, v.heap.size = n := ⟨_, rfl⟩
            have byb1 : Below v.heap.size v yb1 := by rw [← hyb1]; exact balloc (Below.refl _ _) _
            have Ryb1 := Lib.hid (show Row yb1 bxyb1 27 [.int .i64 0, .int .i64 0, .slice none 0 0, .slice none 0 0, .slice none 0 0] by rw [← hyb1, ← hbx]; exact Row.new _ _ _)
            have Byb1 := Lib.hid (bch Bv.out byb1)
            have Xyb1 := Lib.hid (And.intro byb1 hbx)
            have Hyb1 := Lib.hid hyb1
            clear hyb1 hbx byb1
            go_simp
            rw [Hyb1.out, Xyb1.out.2]
            refine hK.out _ _ ?hS48 (fun hHeld => ?_)
            case hS48 => exact fun _ => HP11.out _ Byb1.out
            replace hHeld := hHeld (by decide)
            clear hK K
            try simp only [Act.put, List.setIfInBounds_toArray, List.set_cons_zero, List.set_cons_succ]
            refine wpAnyG_ready (rs := [4]) (by kernel_rfl) (by simp) ?_
            refine readyG rfl (fun K hK => ?_) AllReadyG.nil
            go_simp
            go_at_call 9
            refine (K11.out _ _ yb1 (fun j => j < w11.heap.size) Byb1.out ((M11.out.mono fun j hj _ => hj).keep (Byb1.out).size fun j hj hl => (Byb1.out).block j hj) ?_).mono ?_
            · intro b9 off9 hA hl
              first
              | (exfalso; omega)
              | (subst hA; simp [Addr.add_lit])
            rintro e xb2 ⟨g, rfl, hg, hb⟩
            rw [show resP (atP M (is.drop k)) = R by rw [HM.out.2]; rfl] at hg
            rw [show (atP M (is.drop k)).isSome = true by rw [HM.out.2]; rfl]
            have Bxb2 := Lib.hid (bch Byb1.out hb)
            have Gxb2 := Lib.hid (And.intro hg hb)
            unfold fpV
            clear hg hb
            have Rxb2 := Lib.hid (Ryb1.out.on Gxb2.out.2)
            refine hK.out _ _ ?hS49 (fun hHeld => ?_)
            case hS49 => exact fun _ => HP11.out _ Bxb2.out
            replace hHeld := hHeld (by decide)
            clear hK K
            try simp only [Act.put, List.setIfInBounds_toArray, List.set_cons_zero, List.set_cons_succ]
            refine takeG (i := 5) (v := ?v50) rfl (by kernel_rfl) (by kernel_rfl) (by kernel_rfl) (by kernel_rfl) (fun _ _ _ h => h) (Or.inl ⟨by rfl, ?hy50⟩) (by assumption) ?_
            case hy50 => ((intro w' hSw; (try dsimp only at hSw); go_simp) <;> with_reducible rfl)
            try simp only [Act.put, List.setIfInBounds_toArray, List.set_cons_zero, List.set_cons_succ]
            refine takeG (i := 6) (v := ?v51) rfl (by kernel_rfl) (by kernel_rfl) (by kernel_rfl) (by kernel_rfl) (fun _ _ _ h => h) (Or.inl ⟨by rfl, ?hy51⟩) (by assumption) ?_
            case hy51 => ((intro w' hSw; (try dsimp only at hSw); go_simp) <;> with_reducible rfl)
            try simp only [Act.put, List.setIfInBounds_toArray, List.set_cons_zero, List.set_cons_succ]
            refine takeG (i := 7) (v := ?v52) rfl (by kernel_rfl) (by kernel_rfl) (by kernel_rfl) (by kernel_rfl) (fun _ _ _ h => h) (Or.inl ⟨by rfl, ?hy52⟩) (by assumption) ?_
            case hy52 => ((intro w' hSw; (try dsimp only at hSw); go_simp) <;> with_reducible rfl)
            try simp only [Act.put, List.setIfInBounds_toArray, List.set_cons_zero, List.set_cons_succ]
            refine wpAnyG_ready (rs := [9]) (by kernel_rfl) (by simp) ?_
            refine readyG rfl (fun K hK => ?_) AllReadyG.nil
            have e0 : xb2.cell? ⟨bxyb1, 0, none⟩ = some (.int .i64 0) := Rxb2.out.cell 0
            have e1 : xb2.cell? ⟨bxyb1, 1, none⟩ = some (.int .i64 0) := Rxb2.out.cell 1
            have e2 : xb2.cell? ⟨bxyb1, 2, none⟩ = some (.slice none 0 0) := Rxb2.out.cell 2
            have e3 : xb2.cell? ⟨bxyb1, 3, none⟩ = some (.slice none 0 0) := Rxb2.out.cell 3
            have e4 : xb2.cell? ⟨bxyb1, 4, none⟩ = some (.slice none 0 0) := Rxb2.out.cell 4
            have f0 := Rxb2.out.frozen 0
            have f1 := Rxb2.out.frozen 1
            have f2 := Rxb2.out.frozen 2
            have f3 := Rxb2.out.frozen 3
            have f4 := Rxb2.out.frozen 4
            have hlb := Rxb2.out.lt
            go_simp
            obtain ⟨zb, hzb⟩ : ∃ q, (((((xb2.setCell ⟨bxyb1, 0, none⟩ (.int .i64 g.kind)).setCell ⟨bxyb1, 1, none⟩ (.int .i64 g.table)).setCell ⟨bxyb1, 2, none⟩ (.slice g.es.A g.es.n g.es.c)).setCell ⟨bxyb1, 3, none⟩ (.slice g.cs.A g.cs.n g.cs.c)).setCell ⟨bxyb1, 4, none⟩ (.slice g.ks.A g.ks.n g.ks.c)) = q := ⟨_, rfl⟩
            rw [hzb]
            have rZ : Row zb bxyb1 27 (fpC g) := by rw [← hzb]; exact (((((Rxb2.out.set 0 _).set 1 _).set 2 _).set 3 _).set 4 _).of rfl
            have h5 : Only (fun k => k = bxyb1) xb2 zb := by rw [← hzb]; exact set5 _ _ _ _ _ _ _
            have hcs : w11.heap.size ≤ bxyb1 := by
              have h1 := Xyb1.out.2
              have h2 := (Bv.out).size
              omega
            have hT : PlT (fun j => j ≠ bxyb1) xb2 g R := Gxb2.out.1.mono fun j hj hk => by
              have h1 := Xyb1.out.2
              have h2 := Xyb1.out.1.size
              have h3 := Ryb1.out.lt
              rcases hk with hk | hk
              · have hk : j < w11.heap.size := hk
                omega
              · omega
            have hT2 := hT.keep h5.size fun j hj hl => h5.block j hl hj
            have BZ : Below w11.heap.size w11 zb := Only.from_ Bxb2.out rfl h5 fun i (hi : i = bxyb1) => by omega
            have HZ := Lib.hid (And.intro (show Bx w11.heap.size R bxyb1 g zb from ⟨hcs, rZ, hT2.mono fun _ _ _ => trivial⟩) (And.intro hT2 BZ))
            clear hzb rZ h5 hcs hT hT2 BZ
            refine hK.out _ _ ?hS53 (fun hHeld => ?_)
            case hS53 => exact fun _ => HP11.out _ HZ.out.2.2
            replace hHeld := hHeld (by decide)
            clear hK K
            try simp only [Act.put, List.setIfInBounds_toArray, List.set_cons_zero, List.set_cons_succ]
            refine wpAnyG_ready (rs := [10]) (by kernel_rfl) (by simp) ?_
            refine readyG rfl (fun K hK => ?_) AllReadyG.nil
            go_simp
            refine hK.out _ _ ?hS54 (fun hHeld => ?_)
            case hS54 => exact fun h => absurd rfl h
            clear hK K
            try simp only [Act.put, List.setIfInBounds_toArray, List.set_cons_zero, List.set_cons_succ]
            refine wpAnyG_done (by kernel_rfl) ?_ _
            go_wp2
            go_meet
            exact ⟨_, g, rfl, rfl, HZ.out.1, HZ.out.2.1, HZ.out.2.2⟩
      case rest =>
        obtain ⟨ub, uf, rfl, rfl, hbu, -, hb13⟩ := hcut
        obtain ⟨w13, h13⟩ : ∃ z, z = wc := ⟨_, rfl⟩
        subst h13
        have H13 := Lib.hid (bch H11.out hb13)
        have BU := Lib.hid (fun (z : World) (hz : Below w13.heap.size w13 z) => hbu.on hz)
        obtain ⟨V, hV⟩ : ∃ z, w13.alloc (.cells #[] 3) = z := ⟨_, rfl⟩
        have bV : Below w13.heap.size w13 V := by rw [← hV]; exact balloc (Below.refl _ _) _
        have HBV := Lib.hid bV
        have HV := Lib.hid hV
        have K13 := Lib.hid (implPlanAt_ok pf px (some ⟨w13.heap.size, 0, none⟩) 0 [] V Any (BP.out V (bch H9.out (bch H13.out bV))).2.2 HN.out Sl.nil (by simp))
        unfold fpV at K13
        rw [List.length_nil] at K13
        obtain ⟨x0, x1, x2, x3, x4⟩ := (BP.out _ (bch H9.out H13.out)).cells
        have hpl13 := (BP.out _ (bch H9.out H13.out)).2.1.lt
        clear hbu hb13 bV hV
        go_upto_region 11 with fail
        go_wp2_with (rw [HV.out]; fail)
        rw [HV.out]
        refine K13.out.mono ?_
        rintro e w14 ⟨of, rfl, ho, hb14⟩
        have ho2 : PlT (fun j => Any j ∨ V.heap.size ≤ j) w14 of px := ho
        rw [show (atP px []).isSome = true from rfl]
        obtain ⟨W15, hW15⟩ : ∃ z, w14.alloc (.cells #[.int .i64 of.kind, .int .i64 of.table, .slice of.es.A of.es.n of.es.c, .slice of.cs.A of.cs.n of.cs.c, .slice of.ks.A of.ks.n of.ks.c] 27) = z := ⟨_, rfl⟩
        obtain ⟨ob, hob⟩ : ∃ n, w14.heap.size = n := ⟨_, rfl⟩
        have B15 : Below w14.heap.size w14 W15 := by rw [← hW15]; exact balloc (Below.refl _ _) _
        have bo : Bx 0 px ob of W15 := ⟨Nat.zero_le _, by rw [← hW15, ← hob]; exact (Row.new _ _ _).of rfl, (ho2.keep B15.size fun k _ hl => B15.block k hl).mono fun _ _ _ => trivial⟩
        have BO := Lib.hid (fun (z : World) (hz : Below W15.heap.size W15 z) => bo.on hz)
        have H15 := Lib.hid (bch HBV.out (bch hb14 B15))
        have HW15 := Lib.hid hW15
        have Hob := Lib.hid hob
        have KE1 := Lib.hid (fun (z : World) (hz : Below W15.heap.size W15 z) => equalPlans_ok R uf qf z (BU.out z (bch H15.out hz)).2.2.in_ (BQ.out z (bch HQ9.out (bch H13.out (bch H15.out hz)))).2.2.in_)
        have KE2 := Lib.hid (fun (z : World) (hz : Below W15.heap.size W15 z) => equalPlans_ok px of pf z (BO.out z hz).2.2.in_ (BP.out z (bch H9.out (bch H13.out (bch H15.out hz)))).2.2.in_)
        unfold fpV at KE1 KE2
        unfold fpV
        obtain ⟨x0, x1, x2, x3, x4⟩ := (BU.out _ H15.out).cells
        obtain ⟨y0, y1, y2, y3, y4⟩ := (BQ.out _ (bch HQ9.out (bch H13.out H15.out))).cells
        have hul := (BU.out _ H15.out).2.1.lt
        have hql := (BQ.out _ (bch HQ9.out (bch H13.out H15.out))).2.1.lt
        clear ho ho2 hb14 B15 bo hW15 hob
        go_upto_region 12 with fail
        rw [HW15.out, Hob.out]
        go_wp2_with fail
        refine (KE1.out _ (Below.refl _ _)).mono ?_
        rintro e w16 ⟨rfl, hb16⟩
        obtain ⟨x0, x1, x2, x3, x4⟩ := (BO.out _ hb16).cells
        obtain ⟨y0, y1, y2, y3, y4⟩ := (BP.out _ (bch H9.out (bch H13.out (bch H15.out hb16)))).cells
        have hol := (BO.out _ hb16).2.1.lt
        have hpl16 := (BP.out _ (bch H9.out (bch H13.out (bch H15.out hb16)))).2.1.lt
        have H16 := Lib.hid hb16
        clear hb16
        go_wp2_with fail
        refine (KE2.out _ H16.out).mono ?_
        rintro e w17 ⟨rfl, hb17⟩
        go_wp2
        go_ret
        exact ⟨rfl, bch HB3.out.1 (bch HB3.out.2 (bch H9.out (bch H13.out (bch H15.out (bch H16.out hb17)))))⟩

namespace lawFnPlanAt
theorem own : ownKnob Try.prog.godebug = none := by kernel_rfl
theorem laidOut : laidOutB Try.prog = true := by kernel_rfl

set_option maxRecDepth 100000 in
theorem lifted (os : Os) (started : os.Started) (H : Type) (enc : TypeId × Value → H) :
    ReturnsInHanded {} Try.checked os 4 .any (Rows.fnPlanAtSpec.pre6 enc Try.prog Try.f4 Rows.fnPlanAtRow.domain false) (Rows.fnPlanAtSpec.post enc Try.prog Try.f4 false true false false) := by
  refine returnsInHanded_of_change (C := Try.checked) own started (by kernel_rfl) Try.func4
    (ChangeSpec.witness6 (enc := enc) (C := Try.checked) false ⟨#[], #[.slice none 0 0, .slice none 0 0], []⟩ 8 (by kernel_rfl) (by kernel_rfl) (by kernel_rfl) (by kernel_rfl)) ?_
  intro W base args ds gs before hval0 hW hcnd _
  have hval : ∀ (j : Nat) t v, Try.f4.params[j]? = some t → args[j]? = some v → Value.okWide Try.prog W .any base t v := hval0
  have hW' := hW
  obtain ⟨p, q, hA0, hV, rfl, hfz, hnd⟩ := hW
  have hA : DataW.TrodAll enc Try.prog W 0 (fun _ => true) true Try.f4.params.toList args.toList ds p := hA0
  rw [Try.params4] at hA hval
  obtain ⟨v0, vs0, d0, ds0, p0, q0, hargs, rfl, rfl, h0, r0⟩ := trodAll_cons hA
  obtain ⟨v1, vs1, d1, ds1, p1, q1, rfl, rfl, rfl, h1, r1⟩ := trodAll_cons r0
  obtain ⟨rfl, rfl, rfl⟩ := trodAll_nil r1
  obtain rfl : args = #[v0, v1] := by cases args; simp_all
  obtain ⟨rfl, rfl⟩ := trodVars_none hV
  obtain ⟨a0, len0, c0, rfl⟩ := okWide_slice Try.underlying22 (hval 0 22 v0 rfl rfl)
  obtain ⟨a1, len1, c1, rfl⟩ := okWide_slice Try.underlying22 (hval 1 22 v1 rfl rfl)
  have k0 := h0
  have lt0 : ∀ x ∈ p0, x.block < W.heap.size := by obtain ⟨m, hm⟩ := k0; exact DataW.trod_lt m _ _ _ hm
  obtain ⟨f0, h0⟩ := h0
  have k1 := h1
  have lt1 : ∀ x ∈ p1, x.block < W.heap.size := by obtain ⟨m, hm⟩ := k1; exact DataW.trod_lt m _ _ _ hm
  obtain ⟨f1, h1⟩ := h1
  obtain ⟨xs0, rfl, hc0, hm0, g0, s0⟩ := open_sl (sz := 1) (ec := byteC) Try.underlying22 (by kernel_rfl) (by omega) byteC_length (el_byte Try.underlying5) h0
  obtain ⟨xs1, rfl, hc1, hm1, g1, s1⟩ := open_sl (sz := 1) (ec := byteC) Try.underlying22 (by kernel_rfl) (by omega) byteC_length (el_byte Try.underlying5) h1
  clear hA0 hval0
  refine (FnPlanAt_walk a0 c0 xs0 a1 c1 xs1 W hc0 hm0 g0 s0 hc1 hm1 g1 s1).mono fun e W' ⟨he, bel⟩ => ?_
  subst he
  exact ⟨_, rfl, _, _, _, [], _, [], hW', trodAll_mk1 (shut_bool Try.underlying4 _), (trodAll_cons_mk (Below.trod laidOut (by kernel_rfl) (of_decide_eq_true (by kernel_rfl)) k0 bel lt0) (trodAll_cons_mk (Below.trod laidOut (by kernel_rfl) (of_decide_eq_true (by kernel_rfl)) k1 bel lt1) trodAll_mk0)), rfl, bel.frame _, fun h => by cases h⟩

theorem over : Rows.fnPlanAtRow.holds Try.pinned (OpenSpec.ofChange Rows.fnPlanAtSpec) :=
  OpenClaim.holds_of_wide 4 Try.f4 rfl rfl rfl rfl rfl rfl rfl ⟨rfl, rfl, rfl, rfl, rfl⟩ rfl rfl rfl rfl rfl (by kernel_rfl) Try.func4 (by kernel_rfl)
    (of_decide_eq_true (by kernel_rfl)) (by unfold Func.isWrapper; first | (rw [if_pos (by decide +kernel)]; kernel_rfl) | (rw [if_neg (by decide +kernel)]; exact ⟨rfl, rfl⟩))
    (fun os started H enc _ => lifted os started H enc)

theorem proved : Rows.FnPlanAtSaid := over
end lawFnPlanAt
#print axioms lawFnPlanAt.proved

end Go.Proofs.Ytcbfbgngkdiijaa
