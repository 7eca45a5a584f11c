/-
  Contracts: spec.planAt, spec.PlanAt. (Printed by wip/ats.py.)
-/
import Derived.Test.YtcbfbgngkdiijaaProg
import Derived.Test.YtcbfbgngkdiijaaAtI
import Derived.Test.YtcbfbgngkdiijaaCpP
namespace Go.Proofs.Ytcbfbgngkdiijaa
open Go.RowKit Go.Qo
set_option linter.unusedVariables false
set_option linter.unusedSimpArgs false

set_option maxRecDepth 20000 in
set_option maxHeartbeats 4000000 in
theorem specPlanAt0_ok (f : FP) (x : Pl) (A : Option Addr) (c : Nat) (is : List Int) (w : World) (hx : PlT Any w f x) (hs : Sl 1 intC w w.heap.size A is) (hl : is.length ≤ 8) :
    Calls Try.prog 23 #[fpV f, .slice A is.length c] w (PaRes Any w x is) := by
  obtain ⟨W1, hW1⟩ : ∃ z, ((w.alloc (.cells #[.int .i64 f.kind, .int .i64 f.table, .slice f.es.A f.es.n f.es.c, .slice f.cs.A f.cs.n f.cs.c, .slice f.ks.A f.ks.n f.ks.c] 27)).alloc (.cells #[.int .i64 0, .int .i64 0, .slice none 0 0, .slice none 0 0, .slice none 0 0] 27)) = z := ⟨_, rfl⟩
  have B1 : Below w.heap.size w W1 := by rw [← hW1]; exact balloc (balloc (Below.refl _ _) _) _
  have r1 : Row W1 w.heap.size 27 (fpC f) := by rw [← hW1]; exact (Row.first _ _ _ _).of rfl
  have r2 : Row W1 (w.heap.size + 1) 27 [.int .i64 0, .int .i64 0, .slice none 0 0, .slice none 0 0, .slice none 0 0] := by rw [← hW1]; exact Row.second _ _ _ _
  have hs1 : W1.heap.size = w.heap.size + 2 := by rw [← hW1]; simp
  have hx1 : PlT (fun k => k < w.heap.size) W1 f x := (hx.mono fun k hk _ => hk).keep B1.size fun k hk hl => B1.block k hk
  have HS := Lib.hid hs
  have H0 := Lib.hid (And.intro r1 (And.intro r2 (And.intro hx1 B1)))
  have Hs1 := Lib.hid hs1
  have HW1 := Lib.hid hW1
  have HL := Lib.hid hl
  unfold fpV
  clear hW1 B1 r1 r2 hs1 hx1 hx hs
  go_enter Try.func23, Try.ntmps23
  go_upto_region 1 with fail
  rw [HW1.out]
  go_wp2
  go_loopg [6] is.length (fun g iv wr => ∃ (i : Nat) (f' : FP) (y : Pl), i ≤ is.length ∧ g = is.length - i ∧ iv = .int .i64 i ∧ Row wr w.heap.size 27 (fpC f') ∧ Row wr (w.heap.size + 1) 27 [.int .i64 0, .int .i64 0, .slice none 0 0, .slice none 0 0, .slice none 0 0] ∧ PlT (fun k => k < w.heap.size) wr f' y ∧ atP x is = atP y (is.drop i) ∧ Below w.heap.size w wr)
  case atStart => exact ⟨0, f, x, by omega, by omega, rfl, H0.out.1, H0.out.2.1, H0.out.2.2.1, by simp, H0.out.2.2.2⟩
  case round =>
    obtain ⟨i, f', y, hi, rfl, rfl, hr1, hr2, hy, hat, hbw⟩ := hrel
    have HB := Lib.hid hbw
    have HR := Lib.hid (And.intro hr1 hr2)
    have HY := Lib.hid (And.intro hy hat)
    have hl1 := hr1.lt
    have p0 := hr1.cell 0
    have p1 := hr1.cell 1
    have p2 := hr1.cell 2
    have p3 := hr1.cell 3
    have p4 : wr.cell? ⟨w.heap.size, 4, none⟩ = some (.slice f'.ks.A f'.ks.n f'.ks.c) := hr1.cell 4
    have k5 := hy.flat.2.2.2.2.1.1
    have HK5 := Lib.hid k5
    have hkm : f'.ks.n ≤ 9223372036854775807 := by have := hy.bnd.all.1.2.2; omega
    clear hy hat hbw k5
    by_cases hlt : i < is.length
    · have hiI : (i : Int) < (is.length : Int) := by omega
      have hi0 : (0 : Int) ≤ (i : Int) := by omega
      obtain ⟨ab, ao, rfl, hab, hac⟩ := HS.out.at1 (f := fun n => .int .i64 n) hlt
      have ai : wr.cell? ⟨ab, ao + i, none⟩ = some (.int .i64 is[i]) := (HB.out.cell (p := ⟨ab, ao + i, none⟩) hab).trans hac
      have habz : ab < wr.heap.size := by have := HB.out.size; omega
      obtain ⟨k, hk⟩ : ∃ k, is[i] = k := ⟨_, rfl⟩
      rw [hk] at ai
      have hdr : is.drop i = k :: is.drop (i + 1) := by rw [List.drop_eq_getElem_cons hlt, hk]
      have HDR := Lib.hid hdr
      have hw1 : IntKind.i64.wrap ((f'.ks.n : Int) - 1) = (f'.ks.n : Int) - 1 := IntWalk.i64_in _ (by omega)
      obtain ⟨q, hq⟩ : ∃ q, (decide (0 ≤ k) && decide (k ≤ (f'.ks.n : Int) - 1)) = q := ⟨_, rfl⟩
      have HI := Lib.hid (fun z : Aft wr.heap.size wr => (inRange_ok k 0 ((f'.ks.n : Int) - 1) z.v q hq).mono fun e w' ⟨he, hw⟩ => (show e = Ending.returned (.bool q) ∧ Below z.v.heap.size z.v w' from ⟨he, hw ▸ Below.refl _ _⟩))
      have HQ := Lib.hid hq
      have D1 := fun z : Aft wr.heap.size wr => z.cell habz ai
      have D4 := fun z : Aft wr.heap.size wr => z.cell hl1 p4
      clear hac hdr hk hq
      cases q
      · go_wp2_with fail
        refine wp_region_aft wr.heap.size (by kernel_rfl) (by kernel_rfl) ?_
        repeat (go_big_quiet_step ((go_at_call 44; exact Calls.aft (Nat.le_refl _) (HI.out _))))
        refine wpQuiet_nil ?_
        intro w2 hw'
        obtain ⟨⟨_, hb2⟩, rfl⟩ := hw'
        have rr := HR.out.2.on hb2
        have hlr := rr.lt
        have e0 : w2.cell? ⟨w.heap.size + 1, 0, none⟩ = some (.int .i64 0) := rr.cell 0
        have e1 : w2.cell? ⟨w.heap.size + 1, 1, none⟩ = some (.int .i64 0) := rr.cell 1
        have e2 : w2.cell? ⟨w.heap.size + 1, 2, none⟩ = some (.slice none 0 0) := rr.cell 2
        have e3 : w2.cell? ⟨w.heap.size + 1, 3, none⟩ = some (.slice none 0 0) := rr.cell 3
        have e4 : w2.cell? ⟨w.heap.size + 1, 4, none⟩ = some (.slice none 0 0) := rr.cell 4
        have f0 := rr.frozen 0
        have f1 := rr.frozen 1
        have f2 := rr.frozen 2
        have f3 := rr.frozen 3
        have f4 := rr.frozen 4
        have HB2 := Lib.hid hb2
        clear rr hb2 D1 D4
        go_wp2
        refine bodyPost_ret (v := .tuple #[fpV zeroFP, .bool false]) (by simp [results, Try.results23, go_sem, fpV, zeroFP, e0, e1, e2, e3, e4]) rfl ?_
        have h5 := set5 w2 (w.heap.size + 1) (.int .i64 0) (.int .i64 0) (.slice none 0 0) (.slice none 0 0) (.slice none 0 0)
        have hno : atP x is = none := by
          rw [HY.out.2, HDR.out]
          refine atP_no ?_
          have h1 := HQ.out
          have h2 := HK5.out
          by_cases h3 : k < 0
          · exact .inl h3
          · simp at h1
            exact .inr (by have := h1 (by omega); omega)
        exact ⟨zeroFP, by rw [hno]; rfl, by rw [hno]; exact plT_zero, Only.from_ (bch HB.out HB2.out) rfl h5 fun i (hi : i = w.heap.size + 1) => by omega⟩
      · have hkr : 0 ≤ k ∧ k ≤ (f'.ks.n : Int) - 1 := by have := HQ.out; simpa using this
        obtain ⟨kk, rfl⟩ := Int.eq_ofNat_of_zero_le hkr.1
        have hge : kk < y.kids.length := by have := HK5.out; omega
        obtain ⟨kb, ko, g, hA, hkb, hg, hgx⟩ := HY.out.1.kid hge
        have hkbw : kb < w.heap.size := by
          obtain ⟨_, _, _, _, _, _, _, fs, h7, h8, h9⟩ := HY.out.1.flat
          obtain ⟨b9, o9, hA9, hS9, _, _⟩ := h8 (by omega)
          rw [hA] at hA9
          cases hA9
          exact hS9
        have hkn : (kk : Int) < (f'.ks.n : Int) := by omega
        have hk0 : (0 : Int) ≤ (kk : Int) := by omega
        have HG := Lib.hid (And.intro hg hgx)
        have HKS := Lib.hid hA
        rw [hA] at p4 D4
        have ST := Lib.hid (fun (z : World) (hz : Below wr.heap.size wr z) => show z.cell? ⟨w.heap.size, 4, none⟩ = some (.slice (some ⟨kb, ko, none⟩) f'.ks.n f'.ks.c) ∧ z.cell? ⟨ab, ao + i, none⟩ = some (.int .i64 kk) ∧ z.cell? ⟨kb, ko + kk * 5, none⟩ = some (.int .i64 g.kind) ∧ z.cell? ⟨kb, ko + kk * 5 + 1, none⟩ = some (.int .i64 g.table) ∧ z.cell? ⟨kb, ko + kk * 5 + 2, none⟩ = some (.slice g.es.A g.es.n g.es.c) ∧ z.cell? ⟨kb, ko + kk * 5 + 3, none⟩ = some (.slice g.cs.A g.cs.n g.cs.c) ∧ z.cell? ⟨kb, ko + kk * 5 + 4, none⟩ = some (.slice g.ks.A g.ks.n g.ks.c) from by
          have h := HG.out.1.keepB (hz.block kb hkb)
          exact ⟨(hz.cell (p := ⟨w.heap.size, 4, none⟩) hl1).trans p4, (hz.cell (p := ⟨ab, ao + i, none⟩) habz).trans ai, h.1, h.2.1, h.2.2.1, h.2.2.2.1, h.2.2.2.2⟩)
        clear hA hg hgx hkr
        go_wp2_with fail
        refine wp_region_aft wr.heap.size (by kernel_rfl) (by kernel_rfl) ?_
        repeat (go_big_quiet_step ((go_at_call 44; exact Calls.aft (Nat.le_refl _) (HI.out _))))
        refine wpQuiet_nil ?_
        intro w2 hw'
        obtain ⟨⟨_, hb2⟩, rfl⟩ := hw'
        go_wp2
        have HB2 := Lib.hid hb2
        clear hb2 D1 D4
        go_upto_region 6 with fail
        obtain ⟨u, hu⟩ : ∃ u, w2.drew = u := ⟨_, rfl⟩
        have Bu := Lib.hid (show Below wr.heap.size wr u from hu ▸ bch HB2.out (Below.refl _ _).drew)
        have Hu := Lib.hid hu
        clear hu
        refine wp_region_g 8 (fun z => z.cell? ⟨w.heap.size, 4, none⟩ = some (.slice (some ⟨kb, ko, none⟩) f'.ks.n f'.ks.c) ∧ z.cell? ⟨ab, ao + i, none⟩ = some (.int .i64 kk) ∧ z.cell? ⟨kb, ko + kk * 5, none⟩ = some (.int .i64 g.kind) ∧ z.cell? ⟨kb, ko + kk * 5 + 1, none⟩ = some (.int .i64 g.table) ∧ z.cell? ⟨kb, ko + kk * 5 + 2, none⟩ = some (.slice g.es.A g.es.n g.es.c) ∧ z.cell? ⟨kb, ko + kk * 5 + 3, none⟩ = some (.slice g.cs.A g.cs.n g.cs.c) ∧ z.cell? ⟨kb, ko + kk * 5 + 4, none⟩ = some (.slice g.ks.A g.ks.n g.ks.c)) (by kernel_rfl) ?_ (fun hHeld => ?_)
        · exact ST.out _ (bch HB2.out (Below.refl _ _).drew)
        rw [Hu.out] at hHeld ⊢
        obtain ⟨m7, m8, m9, m10, m11, m12, m13⟩ := ST.out _ Bu.out
        refine takeG (i := 0) (v := ?v1) rfl (by kernel_rfl) (by kernel_rfl) (by kernel_rfl) (by kernel_rfl) (fun _ _ _ h => h) (Or.inl ⟨by rfl, ?hy1⟩) (by assumption) ?_
        case hy1 => ((intro w' hSw; (try dsimp only at hSw); go_simp) <;> with_reducible rfl)
        try simp only [Act.put, List.setIfInBounds_toArray, List.set_cons_zero, List.set_cons_succ]
        refine takeG (i := 1) (v := ?v2) rfl (by kernel_rfl) (by kernel_rfl) (by kernel_rfl) (by kernel_rfl) (fun _ _ _ h => h) (Or.inl ⟨by rfl, ?hy2⟩) (by assumption) ?_
        case hy2 => ((intro w' hSw; (try dsimp only at hSw); go_simp) <;> with_reducible rfl)
        try simp only [Act.put, List.setIfInBounds_toArray, List.set_cons_zero, List.set_cons_succ]
        refine takeG (i := 2) (v := ?v3) rfl (by kernel_rfl) (by kernel_rfl) (by kernel_rfl) (by kernel_rfl) (fun _ _ _ h => h) (Or.inl ⟨by rfl, ?hy3⟩) (by assumption) ?_
        case hy3 => ((intro w' hSw; (try dsimp only at hSw); go_simp) <;> with_reducible rfl)
        try simp only [Act.put, List.setIfInBounds_toArray, List.set_cons_zero, List.set_cons_succ]
        refine takeG (i := 3) (v := ?v4) rfl (by kernel_rfl) (by kernel_rfl) (by kernel_rfl) (by kernel_rfl) (fun _ _ _ h => h) (Or.inl ⟨by rfl, ?hy4⟩) (by assumption) ?_
        case hy4 => ((intro w' hSw; (try dsimp only at hSw); go_simp) <;> with_reducible rfl)
        try simp only [Act.put, List.setIfInBounds_toArray, List.set_cons_zero, List.set_cons_succ]
        refine takeG (i := 4) (v := ?v5) rfl (by kernel_rfl) (by kernel_rfl) (by kernel_rfl) (by kernel_rfl) (fun _ _ _ h => h) (Or.inl ⟨by rfl, ?hy5⟩) (by assumption) ?_
        case hy5 => ((intro w' hSw; (try dsimp only at hSw); go_simp) <;> with_reducible rfl)
        try simp only [Act.put, List.setIfInBounds_toArray, List.set_cons_zero, List.set_cons_succ]
        refine takeG (i := 5) (v := ?v6) rfl (by kernel_rfl) (by kernel_rfl) (by kernel_rfl) (by kernel_rfl) (fun _ _ _ h => h) (Or.inl ⟨by rfl, ?hy6⟩) (by assumption) ?_
        case hy6 => ((intro w' hSw; (try dsimp only at hSw); go_simp) <;> with_reducible rfl)
        try simp only [Act.put, List.setIfInBounds_toArray, List.set_cons_zero, List.set_cons_succ]
        refine takeG (i := 6) (v := ?v7) rfl (by kernel_rfl) (by kernel_rfl) (by kernel_rfl) (by kernel_rfl) (fun _ _ _ h => h) (Or.inl ⟨by rfl, ?hy7⟩) (by assumption) ?_
        case hy7 => ((intro w' hSw; (try dsimp only at hSw); go_simp) <;> with_reducible rfl)
        try simp only [Act.put, List.setIfInBounds_toArray, List.set_cons_zero, List.set_cons_succ]
        refine takeG (i := 7) (v := ?v8) rfl (by kernel_rfl) (by kernel_rfl) (by kernel_rfl) (by kernel_rfl) (fun _ _ _ h => h) (Or.inl ⟨by rfl, ?hy8⟩) (by assumption) ?_
        case hy8 => ((intro w' hSw; (try dsimp only at hSw); go_simp) <;> with_reducible rfl)
        try simp only [Act.put, List.setIfInBounds_toArray, List.set_cons_zero, List.set_cons_succ]
        refine wpAnyG_ready (rs := [8]) (by kernel_rfl) (by simp) ?_
        refine readyG rfl (fun K hK => ?_) AllReadyG.nil
        have r1u := HR.out.1.on Bu.out
        have m0 : u.cell? ⟨w.heap.size, 0, none⟩ = some (.int .i64 f'.kind) := r1u.cell 0
        have m1 : u.cell? ⟨w.heap.size, 1, none⟩ = some (.int .i64 f'.table) := r1u.cell 1
        have m2 : u.cell? ⟨w.heap.size, 2, none⟩ = some (.slice f'.es.A f'.es.n f'.es.c) := r1u.cell 2
        have m3 : u.cell? ⟨w.heap.size, 3, none⟩ = some (.slice f'.cs.A f'.cs.n f'.cs.c) := r1u.cell 3
        have m4 : u.cell? ⟨w.heap.size, 4, none⟩ = some (.slice f'.ks.A f'.ks.n f'.ks.c) := r1u.cell 4
        have f0 := r1u.frozen 0
        have f1 := r1u.frozen 1
        have f2 := r1u.frozen 2
        have f3 := r1u.frozen 3
        have f4 := r1u.frozen 4
        have hlu := r1u.lt
        have R1U := Lib.hid r1u
        clear r1u
        go_simp
        obtain ⟨Z5, hZ5⟩ : ∃ q, (((((u.setCell ⟨w.heap.size, 0, none⟩ (.int .i64 g.kind)).setCell ⟨w.heap.size, 1, none⟩ (.int .i64 g.table)).setCell ⟨w.heap.size, 2, none⟩ (.slice g.es.A g.es.n g.es.c)).setCell ⟨w.heap.size, 3, none⟩ (.slice g.cs.A g.cs.n g.cs.c)).setCell ⟨w.heap.size, 4, none⟩ (.slice g.ks.A g.ks.n g.ks.c)) = q := ⟨_, rfl⟩
        rw [hZ5]
        have r1Z : Row Z5 w.heap.size 27 (fpC g) := by rw [← hZ5]; exact (((((R1U.out.set 0 _).set 1 _).set 2 _).set 3 _).set 4 _).of rfl
        have h5 : Only (fun k => k = w.heap.size) u Z5 := by rw [← hZ5]; exact set5 _ _ _ _ _ _ _
        have r2Z := (HR.out.2.on Bu.out).only h5 (show ¬ w.heap.size + 1 = w.heap.size by omega)
        have HZ := Lib.hid (And.intro r1Z (And.intro r2Z (And.intro ((HG.out.2.keep Bu.out.size fun k _ hl => Bu.out.block k hl).keep h5.size fun k hk hl => h5.block k hl (fun (e : k = w.heap.size) => by have h9 : k < w.heap.size := hk; omega)) (Only.from_ (bch HB.out Bu.out) rfl h5 fun i (hi : i = w.heap.size) => by omega))))
        clear hZ5 r1Z h5 r2Z
        refine hK.out _ _ ?hS9 (fun hHeld => ?_)
        case hS9 => exact fun h => absurd rfl h
        clear hK K
        try simp only [Act.put, List.setIfInBounds_toArray, List.set_cons_zero, List.set_cons_succ]
        refine wpAnyG_done (by kernel_rfl) ?_ _
        go_wp2
        go_roundg (is.length - (i + 1))
        case measure => omega
        case rel => exact ⟨i + 1, g, y.kids[kk], by omega, rfl, by go_num, HZ.out.1, HZ.out.2.1, HZ.out.2.2.1, by rw [HY.out.2, HDR.out, atP_yes rfl hge], HZ.out.2.2.2⟩
    · obtain rfl : i = is.length := by omega
      have hiI : ¬ (is.length : Int) < (is.length : Int) := by omega
      have e0 : wr.cell? ⟨w.heap.size + 1, 0, none⟩ = some (.int .i64 0) := hr2.cell 0
      have e1 : wr.cell? ⟨w.heap.size + 1, 1, none⟩ = some (.int .i64 0) := hr2.cell 1
      have e2 : wr.cell? ⟨w.heap.size + 1, 2, none⟩ = some (.slice none 0 0) := hr2.cell 2
      have e3 : wr.cell? ⟨w.heap.size + 1, 3, none⟩ = some (.slice none 0 0) := hr2.cell 3
      have e4 : wr.cell? ⟨w.heap.size + 1, 4, none⟩ = some (.slice none 0 0) := hr2.cell 4
      have f0 := hr2.frozen 0
      have f1 := hr2.frozen 1
      have f2 := hr2.frozen 2
      have f3 := hr2.frozen 3
      have f4 := hr2.frozen 4
      have hlr := hr2.lt
      have q0 : wr.cell? ⟨w.heap.size, 0, none⟩ = some (.int .i64 f'.kind) := hr1.cell 0
      have q1 : wr.cell? ⟨w.heap.size, 1, none⟩ = some (.int .i64 f'.table) := hr1.cell 1
      have q2 : wr.cell? ⟨w.heap.size, 2, none⟩ = some (.slice f'.es.A f'.es.n f'.es.c) := hr1.cell 2
      have q3 : wr.cell? ⟨w.heap.size, 3, none⟩ = some (.slice f'.cs.A f'.cs.n f'.cs.c) := hr1.cell 3
      clear p0 p1 p2 p3 hr1 hr2
      go_wp2
      refine bodyPost_ret (v := .tuple #[fpV f', .bool true]) (by simp [results, Try.results23, go_sem, fpV, e0, e1, e2, e3, e4]) rfl ?_
      have h5 := set5 wr (w.heap.size + 1) (.int .i64 f'.kind) (.int .i64 f'.table) (.slice f'.es.A f'.es.n f'.es.c) (.slice f'.cs.A f'.cs.n f'.cs.c) (.slice f'.ks.A f'.ks.n f'.ks.c)
      have hyes : atP x is = some y := by
        rw [HY.out.2, List.drop_length]
        rfl
      refine ⟨f', by rw [hyes]; rfl, ?_, Only.from_ HB.out rfl h5 fun i (hi : i = w.heap.size + 1) => by omega⟩
      rw [hyes]
      exact (HY.out.1.keep h5.size fun k hk hl => h5.block k hl fun (e : k = w.heap.size + 1) => by have h9 : k < w.heap.size := hk; omega).mono fun k _ _ => .inl trivial

set_option maxRecDepth 20000 in
set_option maxHeartbeats 4000000 in
theorem specPlanAt_ok (f : FP) (x : Pl) (A : Option Addr) (c : Nat) (is : List Int) (w : World) (hx : PlT Any w f x) (hs : Sl 1 intC w w.heap.size A is) (hl : is.length ≤ 8) :
    Calls Try.prog 10 #[fpV f, .slice A is.length c] w (PaRes Any w x is) := by
  obtain ⟨W1, hW1⟩ : ∃ z, ((w.alloc (.cells #[.int .i64 f.kind, .int .i64 f.table, .slice f.es.A f.es.n f.es.c, .slice f.cs.A f.cs.n f.cs.c, .slice f.ks.A f.ks.n f.ks.c] 27)).alloc (.cells #[.int .i64 0, .int .i64 0, .slice none 0 0, .slice none 0 0, .slice none 0 0] 27)) = z := ⟨_, rfl⟩
  have B1 : Below w.heap.size w W1 := by rw [← hW1]; exact balloc (balloc (Below.refl _ _) _) _
  have r1 : Row W1 w.heap.size 27 (fpC f) := by rw [← hW1]; exact (Row.first _ _ _ _).of rfl
  have r2 : Row W1 (w.heap.size + 1) 27 [.int .i64 0, .int .i64 0, .slice none 0 0, .slice none 0 0, .slice none 0 0] := by rw [← hW1]; exact Row.second _ _ _ _
  have hx1 := hx.keep B1.size fun k hk hl => B1.block k hl
  have HA := Lib.hid (specPlanAt0_ok f x A c is W1 hx1 (hs.on B1) hl)
  have p0 : W1.cell? ⟨w.heap.size, 0, none⟩ = some (.int .i64 f.kind) := r1.cell 0
  have p1 : W1.cell? ⟨w.heap.size, 1, none⟩ = some (.int .i64 f.table) := r1.cell 1
  have p2 : W1.cell? ⟨w.heap.size, 2, none⟩ = some (.slice f.es.A f.es.n f.es.c) := r1.cell 2
  have p3 : W1.cell? ⟨w.heap.size, 3, none⟩ = some (.slice f.cs.A f.cs.n f.cs.c) := r1.cell 3
  have p4 : W1.cell? ⟨w.heap.size, 4, none⟩ = some (.slice f.ks.A f.ks.n f.ks.c) := r1.cell 4
  have hl1 := r1.lt
  have HR2 := Lib.hid r2
  have HB1 := Lib.hid B1
  have HW1 := Lib.hid hW1
  have hlI : ¬ (8 : Int) < (is.length : Int) := by omega
  unfold fpV at HA
  unfold fpV
  clear hW1 B1 r1 r2 hx1 hx hs
  go_enter Try.func10, Try.ntmps10
  go_upto_region 1 with fail
  rw [HW1.out]
  go_wp2_with fail
  refine HA.out.mono ?_
  rintro e w2 ⟨g, rfl, hg, hb2⟩
  obtain ⟨t, ht⟩ : ∃ t, (atP x is).isSome = t := ⟨_, rfl⟩
  rw [ht]
  have rr := HR2.out.on hb2
  obtain ⟨W3, hW3⟩ : ∃ z, w2.alloc (.cells #[.int .i64 g.kind, .int .i64 g.table, .slice g.es.A g.es.n g.es.c, .slice g.cs.A g.cs.n g.cs.c, .slice g.ks.A g.ks.n g.ks.c] 27) = z := ⟨_, rfl⟩
  have b3 : Below w2.heap.size w2 W3 := by rw [← hW3]; exact balloc (Below.refl _ _) _
  have r3 : Row W3 w2.heap.size 27 (fpC g) := by rw [← hW3]; exact (Row.new _ _ _).of rfl
  have HB3 := Lib.hid (bch (bch HB1.out hb2) b3)
  have Hr3 := Lib.hid (rr.on b3)
  have HG := Lib.hid (hg.keep b3.size fun k _ hl => b3.block k hl)
  have HT := Lib.hid ht
  have HW3 := Lib.hid hW3
  have hw23 := r3.lt
  have q0 : W3.cell? ⟨w2.heap.size, 0, none⟩ = some (.int .i64 g.kind) := r3.cell 0
  have q1 : W3.cell? ⟨w2.heap.size, 1, none⟩ = some (.int .i64 g.table) := r3.cell 1
  have q2 : W3.cell? ⟨w2.heap.size, 2, none⟩ = some (.slice g.es.A g.es.n g.es.c) := r3.cell 2
  have q3 : W3.cell? ⟨w2.heap.size, 3, none⟩ = some (.slice g.cs.A g.cs.n g.cs.c) := r3.cell 3
  have q4 : W3.cell? ⟨w2.heap.size, 4, none⟩ = some (.slice g.ks.A g.ks.n g.ks.c) := r3.cell 4
  unfold fpV
  clear hg hb2 ht rr hW3 b3 r3
  go_upto_region 4 with fail
  rw [HW3.out]
  cases t
  · have rr := Hr3.out
    have hlr := rr.lt
    have e0 : W3.cell? ⟨w.heap.size + 1, 0, none⟩ = some (.int .i64 0) := rr.cell 0
    have e1 : W3.cell? ⟨w.heap.size + 1, 1, none⟩ = some (.int .i64 0) := rr.cell 1
    have e2 : W3.cell? ⟨w.heap.size + 1, 2, none⟩ = some (.slice none 0 0) := rr.cell 2
    have e3 : W3.cell? ⟨w.heap.size + 1, 3, none⟩ = some (.slice none 0 0) := rr.cell 3
    have e4 : W3.cell? ⟨w.heap.size + 1, 4, none⟩ = some (.slice none 0 0) := rr.cell 4
    have f0 := rr.frozen 0
    have f1 := rr.frozen 1
    have f2 := rr.frozen 2
    have f3 := rr.frozen 3
    have f4 := rr.frozen 4
    clear rr
    go_wp2
    refine bodyPost_ret (v := .tuple #[fpV zeroFP, .bool false]) (by simp [results, Try.results10, go_sem, fpV, zeroFP, e0, e1, e2, e3, e4]) rfl ?_
    have h5 := set5 W3 (w.heap.size + 1) (.int .i64 0) (.int .i64 0) (.slice none 0 0) (.slice none 0 0) (.slice none 0 0)
    have hno : atP x is = none := by have := HT.out; simpa using this
    exact ⟨zeroFP, by rw [hno]; rfl, by rw [hno]; exact plT_zero, Only.from_ HB3.out rfl h5 fun i (hi : i = w.heap.size + 1) => by omega⟩
  · obtain ⟨y, hy⟩ : ∃ y, atP x is = some y := by have := HT.out; rwa [Option.isSome_iff_exists] at this
    have HY := Lib.hid hy
    have HC := Lib.hid (copyPlan_ok y g W3 (by have := HG.out.bnd; rw [hy] at this; exact this) (by have := HG.out.in_; rw [hy] at this; exact this))
    unfold fpV at HC
    clear hy
    go_wp2_with fail
    refine HC.out.mono ?_
    rintro e w4 ⟨g', rfl, hg4, hb4⟩
    have rr := Hr3.out.on hb4
    have hlr := rr.lt
    have e0 : w4.cell? ⟨w.heap.size + 1, 0, none⟩ = some (.int .i64 0) := rr.cell 0
    have e1 : w4.cell? ⟨w.heap.size + 1, 1, none⟩ = some (.int .i64 0) := rr.cell 1
    have e2 : w4.cell? ⟨w.heap.size + 1, 2, none⟩ = some (.slice none 0 0) := rr.cell 2
    have e3 : w4.cell? ⟨w.heap.size + 1, 3, none⟩ = some (.slice none 0 0) := rr.cell 3
    have e4 : w4.cell? ⟨w.heap.size + 1, 4, none⟩ = some (.slice none 0 0) := rr.cell 4
    have f0 := rr.frozen 0
    have f1 := rr.frozen 1
    have f2 := rr.frozen 2
    have f3 := rr.frozen 3
    have f4 := rr.frozen 4
    have HG4 := Lib.hid (And.intro hg4 hb4)
    clear rr hg4 hb4
    go_wp2
    refine bodyPost_ret (v := .tuple #[fpV g', .bool true]) (by simp [results, Try.results10, go_sem, fpV, e0, e1, e2, e3, e4]) rfl ?_
    have h5 := set5 w4 (w.heap.size + 1) (.int .i64 g'.kind) (.int .i64 g'.table) (.slice g'.es.A g'.es.n g'.es.c) (.slice g'.cs.A g'.cs.n g'.cs.c) (.slice g'.ks.A g'.ks.n g'.ks.c)
    have hl3 := Hr3.out.lt
    refine ⟨g', by rw [HY.out]; rfl, ?_, Only.from_ (bch HB3.out HG4.out.2) rfl h5 fun i (hi : i = w.heap.size + 1) => by omega⟩
    rw [HY.out]
    exact (HG4.out.1.keep h5.size fun k hk hl => h5.block k hl fun (e : k = w.heap.size + 1) => by have h9 : W3.heap.size ≤ k := hk; omega).mono fun k _ _ => .inl trivial
end Go.Proofs.Ytcbfbgngkdiijaa
