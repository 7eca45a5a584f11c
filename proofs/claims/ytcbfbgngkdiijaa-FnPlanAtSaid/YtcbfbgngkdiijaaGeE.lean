/-
  Contracts of the drawing of expressions: constant, randomExpr. (Printed by wip/gee.py.)
-/
import Derived.Test.YtcbfbgngkdiijaaProg
import Derived.Test.YtcbfbgngkdiijaaGeD
import Derived.Test.YtcbfbgngkdiijaaGen
import Derived.Test.YtcbfbgngkdiijaaKids
namespace Go.Proofs.Ytcbfbgngkdiijaa
open Go.RowKit Go.Qo
set_option linter.unusedVariables false
set_option linter.unusedSimpArgs false

theorem zeroExT : (Try.prog.info? 66).map (fun i => (i.zero, i.size, i.bytes)) = some (some (.agg #[.int .i64 0, .int .i64 0, .bool false, .int .i64 0, .slice none 0 0]), 5, 56) := by kernel_rfl

set_option maxHeartbeats 1000000 in
theorem constant_ok (v : Val) (w : World) : Calls Try.prog 73 #[.agg #[.bool v.1, .int .i64 v.2]] w fun e w' => e = .returned (feV ⟨2, 0, v, ⟨none, 0, 0⟩⟩) ∧ Below w.heap.size w w' := by
  unfold feV
  go_enter Try.func73, Try.ntmps73
  go_wp2
  refine bodyPost_ret (v := .agg #[.int .i64 2, .int .i64 0, .bool v.1, .int .i64 v.2, .slice none 0 0]) (by simp [results, Try.results73, go_sem]) rfl ⟨rfl, ?_⟩
  exact balloc (balloc (Below.refl _ _) _) _

def reC (d : Nat) : Nat := 6 * 2 ^ d - 1
def RE (d : Nat) : Prop := ∀ (b p : Nat) (width : Int) (w : World), Rd w b p → p + reC d ≤ 1099511627776 →
  Calls Try.prog 63 #[.pointer (some ⟨b, 0, none⟩), .int .i64 width, .int .i64 d] w (GotEx (reC d) b (p + reC d) w)

set_option maxRecDepth 20000 in
set_option maxHeartbeats 4000000 in
/-- The walk, the kids' contract given. -/
theorem randomExpr_of (d : Nat) (hd : d ≤ 8) (ih : ∀ d', d = d' + 1 → RE d') : RE d := fun b p width w hR hp => by
  have hlt := hR.lt
  have hc5 : 5 ≤ reC d := by unfold reC; have := Nat.one_le_two_pow (n := d); omega
  have IH := Lib.hid ih
  have HP := Lib.hid (fun (z : World) (q : Nat) (n : Int) (hz : Rd z b q) (hq : q ≤ 1099511627776) => pick_ok b q n z hz hq)
  obtain ⟨W0, hW0⟩ : ∃ z, w.alloc (.cells #[.int .i64 0, .int .i64 0, .bool false, .int .i64 0, .slice none 0 0] 66) = z := ⟨_, rfl⟩
  have B0 : But b w W0 := by rw [← hW0]; exact (Only.refl w).alloc _
  have R0 : Rd W0 b p := by rw [← hW0]; exact hR.on (balloc (Below.refl _ _) _)
  have r0 : Row W0 w.heap.size 66 [.int .i64 0, .int .i64 0, .bool false, .int .i64 0, .slice none 0 0] := by rw [← hW0]; exact Row.new _ _ _
  have hsz0 : W0.heap.size = w.heap.size + 1 := by rw [← hW0]; simp
  have HW0 := Lib.hid hW0
  have HB0 := Lib.hid B0
  have HR0 := Lib.hid R0
  have Hr0 := Lib.hid r0
  have Hsz0 := Lib.hid hsz0
  clear hR ih hW0 B0 R0 r0 hsz0
  go_enter Try.func63, Try.ntmps63
  go_upto_region 1 with fail
  rw [HW0.out]
  go_wp2_with fail
  refine (HP.out W0 p 13 HR0.out (by omega)).mono ?_
  rintro e w1 ⟨k, rfl, hk, hb1, hsz1, hR1⟩
  have Hr1 := Lib.hid (Hr0.out.only hb1 (by omega))
  have HB1 := Lib.hid (HB0.out.trans hb1)
  have HR1 := Lib.hid hR1
  have Hs1 := Lib.hid (show w1.heap.size = w.heap.size + 1 by rw [← hsz1]; exact Hsz0.out)
  have hk0 := hk.1
  have hk13 := hk.2.1 (by omega)
  clear hb1 hsz1 hR1 hk
  by_cases hleaf : d = 0 ∨ 10 < k
  · have hcase : ((d : Int) == 0) = true ∨ (((d : Int) == 0) = false ∧ 10 < k) := by
      by_cases h0 : d = 0
      · exact .inl (by simp [h0])
      · exact .inr ⟨by simpa using h0, by omega⟩
    clear hleaf
    rcases hcase with hc | ⟨hc, hk10⟩
    all_goals
      go_wp2_with fail
      refine (HP.out w1 (p + 1) 3 HR1.out (by omega)).mono ?_
      rintro e w2 ⟨k2, rfl, hk2, hb2, hsz2, hR2⟩
      have Hr2 := Lib.hid (Hr1.out.only hb2 (by omega))
      have HB2 := Lib.hid (HB1.out.trans hb2)
      have HR2 := Lib.hid hR2
      have Hs2 := Lib.hid (show w2.heap.size = w.heap.size + 1 by rw [← hsz2]; exact Hs1.out)
      clear hb2 hsz2 hR2 hk2
      by_cases hk2 : 0 < k2
      · go_wp2_with fail
        refine (HP.out w2 (p + 2) width HR2.out (by omega)).mono ?_
        rintro e w3 ⟨k3, rfl, hk3, hb3, hsz3, hR3⟩
        have hr3 := Hr2.out.only hb3 (by omega)
        have HB3 := Lib.hid (HB2.out.trans hb3)
        have HR3 := Lib.hid hR3
        have hl3 := hr3.lt
        have c0 := hr3.cell 0
        have c1 := hr3.cell 1
        have c2 := hr3.cell 2
        have c3 := hr3.cell 3
        have c4 := hr3.cell 4
        have f0 := hr3.frozen 0
        have f1 := hr3.frozen 1
        have f2 := hr3.frozen 2
        have f3 := hr3.frozen 3
        have f4 := hr3.frozen 4
        clear hb3 hsz3 hR3 hk3 hr3
        go_wp2
        refine bodyPost_ret (v := feV ⟨1, k3, (false, 0), ⟨none, 0, 0⟩⟩) (by simp [results, Try.results63, go_sem, feV, c0, c1, c2, c3, c4]) rfl ⟨_, .mk 1 k3 (false, 0) [], rfl, ExT.leaf, ?_, ?_, by rw [exN, exsN]; omega⟩
        · exact (HB3.out.step (set5 w3 w.heap.size _ _ _ _ _) fun i hi => .inr (by omega))
        · exact (HR3.out.apart (set5 w3 w.heap.size _ _ _ _ _) fun i hi => by omega).mono (by omega)
      · go_wp2_with fail
        refine (randomValue_ok b (p + 2) w2 HR2.out (by omega)).mono ?_
        rintro e w3 ⟨v, rfl, hv, hb3, hR3⟩
        have Hr3 := Lib.hid (Hr2.out.only hb3 (by omega))
        have HB3 := Lib.hid (HB2.out.trans hb3)
        have HR3 := Lib.hid hR3
        clear hb3 hR3 hv
        go_wp2_with fail
        refine (constant_ok v w3).mono ?_
        rintro e w4 ⟨rfl, hb4⟩
        have hr4 := Hr3.out.on hb4
        have HB4 := Lib.hid (HB3.out.below hb4)
        have HR4 := Lib.hid (HR3.out.on hb4)
        have hl4 := hr4.lt
        have c0 := hr4.cell 0
        have c1 := hr4.cell 1
        have c2 := hr4.cell 2
        have c3 := hr4.cell 3
        have c4 := hr4.cell 4
        have f0 := hr4.frozen 0
        have f1 := hr4.frozen 1
        have f2 := hr4.frozen 2
        have f3 := hr4.frozen 3
        have f4 := hr4.frozen 4
        unfold feV
        clear hb4 hr4
        go_wp2
        refine bodyPost_ret (v := feV ⟨2, 0, v, ⟨none, 0, 0⟩⟩) (by simp [results, Try.results63, go_sem, feV, c0, c1, c2, c3, c4]) rfl ⟨_, .mk 2 0 v [], rfl, ExT.leaf, ?_, ?_, by rw [exN, exsN]; omega⟩
        · exact (HB4.out.step (set5 w4 w.heap.size _ _ _ _ _) fun i hi => .inr (by omega))
        · exact (HR4.out.apart (set5 w4 w.heap.size _ _ _ _ _) fun i hi => by omega).mono (by omega)
  · obtain ⟨d, rfl⟩ : ∃ d', d = d' + 1 := ⟨d - 1, by omega⟩
    have hc : ((d : Int) + 1 == 0) = false := by
      rw [beq_eq_false_iff_ne]
      omega
    have hk10 : ¬ 10 < k := by omega
    have IHd := Lib.hid (IH.out d rfl)
    obtain ⟨kd, hkd⟩ : ∃ kd : Int, 3 + k % 9 = kd := ⟨_, rfl⟩
    have hkr : 3 ≤ kd ∧ kd ≤ 11 := by omega
    have Hkd := Lib.hid hkd
    obtain ⟨n, hn, hn2⟩ : ∃ n : Nat, kidsK kd = n ∧ n ≤ 2 := by
      unfold kidsK
      rw [if_neg (by omega)]
      by_cases h1 : kd = 10 ∨ kd = 11
      · exact ⟨1, by rw [if_pos h1]; rfl, by omega⟩
      · exact ⟨2, by rw [if_neg h1, if_pos (by omega)]; rfl, by omega⟩
    have HKid := Lib.hid (fun z => kidsOf_ok kd z)
    rw [hn] at HKid
    obtain ⟨W2, hW2⟩ : ∃ z, w1.alloc (.cells #[.int .i64 kd, .int .i64 0, .bool false, .int .i64 0, .slice none 0 0] 66) = z := ⟨_, rfl⟩
    have r2 : Row W2 w1.heap.size 66 [.int .i64 kd, .int .i64 0, .bool false, .int .i64 0, .slice none 0 0] := by rw [← hW2]; exact Row.new _ _ _
    have Hr2 := Lib.hid r2
    have HB2 := Lib.hid (show But b w W2 by rw [← hW2]; exact HB1.out.alloc _)
    have HR2 := Lib.hid (show Rd W2 b (p + 1) by rw [← hW2]; exact HR1.out.on (balloc (Below.refl _ _) _))
    have Hr02 := Lib.hid (show Row W2 w.heap.size 66 [.int .i64 0, .int .i64 0, .bool false, .int .i64 0, .slice none 0 0] by rw [← hW2]; exact Hr1.out.alloc _)
    have HW2 := Lib.hid hW2
    have hrc : reC (d + 1) = 2 * reC d + 1 := by unfold reC; have := Nat.one_le_two_pow (n := d); rw [Nat.pow_succ]; omega
    have Hrc := Lib.hid hrc
    have hob : w1.heap.size = w.heap.size + 1 := Hs1.out
    obtain ⟨ob, hobe⟩ : ∃ ob, w1.heap.size = ob := ⟨_, rfl⟩
    rw [hobe] at hob Hr2
    have Hobe := Lib.hid hobe
    have hob1 : w.heap.size < ob := by omega
    have hob2 : ob < w.heap.size + 2 := by omega
    have Hob := Lib.hid (And.intro hob1 hob2)
    clear hleaf IH hkd hn r2 hW2 hrc hobe hob
    go_upto_region 7 with fail
    rw [Hkd.out]
    go_wp2
    rw [HW2.out, Hobe.out]
    go_loopg [10] n (fun g iv wr => ∃ (es : List Ex) (A : Option Addr) (c : Nat), g = n - es.length ∧ iv = .int .i64 es.length ∧ es.length ≤ n ∧ Kds (w.heap.size + 2) wr (.slice A es.length c) es ∧ Row wr ob 66 [.int .i64 kd, .int .i64 0, .bool false, .int .i64 0, .slice A es.length c] ∧ Row wr w.heap.size 66 [.int .i64 0, .int .i64 0, .bool false, .int .i64 0, .slice none 0 0] ∧ But b w wr ∧ Rd wr b (p + 1 + es.length * reC d) ∧ exsN es ≤ es.length * reC d)
    case atStart => exact ⟨[], none, 0, by simp, rfl, by simp, Kds.nil, Hr2.out, Hr02.out, HB2.out, by simpa using HR2.out, by simp [exsN]⟩
    case round =>
      obtain ⟨es, A, c, rfl, rfl, hel, hkds, hrow, hrow0, hb, hR, hcn⟩ := hrel
      have HCN := Lib.hid hcn
      clear hcn
      have HKd := Lib.hid hkds
      have Hrow := Lib.hid hrow
      have Hrow0 := Lib.hid hrow0
      have HB := Lib.hid hb
      have HRd := Lib.hid hR
      have hlo := hrow.lt
      have c4 : wr.cell? ⟨ob, 4, none⟩ = some (.slice A es.length c) := hrow.cell 4
      clear hkds hrow hrow0 hb hR
      by_cases hlt : es.length < n
      · have hltI : (es.length : Int) < (n : Int) := by omega
        have hpq : p + 1 + es.length * reC d + reC d ≤ 1099511627776 := by
          have h1 := Hrc.out
          have h2 : es.length * reC d ≤ 1 * reC d := Nat.mul_le_mul_right _ (by omega)
          omega
        go_wp2_with fail
        refine (HKid.out wr).mono ?_
        rintro e w' ⟨rfl, rfl⟩
        go_wp2
        have hbo : b ≠ ob := by omega
        have hdw : IntKind.i64.wrap (d : Int) = d := IntWalk.i64_in _ (by omega)
        have SB := Lib.hid (fun (z : World) (hz : But b wr z) => show z.cell? ⟨ob, 4, none⟩ = some (.slice A es.length c) from (Hrow.out.only hz (by omega)).cell 4)
        obtain ⟨u, hu⟩ : ∃ u, wr.drew = u := ⟨_, rfl⟩
        have Bu := Lib.hid (show But b wr u from hu ▸ (Only.refl wr).drew)
        have Ru := Lib.hid (show Rd u b (p + 1 + es.length * reC d) from hu ▸ HRd.out.on (Below.refl _ _).drew)
        have Hu := Lib.hid hu
        clear hu
        refine wp_region_g 10 (fun z => z.cell? ⟨ob, 4, none⟩ = some (.slice A es.length c)) (by kernel_rfl) ?_ (fun hHeld => ?_)
        · exact SB.out _ (Only.refl wr).drew
        rw [Hu.out] at hHeld ⊢
        refine takeG (i := 0) (v := ?v1) rfl (by kernel_rfl) (by kernel_rfl) (by kernel_rfl) (by kernel_rfl) (fun _ _ _ h => h) (Or.inl ⟨by rfl, ?hy1⟩) (by assumption) ?_
        case hy1 => ((intro w' hSw; (try dsimp only at hSw); go_simp) <;> with_reducible rfl)
        try simp only [Act.put, List.setIfInBounds_toArray, List.set_cons_zero, List.set_cons_succ]
        refine takeG (i := 1) (v := ?v2) rfl (by kernel_rfl) (by kernel_rfl) (by kernel_rfl) (by kernel_rfl) (fun _ _ _ h => h) (Or.inl ⟨by rfl, ?hy2⟩) (by assumption) ?_
        case hy2 => ((intro w' hSw; (try dsimp only at hSw); go_simp) <;> with_reducible rfl)
        try simp only [Act.put, List.setIfInBounds_toArray, List.set_cons_zero, List.set_cons_succ]
        refine takeG (i := 2) (v := ?v3) rfl (by kernel_rfl) (by kernel_rfl) (by kernel_rfl) (by kernel_rfl) (fun _ _ _ h => h) (Or.inl ⟨by rfl, ?hy3⟩) (by assumption) ?_
        case hy3 => ((intro w' hSw; (try dsimp only at hSw); go_simp) <;> with_reducible rfl)
        try simp only [Act.put, List.setIfInBounds_toArray, List.set_cons_zero, List.set_cons_succ]
        refine takeG (i := 3) (v := ?v4) rfl (by kernel_rfl) (by kernel_rfl) (by kernel_rfl) (by kernel_rfl) (fun _ _ _ h => h) (Or.inl ⟨by rfl, ?hy4⟩) (by assumption) ?_
        case hy4 => ((intro w' hSw; (try dsimp only at hSw); go_simp) <;> with_reducible rfl)
        try simp only [Act.put, List.setIfInBounds_toArray, List.set_cons_zero, List.set_cons_succ]
        refine takeG (i := 4) (v := ?v5) rfl (by kernel_rfl) (by kernel_rfl) (by kernel_rfl) (by kernel_rfl) (fun _ _ _ h => h) (Or.inl ⟨by rfl, ?hy5⟩) (by assumption) ?_
        case hy5 => ((intro w' hSw; (try dsimp only at hSw); go_simp) <;> with_reducible rfl)
        try simp only [Act.put, List.setIfInBounds_toArray, List.set_cons_zero, List.set_cons_succ]
        refine takeG (i := 5) (v := ?v6) rfl (by kernel_rfl) (by kernel_rfl) (by kernel_rfl) (by kernel_rfl) (fun _ _ _ h => h) (Or.inl ⟨by rfl, ?hy6⟩) (by assumption) ?_
        case hy6 => ((intro w' hSw; (try dsimp only at hSw); go_simp) <;> with_reducible rfl)
        try simp only [Act.put, List.setIfInBounds_toArray, List.set_cons_zero, List.set_cons_succ]
        refine wpAnyG_ready (rs := [6]) (by kernel_rfl) (by simp) ?_
        refine readyG rfl (fun K hK => ?_) AllReadyG.nil
        go_simp
        go_at_call 63
        refine (IHd.out b _ width u Ru.out hpq).mono ?_
        rintro e u1 ⟨f, x, rfl, hx, hb1, hR1, hxn⟩
        have HXN := Lib.hid hxn
        clear hxn
        have B1 := Lib.hid (Bu.out.trans hb1)
        have R1 := Lib.hid hR1
        have X1 := Lib.hid hx
        have hz0 := Bu.out.size
        have hz1 := hb1.size
        unfold feV
        clear hb1 hR1 hx
        refine hK.out _ _ ?hS7 (fun hHeld => ?_)
        case hS7 => exact fun _ => SB.out _ B1.out
        replace hHeld := hHeld (by decide)
        clear hK K
        try simp only [Act.put, List.setIfInBounds_toArray, List.set_cons_zero, List.set_cons_succ]
        refine wpAnyG_ready (rs := [7]) (by kernel_rfl) (by simp) ?_
        refine readyG rfl (fun K hK => ?_) AllReadyG.nil
        obtain ⟨u2, hu2⟩ : ∃ z, u1.alloc (.cells #[.int .i64 f.kind, .int .i64 f.col, .bool f.val.1, .int .i64 f.val.2, .slice f.sv.A f.sv.n f.sv.c] 66) = z := ⟨_, rfl⟩
        have hb2 : Below u1.heap.size u1 u2 := by rw [← hu2]; exact balloc (Below.refl _ _) _
        have hz2 : u2.heap.size = u1.heap.size + 1 := by rw [← hu2]; simp
        have S2 := Lib.hid (show Sl 5 feC u2 u2.heap.size (some ⟨u1.heap.size, 0, none⟩) [f] by rw [← hu2]; exact Row.sl' (t := 66) feC_length ((Row.new u1 _ _).of rfl))
        have B2 := Lib.hid (B1.out.below hb2)
        have R2 := Lib.hid (R1.out.on hb2)
        have X2 := Lib.hid (X1.out.keep hb2.size fun k _ hl => hb2.block k hl)
        go_simp
        try rw [hu2]
        have Hu2 := Lib.hid hu2
        clear hu2 hb2
        refine hK.out _ _ ?hS8 (fun hHeld => ?_)
        case hS8 => exact fun _ => SB.out _ B2.out
        replace hHeld := hHeld (by decide)
        clear hK K
        try simp only [Act.put, List.setIfInBounds_toArray, List.set_cons_zero, List.set_cons_succ]
        refine wpAnyG_ready (rs := [8]) (by kernel_rfl) (by simp) ?_
        refine readyG rfl (fun K hK => ?_) AllReadyG.nil
        obtain ⟨fs, hfl, how, hfx⟩ := HKd.out.only B2.out (fun i hi => by omega)
        rw [← hfl]
        have hfl2 : fs.length ≤ 2 := by omega
        rw [← hfl] at how
        have X3 := Lib.hid (X2.out.mono (T := fun k => w.heap.size + 2 ≤ k ∧ (Value.slice A fs.length c).ownBlock ≠ some k) fun k hk1 hk => by
          refine ⟨by omega, fun e => ?_⟩
          obtain ⟨fs', hfl', how', _⟩ := HKd.out
          rw [hfl] at e
          have := (how'.ty k e).2.1
          omega)
        refine step_app2 rfl (.tmp 41) (.tmp 47) 23 rfl (w.heap.size + 2) 66 _ 5 56 feC Try.underlying23 zeroExT rfl (by decide) (by decide) feC_length feC_one _ fs rfl how (some ⟨u1.heap.size, 0, none⟩) 1 1 [f] rfl rfl S2.out (by simp; omega) (by omega) ?_
        intro v' u3 hown hgr hob3
        have K3 := Kds.snoc hfl (fun i g y hg hy => by rw [hfl]; exact hfx i g y hg hy) X3.out hown hgr hob3
        obtain ⟨A3, c3, rfl, hc31, hc32⟩ := K3.shape
        have hgo : ∀ k, (Value.slice A fs.length c).ownBlock = some k → w.heap.size + 2 ≤ k := fun k hk => (how.ty k hk).1
        have rr := Hrow.out.only B2.out (show ob ≠ b by omega)
        have hkob : u3.heap[ob]? = u2.heap[ob]? := hgr.block ob rr.lt fun e => by have := hgo ob e.symm; omega
        have r3 := rr.keep hkob
        have rr0 := Hrow0.out.only B2.out (show w.heap.size ≠ b by omega)
        have hkrb : u3.heap[w.heap.size]? = u2.heap[w.heap.size]? := hgr.block w.heap.size rr0.lt fun e => by have := hgo w.heap.size e.symm; omega
        have r03 := Lib.hid (rr0.keep hkrb)
        have C3 : u3.cell? ⟨ob, 4, none⟩ = some (.slice A es.length c) := r3.cell 4
        have F3 := r3.frozen 4
        have R3 := Lib.hid (R2.out.grown hgr fun k hk => by have := hgo k hk; omega)
        have B3 := Lib.hid ((HB.out.trans B2.out).grown hgr fun k hk => .inr (by have := hgo k hk; omega))
        have Hr3 := Lib.hid r3
        have K3' := Lib.hid K3
        have hl3 := r3.lt
        clear K3 hown hgr hob3 hgo rr hkob r3 rr0 hkrb how hfx
        refine hK.out _ _ ?hS9 (fun hHeld => ?_)
        case hS9 => exact fun _ => C3
        replace hHeld := hHeld (by decide)
        clear hK K
        try simp only [Act.put, List.setIfInBounds_toArray, List.set_cons_zero, List.set_cons_succ]
        refine takeG (i := 9) (v := ?v10) rfl (by kernel_rfl) (by kernel_rfl) (by kernel_rfl) (by kernel_rfl) (fun _ _ _ h => h) (Or.inl ⟨by rfl, ?hy10⟩) (by assumption) ?_
        case hy10 => ((intro w' hSw; (try dsimp only at hSw); go_simp) <;> with_reducible rfl)
        try simp only [Act.put, List.setIfInBounds_toArray, List.set_cons_zero, List.set_cons_succ]
        refine wpAnyG_ready (rs := [10]) (by kernel_rfl) (by simp) ?_
        refine readyG rfl (fun K hK => ?_) AllReadyG.nil
        go_simp
        refine hK.out _ _ ?hS11 (fun hHeld => ?_)
        case hS11 => exact fun h => absurd rfl h
        clear hK K
        try simp only [Act.put, List.setIfInBounds_toArray, List.set_cons_zero, List.set_cons_succ]
        refine wpAnyG_done (by kernel_rfl) ?_ _
        go_wp2
        go_roundg (n - (es.length + 1))
        case measure => omega
        case rel =>
          obtain ⟨hob1, hob2⟩ := Hob.out
          have hso := Only.set (S := fun k => k = ob) (p := ⟨ob, 4, none⟩) (Only.refl u3) (.inl rfl) (.slice A3 (es.length + 1) c3)
          have k4 := K3'.out
          have K4 := k4.only hso (fun i (hi : i = ob) => show i < w.heap.size + 2 by subst hi; exact hob2)
          refine ⟨es ++ [x], A3, c3, by simp, by simp, by simp; omega, K4, (Hr3.out.set 4 _).of (by simp), r03.out.only hso (show ¬ w.heap.size = ob by omega), B3.out.set (.inr (by show w.heap.size ≤ ob; omega)) _, ?_, by have h1 := HCN.out; have h2 := HXN.out; rw [exsN_append, exsN_one, List.length_append, List.length_singleton, Nat.add_mul]; omega⟩
          have h1 := R3.out.set (a := ⟨ob, 4, none⟩) (show b < ob by omega) (.slice A3 (es.length + 1) c3)
          refine h1.mono ?_
          simp [Nat.add_mul]
          omega
      · go_wp2_with fail
        refine (HKid.out wr).mono ?_
        rintro e w' ⟨rfl, rfl⟩
        have hr := Hrow.out
        have hr0 := Hrow0.out
        have a0 := hr.cell 0
        have a1 := hr.cell 1
        have a2 := hr.cell 2
        have a3 := hr.cell 3
        have hl0 := hr0.lt
        have c0 := hr0.cell 0
        have c1 := hr0.cell 1
        have c2 := hr0.cell 2
        have c3 := hr0.cell 3
        have c4' := hr0.cell 4
        have f0 := hr0.frozen 0
        have f1 := hr0.frozen 1
        have f2 := hr0.frozen 2
        have f3 := hr0.frozen 3
        have f4 := hr0.frozen 4
        have hltI : ¬ (es.length : Int) < (n : Int) := by omega
        clear hr hr0
        go_wp2
        refine bodyPost_ret (v := feV ⟨kd, 0, (false, 0), ⟨A, es.length, c⟩⟩) (by simp [results, Try.results63, go_sem, feV, c0, c1, c2, c3, c4']) rfl ⟨_, .mk kd 0 (false, 0) es, rfl, ?_, ?_, ?_, ?_⟩
        · obtain ⟨A', c', hv, hc1, hc2⟩ := HKd.out.shape
          cases hv
          refine (ExT.make (HKd.out.exs.mono fun k _ hk => show w.heap.size < k by omega) rfl hc1 hc2 |>.keep (set5 wr w.heap.size _ _ _ _ _).size fun k hk hl => (set5 wr w.heap.size _ _ _ _ _).block k hl (by omega)).mono fun k _ hk => by omega
        · exact (HB.out.step (set5 wr w.heap.size _ _ _ _ _) fun i hi => .inr (by omega))
        · refine (HRd.out.apart (set5 wr w.heap.size _ _ _ _ _) fun i hi => by omega).mono ?_
          have h1 := Hrc.out
          have h2 : es.length * reC d ≤ 2 * reC d := Nat.mul_le_mul_right _ (by omega)
          omega
        · have h1 := Hrc.out
          have h2 : es.length * reC d ≤ 2 * reC d := Nat.mul_le_mul_right _ (by omega)
          have h3 := HCN.out
          rw [exN]
          omega

theorem randomExpr_ok : ∀ d : Nat, d ≤ 8 → RE d := fun d => by
  induction d with
  | zero => exact fun h => randomExpr_of 0 h fun d' e => by cases e
  | succ d ih => exact fun h => randomExpr_of (d + 1) h fun d' e => by cases e; exact ih (by omega)
end Go.Proofs.Ytcbfbgngkdiijaa
