/-
  Contract of the drawing of plans: planner.plan. (Printed by wip/ger.py.)
-/
import Derived.Test.YtcbfbgngkdiijaaProg
import Derived.Test.YtcbfbgngkdiijaaGeQ
import Derived.Test.YtcbfbgngkdiijaaCpP
import Derived.Test.YtcbfbgngkdiijaaPlS
import Derived.Deep.CutBlock
import Derived.Deep.DeepCutAuto
namespace Go.Proofs.Ytcbfbgngkdiijaa
open Go.RowKit Go.Qo
set_option linter.unusedVariables false
set_option linter.unusedSimpArgs false

/-- The state behind the kid: the reader b, the planner gb, the result's box rb, the kid's box kb. -/
def Pst (b gb rb kb : Nat) (A : Option Addr) (c : Nat) (ws : List Int) (kf : FP) (kx : Pl) (j u : Int) (w wk : World) : Prop :=
  (b < gb ∧ gb < rb ∧ rb < kb ∧ w.heap.size ≤ rb) ∧ Row wk rb 27 [.int .i64 0, .int .i64 0, .slice none 0 0, .slice none 0 0, .slice none 0 0] ∧ Row wk kb 27 (fpC kf) ∧ PlT (fun k => rb < k ∧ k < kb) wk kf kx ∧ Row wk gb 94 [.pointer (some ⟨b, 0, none⟩), .slice A ws.length c, .int .i64 j, .int .i64 u] ∧ SlS (fun k => k < gb ∧ k ≠ b) 1 intC wk A ws ∧ Only (fun k => k = b ∨ k = gb) w wk
section
variable {b gb rb kb : Nat} {A : Option Addr} {c : Nat} {ws : List Int} {kf : FP} {kx : Pl} {j u j' u' : Int} {w wk w' : World}
theorem Pst.both (h : Pst b gb rb kb A c ws kf kx j u w wk) (k : Only (fun i => i = b ∨ i = gb) wk w') (hg : Row w' gb 94 [.pointer (some ⟨b, 0, none⟩), .slice A ws.length c, .int .i64 j', .int .i64 u']) : Pst b gb rb kb A c ws kf kx j' u' w w' := by
  obtain ⟨⟨h1, h2, h3, h4⟩, r, q, x, g, s, o⟩ := h
  refine ⟨⟨h1, h2, h3, h4⟩, r.only k (by omega), q.only k (by omega), x.keep k.size fun i hi hl => k.block i hl (by omega), hg, s.keep k.size fun i hi hl => k.block i hl (by omega), o.trans k⟩
theorem Pst.but (h : Pst b gb rb kb A c ws kf kx j u w wk) (k : But b wk w') : Pst b gb rb kb A c ws kf kx j u w w' :=
  h.both (k.mono fun i _ hi => .inl hi) (h.2.2.2.2.1.only k (by have := h.1; omega))
theorem Pst.kid (h : Pst b gb rb kb A c ws kf kx j u w wk) : PlT (fun k => rb < k) wk kf kx := h.2.2.2.1.mono fun k _ hk => hk.1
theorem Pst.on (h : Pst b gb rb kb A c ws kf kx j u w wk) (k : Below wk.heap.size wk w') : Pst b gb rb kb A c ws kf kx j u w w' := h.but (only_below k)
end
/-- What a planner hands back. -/
def GotQ (D b gb q : Nat) (A : Option Addr) (c : Nat) (ws : List Int) (J : Nat) (w : World) (e : Ending) (w' : World) : Prop :=
  ∃ (f : FP) (x : Pl) (j' u' : Int), e = .returned (fpV f) ∧ PlT (fun k => w.heap.size ≤ k) w' f x ∧ RootOk w.heap.size w' f x ∧ Only (fun k => k = b ∨ k = gb) w w' ∧ Rd w' b q ∧ Row w' gb 94 [.pointer (some ⟨b, 0, none⟩), .slice A ws.length c, .int .i64 j', .int .i64 u'] ∧ (0 ≤ j' ∧ j' ≤ J) ∧ (0 ≤ u' ∧ u' ≤ 1) ∧ plN x ≤ D
theorem gotQ_of {D b gb q : Nat} {A : Option Addr} {c : Nat} {ws : List Int} {J : Nat} {w wx : World} {f : FP} {x : Pl} {j u : Int} (hx : PlT (fun k => w.heap.size < k) wx f x) (hr : RootOk (w.heap.size + 1) wx f x) (ho : Only (fun k => k = b ∨ k = gb) w wx) (hR : Rd wx b q) (hg : Row wx gb 94 [.pointer (some ⟨b, 0, none⟩), .slice A ws.length c, .int .i64 j, .int .i64 u])
    (hj : 0 ≤ j ∧ j ≤ J) (hu : 0 ≤ u ∧ u ≤ 1) (hlt : b < gb) (hgl : gb < w.heap.size) (v0 v1 v2 v3 v4 : Value) {e : Ending} (he : e = .returned (fpV f)) (hD : plN x ≤ D) :
    GotQ D b gb q A c ws J w e (((((wx.setCell ⟨w.heap.size, 0, none⟩ v0).setCell ⟨w.heap.size, 1, none⟩ v1).setCell ⟨w.heap.size, 2, none⟩ v2).setCell ⟨w.heap.size, 3, none⟩ v3).setCell ⟨w.heap.size, 4, none⟩ v4) := by
  have hs := set5 wx w.heap.size v0 v1 v2 v3 v4
  exact ⟨f, x, j, u, he, (hx.keep hs.size fun k hk hl => hs.block k hl (by omega)).mono fun k _ hk => Nat.le_of_lt hk, (hr.only hs fun i (hi : i = w.heap.size) => by omega).low (by omega), ho.step hs fun i hi => .inr (by omega), hR.apart hs fun i hi => by omega, hg.only hs (show ¬ gb = w.heap.size by omega), hj, hu, hD⟩
def plC (J d : Nat) : Nat := 2 + 1000 * ((J + 1) * d)
/-- A bound on a drawn plan's nodes. -/
def plD (J d : Nat) : Nat := 200 * 16 ^ J * 4 ^ d
theorem plD_succ (J d : Nat) : plD J (d + 1) = 4 * plD J d := by unfold plD; rw [Nat.pow_succ, ← Nat.mul_assoc, Nat.mul_comm]
theorem plD_pos (J : Nat) : ∀ d, 200 ≤ plD J d
  | 0 => by
    unfold plD
    have := Nat.one_le_pow J 16 (by omega)
    omega
  | d + 1 => by rw [plD_succ]; have := plD_pos J d; omega
theorem plD_le {J d : Nat} : ∀ {d' : Nat}, d ≤ d' → plD J d ≤ plD J d'
  | 0, h => by rw [Nat.le_zero.1 h]; exact Nat.le_refl _
  | d' + 1, h => by
    rcases Nat.lt_or_ge d' d with h1 | h1
    · rw [show d = d' + 1 by omega]; exact Nat.le_refl _
    · have := plD_le (J := J) h1; rw [plD_succ]; omega
theorem plD_one : ∀ d, 3200 ≤ plD 1 d
  | 0 => by decide
  | d + 1 => by rw [plD_succ]; have := plD_one d; omega
theorem plD_low {d : Nat} (h : d ≤ 1) : plD 0 d ≤ 800 := by
  have h2 : d = 0 ∨ d = 1 := by omega
  rcases h2 with rfl | rfl <;> decide
def PLN (J d : Nat) : Prop := ∀ (b gb p : Nat) (A : Option Addr) (c : Nat) (ws : List Int) (j u : Int) (w : World), Rd w b p → b < gb → Row w gb 94 [.pointer (some ⟨b, 0, none⟩), .slice A ws.length c, .int .i64 j, .int .i64 u] → SlS (fun k => k < gb ∧ k ≠ b) 1 intC w A ws → (∀ x ∈ ws, 1 ≤ x ∧ x ≤ 6) → ws.length ≤ 4 → (0 ≤ j ∧ j ≤ J) → (0 ≤ u ∧ u ≤ 1) → p + plC J d ≤ 1099511627776 →
  Calls Try.prog 60 #[.pointer (some ⟨gb, 0, none⟩), .int .i64 d] w (GotQ (plD J d) b gb (p + plC J d) A c ws J w)

set_option maxRecDepth 20000 in
set_option maxHeartbeats 16000000 in
theorem plan_of (J d : Nat) (hJ : J ≤ 1) (hd : d ≤ 8) (ihk : ∀ d', d = d' + 1 → PLN J d') (iho : ∀ J', J = J' + 1 → ∀ d', d' ≤ 1 → PLN J' d') : PLN J d := fun b gb p A c ws j u w hR hbg hg hws hwr hwl hj hu hp => by
  have hlt := hR.lt
  have hgl := hg.lt
  have IHK := Lib.hid ihk
  have IHO := Lib.hid iho
  have HWS := Lib.hid (And.intro hwr hwl)
  have HJU := Lib.hid (And.intro hj hu)
  have HP := Lib.hid (fun (z : World) (q : Nat) (n : Int) (hz : Rd z b q) (hq : q ≤ 1099511627776) => pick_ok b q n z hz hq)
  have hpc : 2 ≤ plC J d := by unfold plC; omega
  obtain ⟨W0, hW0⟩ : ∃ z, w.alloc (.cells #[.int .i64 0, .int .i64 0, .slice none 0 0, .slice none 0 0, .slice none 0 0] 27) = z := ⟨_, rfl⟩
  have b0 : Below w.heap.size w W0 := by rw [← hW0]; exact balloc (Below.refl _ _) _
  have HR0 := Lib.hid (hR.on b0)
  have Hg0 := Lib.hid (hg.on b0)
  have Hs0 := Lib.hid (hws.keep b0.size fun k _ hl => b0.block k hl)
  have Hr0 := Lib.hid (show Row W0 w.heap.size 27 [.int .i64 0, .int .i64 0, .slice none 0 0, .slice none 0 0, .slice none 0 0] by rw [← hW0]; exact Row.new _ _ _)
  have HO0 := Lib.hid (show Only (fun k => k = b ∨ k = gb) w W0 from only_below b0)
  have HW0 := Lib.hid hW0
  have g0 : W0.cell? ⟨gb, 0, none⟩ = some (.pointer (some ⟨b, 0, none⟩)) := Hg0.out.cell 0
  have g1 : W0.cell? ⟨gb, 1, none⟩ = some (.slice A ws.length c) := Hg0.out.cell 1
  have hgl0 := Hg0.out.lt
  clear hR hg hws hwr hj hu ihk iho hW0 b0
  go_enter Try.func60, Try.ntmps60
  go_upto_region 1 with fail
  rw [HW0.out]
  go_wp2_with fail
  refine (HP.out W0 p ws.length HR0.out (by omega)).mono ?_
  rintro e w1 ⟨k1, rfl, hk1, hb1, hsz1, hR1⟩
  have hr1 := Hr0.out.only hb1 (by omega)
  obtain ⟨W2, hW2⟩ : ∃ z, w1.alloc (.cells #[.int .i64 1, .int .i64 k1, .slice none 0 0, .slice none 0 0, .slice none 0 0] 27) = z := ⟨_, rfl⟩
  obtain ⟨sb, hsb⟩ : ∃ n, w1.heap.size = n := ⟨_, rfl⟩
  have b2 : Below w1.heap.size w1 W2 := by rw [← hW2]; exact balloc (Below.refl _ _) _
  have Hsc2 := Lib.hid (show Row W2 sb 27 [.int .i64 1, .int .i64 k1, .slice none 0 0, .slice none 0 0, .slice none 0 0] by rw [← hW2, ← hsb]; exact Row.new _ _ _)
  have Hr2 := Lib.hid (hr1.on b2)
  have Hg2 := Lib.hid ((Hg0.out.only hb1 (by omega)).on b2)
  have Hs2 := Lib.hid ((Hs0.out.keep hb1.size fun k hk hl => hb1.block k hl hk.2).keep b2.size fun k _ hl => b2.block k hl)
  have HO2 := Lib.hid ((HO0.out.trans (hb1.mono (T := fun k => k = b ∨ k = gb) fun k _ hk => .inl hk)).below b2)
  have HR2 := Lib.hid (hR1.on b2)
  have hsb1 : w.heap.size < sb := by have := hr1.lt; omega
  have hs2 : W2.heap.size = sb + 1 := by rw [← hW2, ← hsb]; simp
  have hs2' : sb < W2.heap.size := by omega
  have HW2 := Lib.hid hW2
  have Hsb := Lib.hid hsb
  clear hk1 hb1 hsz1 hR1 hr1 hW2 hsb b2 g0 g1 hgl0 hs2
  go_upto_region 3 with fail
  rw [HW2.out, Hsb.out]
  -- a scan
  have LEAF := Lib.hid (fun (z : World) (k : Nat) (hb : But b W2 z) => show Row z w.heap.size 27 [.int .i64 0, .int .i64 0, .slice none 0 0, .slice none 0 0, .slice none 0 0] ∧ Row z sb 27 [.int .i64 1, .int .i64 k1, .slice none 0 0, .slice none 0 0, .slice none 0 0] ∧ Row z gb 94 [.pointer (some ⟨b, 0, none⟩), .slice A ws.length c, .int .i64 j, .int .i64 u] ∧ Only (fun k => k = b ∨ k = gb) w z from
    ⟨Hr2.out.only hb (by omega), Hsc2.out.only hb (by omega), Hg2.out.only hb (by omega), HO2.out.trans (hb.mono fun k _ hk => .inl hk)⟩)
  by_cases hd0 : d = 0
  · subst hd0
    obtain ⟨hr, hsc, hgg, hoo⟩ := LEAF.out W2 0 (Only.refl _)
    have HRz := Lib.hid HR2.out
    have HG := Lib.hid (And.intro hgg hoo)
    have hl := hr.lt
    have hls := hsc.lt
    have s0 := hsc.cell 0
    have s1 := hsc.cell 1
    have s2 := hsc.cell 2
    have s3 := hsc.cell 3
    have s4 := hsc.cell 4
    have c0 := hr.cell 0
    have f0 := hr.frozen 0
    have c1 := hr.cell 1
    have f1 := hr.frozen 1
    have c2 := hr.cell 2
    have f2 := hr.frozen 2
    have c3 := hr.cell 3
    have f3 := hr.frozen 3
    have c4 := hr.cell 4
    have f4 := hr.frozen 4
    clear hr hsc hgg hoo
    go_wp2
    refine bodyPost_ret (v := fpV ⟨1, k1, ⟨none, 0, 0⟩, ⟨none, 0, 0⟩, ⟨none, 0, 0⟩⟩) (by simp [results, Try.results60, go_sem, fpV, c0, c1, c2, c3, c4]) rfl ?_
    exact gotQ_of (x := .mk 1 k1 [] [] []) (PlT.make SVok.nil SVok.nil SVok.nil ExsT.nil SlS.nil PlsT.nil) (rootOk_lit (by simp) (by simp) rfl rfl) HG.out.2 (HRz.out.mono (by omega)) HG.out.1 HJU.out.1 HJU.out.2 hbg hgl _ _ _ _ _ rfl (by have h5 := plD_pos J 0; simp only [plN, plsN, exsN]; omega)
  · obtain ⟨d, rfl⟩ : ∃ d', d = d' + 1 := ⟨d - 1, by omega⟩
    have hde : ((d : Int) + 1 == 0) = false := by rw [beq_eq_false_iff_ne]; omega
    have hdw : IntKind.i64.wrap (d : Int) = d := IntWalk.i64_in _ (by omega)
    have hpl : plC J (d + 1) = plC J d + 1000 * (J + 1) := by unfold plC; rw [Nat.mul_add (J + 1) d 1, Nat.mul_add 1000]; omega
    have HDD0 := Lib.hid (And.intro (plD_succ J d) (plD_pos J d))
    have Hpl := Lib.hid hpl
    have hpd : 2 ≤ plC J d := by unfold plC; omega
    have hpj : 1000 ≤ 1000 * (J + 1) := by omega
    have hp1 : p + 1 ≤ 1099511627776 := by omega
    clear hd0 hpl
    go_wp2_with fail
    refine (HP.out W2 (p + 1) 6 HR2.out hp1).mono ?_
    rintro e w3 ⟨k3, rfl, hk3, hb3, hsz3, hR3⟩
    by_cases h3 : k3 = 0
    · subst h3
      obtain ⟨hr, hsc, hgg, hoo⟩ := LEAF.out w3 0 hb3
      have HR3 := Lib.hid hR3
      have HRz := Lib.hid HR3.out
      have HG := Lib.hid (And.intro hgg hoo)
      have hl := hr.lt
      have hls := hsc.lt
      have s0 := hsc.cell 0
      have s1 := hsc.cell 1
      have s2 := hsc.cell 2
      have s3 := hsc.cell 3
      have s4 := hsc.cell 4
      have c0 := hr.cell 0
      have f0 := hr.frozen 0
      have c1 := hr.cell 1
      have f1 := hr.frozen 1
      have c2 := hr.cell 2
      have f2 := hr.frozen 2
      have c3 := hr.cell 3
      have f3 := hr.frozen 3
      have c4 := hr.cell 4
      have f4 := hr.frozen 4
      clear hr hsc hgg hoo
      go_wp2
      refine bodyPost_ret (v := fpV ⟨1, k1, ⟨none, 0, 0⟩, ⟨none, 0, 0⟩, ⟨none, 0, 0⟩⟩) (by simp [results, Try.results60, go_sem, fpV, c0, c1, c2, c3, c4]) rfl ?_
      exact gotQ_of (x := .mk 1 k1 [] [] []) (PlT.make SVok.nil SVok.nil SVok.nil ExsT.nil SlS.nil PlsT.nil) (rootOk_lit (by simp) (by simp) rfl rfl) HG.out.2 (HRz.out.mono (by omega)) HG.out.1 HJU.out.1 HJU.out.2 hbg hgl _ _ _ _ _ rfl (by have h5 := HDD0.out; simp only [plN, plsN, exsN]; omega)
    · have h3' : (k3 == 0) = false := by simpa using h3
      obtain ⟨hr, hsc, hgg, hoo⟩ := LEAF.out w3 0 hb3
      have Hr3 := Lib.hid hr
      have Hg3 := Lib.hid hgg
      have HO3 := Lib.hid hoo
      have HR3 := Lib.hid hR3
      have Hs3 := Lib.hid (Hs2.out.keep hb3.size fun k hk hl => hb3.block k hl hk.2)
      have IHd := Lib.hid (IHK.out d rfl b gb (p + 1 + 1) A c ws j u w3 hR3 hbg hgg Hs3.out HWS.out.1 HWS.out.2 HJU.out.1 HJU.out.2 (by have := Hpl.out; omega))
      clear h3 hk3 hb3 hsz3 hR3 hr hsc hgg hoo IHK
      go_wp2_with fail
      refine IHd.out.mono ?_
      rintro e w4 ⟨kf, kx, j4, u4, rfl, hx4, _, ho4, hR4, hg4, hj4, hu4, hkn⟩
      have HKN := Lib.hid hkn
      have HDD := Lib.hid (And.intro (plD_succ J d) (plD_pos J d))
      clear hkn
      unfold fpV
      obtain ⟨W5, hW5⟩ : ∃ z, w4.alloc (.cells #[.int .i64 kf.kind, .int .i64 kf.table, .slice kf.es.A kf.es.n kf.es.c, .slice kf.cs.A kf.cs.n kf.cs.c, .slice kf.ks.A kf.ks.n kf.ks.c] 27) = z := ⟨_, rfl⟩
      obtain ⟨kb, hkb⟩ : ∃ n, w4.heap.size = n := ⟨_, rfl⟩
      have b5 : Below w4.heap.size w4 W5 := by rw [← hW5]; exact balloc (Below.refl _ _) _
      have hz3 : w.heap.size < w3.heap.size := Hr3.out.lt
      have hz4 := ho4.size
      have HS5 := Lib.hid (show Pst b gb w.heap.size kb A c ws kf kx j4 u4 w W5 from
        ⟨⟨hbg, hgl, by omega, Nat.le_refl _⟩, (Hr3.out.only ho4 (by omega)).on b5, by rw [← hW5, ← hkb]; exact Row.new _ _ _, (hx4.mono (T := fun k => w.heap.size < k ∧ k < kb) fun k hk1 hk => by rw [← hkb]; omega).keep b5.size fun k _ hl => b5.block k hl, hg4.on b5, (Hs3.out.keep ho4.size fun k hk hl => ho4.block k hl (by omega)).keep b5.size fun k _ hl => b5.block k hl, (HO3.out.trans ho4).below b5⟩)
      have HR5 := Lib.hid (hR4.on b5)
      have HJ4 := Lib.hid (And.intro hj4 hu4)
      have HW5 := Lib.hid hW5
      have Hkb := Lib.hid hkb
      obtain ⟨wd, hwd⟩ : ∃ R, plW ws 8 kx = R := ⟨_, rfl⟩
      have hwr : 0 ≤ wd ∧ wd ≤ 6 := by rw [← hwd]; exact plW_range HWS.out.1 _ _
      have HPW := Lib.hid (fun z : Aft W5.heap.size W5 => planWidth_ok kx kf ws A c 8 z.v wd (HS5.out.on z.h).kid.in_ HWS.out.1 (by have := HWS.out.2; unfold maxLen; omega) (HS5.out.on z.h).2.2.2.2.2.1.sl (by omega) hwd)
      have e8 : ((8 : Nat) : Int) = 8 := rfl
      rw [e8] at HPW
      unfold fpV at HPW
      have q5 := HS5.out.2.2.1
      have p5 := HS5.out.2.2.2.2.1
      have hlk := q5.lt
      have hlg := p5.lt
      have K0 := fun z : Aft W5.heap.size W5 => z.cell hlk (q5.cell 0)
      have K1 := fun z : Aft W5.heap.size W5 => z.cell hlk (q5.cell 1)
      have K2 := fun z : Aft W5.heap.size W5 => z.cell hlk (q5.cell 2)
      have K3 := fun z : Aft W5.heap.size W5 => z.cell hlk (q5.cell 3)
      have K4 := fun z : Aft W5.heap.size W5 => z.cell hlk (q5.cell 4)
      have G1 := fun z : Aft W5.heap.size W5 => z.cell hlg (p5.cell 1)
      clear hx4 ho4 hR4 hg4 hj4 hu4 hW5 hkb b5 hz3 hz4 hwd e8 q5 p5
      go_upto_region 6 with fail
      rw [HW5.out, Hkb.out]
      refine wp_region_aft W5.heap.size (by kernel_rfl) (by kernel_rfl) ?_
      repeat (go_big_quiet_step ((go_at_call 37; exact Calls.aft (Nat.le_refl _) (HPW.out _))))
      refine wpQuiet_nil ?_
      intro w6 hw'
      obtain ⟨⟨_, hb6⟩, rfl⟩ := hw'
      have HS6 := Lib.hid (HS5.out.on hb6)
      have HR6 := Lib.hid (HR5.out.on hb6)
      clear K0 K1 K2 K3 K4 G1 hb6 HPW
      go_wp2_with fail
      refine (HP.out w6 _ 10 HR6.out (by have := Hpl.out; omega)).mono ?_
      rintro e w7 ⟨k, rfl, hk, hb7, hsz7, hR7⟩
      have HS7 := Lib.hid (HS6.out.but hb7)
      have HR7 := Lib.hid hR7
      have hk0 := hk.1
      have hk10 := hk.2.1 (by omega)
      obtain ⟨q7, hq7⟩ : ∃ q, p + 1 + 1 + plC J d + 1 = q := ⟨_, rfl⟩
      rw [hq7] at HR7
      have Hq7 := Lib.hid (show q7 + 1000 * (J + 1) - 3 = p + plC J (d + 1) ∧ 3 ≤ q7 by have := Hpl.out; omega)
      clear hk hb7 hsz7 hR7 hq7
      go_upto_block 0 with fail
      go_cut [] (fun wx => ∃ (j u : Int), Pst b gb w.heap.size kb A c ws kf kx j u w wx ∧ Rd wx b (q7 + 900 * (J + 1)) ∧ (0 ≤ j ∧ j ≤ J) ∧ (0 ≤ u ∧ u ≤ 1))
      case first =>
        have hcs : k = 0 ∨ k = 1 ∨ k = 2 ∨ k = 3 ∨ k = 4 ∨ k = 5 ∨ k = 6 ∨ k = 7 ∨ k = 8 ∨ k = 9 := by omega
        clear hk0 hk10
        rcases hcs with rfl | rfl | rfl | rfl | rfl | rfl | rfl | rfl | rfl | rfl
        · go_upto_region 11 with fail
          have HSb := Lib.hid (fun (z : World) (hz : But b w7 z) => HS7.out.but hz)
          have Ru0 : Hid (Rd w7.drew b (q7)) := Lib.hid (HR7.out.on (Below.refl _ _).drew)
          have SB := Lib.hid (fun (z : World) (hz : But b w7 z) => show z.cell? ⟨kb, 0, none⟩ = some (.int .i64 kf.kind) ∧ z.cell? ⟨kb, 1, none⟩ = some (.int .i64 kf.table) ∧ z.cell? ⟨kb, 2, none⟩ = some (.slice kf.es.A kf.es.n kf.es.c) ∧ z.cell? ⟨kb, 3, none⟩ = some (.slice kf.cs.A kf.cs.n kf.cs.c) ∧ z.cell? ⟨kb, 4, none⟩ = some (.slice kf.ks.A kf.ks.n kf.ks.c) from
            have h := (HS7.out.but hz).2.2.1
            ⟨h.cell 0, h.cell 1, h.cell 2, h.cell 3, h.cell 4⟩)
          obtain ⟨u0, hu0⟩ : ∃ z, w7.drew = z := ⟨_, rfl⟩
          have Bu0 := Lib.hid (show But b w7 u0 from hu0 ▸ (Only.refl _).drew)
          have Hu0 := Lib.hid hu0
          clear hu0
          rw [Hu0.out] at Ru0
          refine wp_region_g 5 (fun z => z.cell? ⟨kb, 0, none⟩ = some (.int .i64 kf.kind) ∧ z.cell? ⟨kb, 1, none⟩ = some (.int .i64 kf.table) ∧ z.cell? ⟨kb, 2, none⟩ = some (.slice kf.es.A kf.es.n kf.es.c) ∧ z.cell? ⟨kb, 3, none⟩ = some (.slice kf.cs.A kf.cs.n kf.cs.c) ∧ z.cell? ⟨kb, 4, none⟩ = some (.slice kf.ks.A kf.ks.n kf.ks.c)) (by kernel_rfl) ?_ (fun hHeld => ?_)
          · exact SB.out _ (Only.refl _).drew
          rw [Hu0.out] at hHeld ⊢
          refine takeG (i := 0) (v := ?v1) rfl (by kernel_rfl) (by kernel_rfl) (by kernel_rfl) (by kernel_rfl) (fun _ _ _ h => h) (Or.inl ⟨by rfl, ?hy1⟩) (by assumption) ?_
          case hy1 => ((intro w' hSw; (try dsimp only at hSw); go_simp) <;> with_reducible rfl)
          try simp only [Act.put, List.setIfInBounds_toArray, List.set_cons_zero, List.set_cons_succ]
          refine takeG (i := 1) (v := ?v2) rfl (by kernel_rfl) (by kernel_rfl) (by kernel_rfl) (by kernel_rfl) (fun _ _ _ h => h) (Or.inl ⟨by rfl, ?hy2⟩) (by assumption) ?_
          case hy2 => ((intro w' hSw; (try dsimp only at hSw); go_simp) <;> with_reducible rfl)
          try simp only [Act.put, List.setIfInBounds_toArray, List.set_cons_zero, List.set_cons_succ]
          refine takeG (i := 3) (v := ?v3) rfl (by kernel_rfl) (by kernel_rfl) (by kernel_rfl) (by kernel_rfl) (fun _ _ _ h => h) (Or.inl ⟨by rfl, ?hy3⟩) (by assumption) ?_
          case hy3 => ((intro w' hSw; (try dsimp only at hSw); go_simp) <;> with_reducible rfl)
          try simp only [Act.put, List.setIfInBounds_toArray, List.set_cons_zero, List.set_cons_succ]
          refine wpAnyG_ready (rs := [2]) (by kernel_rfl) (by simp) ?_
          refine readyG rfl (fun K hK => ?_) AllReadyG.nil
          go_simp
          go_at_call 62
          refine (randomCondition_ok b _ wd u0 Ru0.out (by have := Hq7.out; have := Hpl.out; omega)).mono ?_
          rintro e x1 ⟨f, x, rfl, hx, hb, hR, hxn⟩
          have HXN := Lib.hid hxn
          clear hxn
          have Bx1 := Lib.hid (Bu0.out.trans hb)
          have Rx1 := Lib.hid hR
          have Xx1 := Lib.hid (show ExT (fun k => w.heap.size < k) x1 f x from hx.mono fun k _ hk => by have h1 := (HSb.out _ Bu0.out).2.1.lt; omega)
          unfold feV
          clear hb hR hx
          refine hK.out _ _ ?hS4 (fun hHeld => ?_)
          case hS4 => exact fun _ => SB.out _ Bx1.out
          replace hHeld := hHeld (by decide)
          clear hK K
          try simp only [Act.put, List.setIfInBounds_toArray, List.set_cons_zero, List.set_cons_succ]
          refine wpAnyG_ready (rs := [4]) (by kernel_rfl) (by simp) ?_
          refine readyG rfl (fun K hK => ?_) AllReadyG.nil
          have HF := Lib.hid (filterOf_ok (fun k => w.heap.size < k) f kf x kx x1 (fun k hk => by have h1 := (HSb.out _ Bx1.out).2.1.lt; omega) Xx1.out ((HSb.out _ Bx1.out).kid))
          unfold feV fpV at HF
          go_simp
          go_at_call 61
          refine HF.out.mono ?_
          rintro e x2 ⟨h, zt, rfl, hz, hb, hrt, hzn⟩
          have HZN := Lib.hid hzn
          clear hzn
          have Bx2 := Lib.hid (Bx1.out.below hb)
          have Rx2 := Lib.hid (Rx1.out.on hb)
          have Fx2 := Lib.hid hz
          have HRt := Lib.hid hrt
          clear hz hb HF hrt
          refine hK.out _ _ ?hS5 (fun hHeld => ?_)
          case hS5 => exact fun _ => SB.out _ Bx2.out
          replace hHeld := hHeld (by decide)
          clear hK K
          try simp only [Act.put, List.setIfInBounds_toArray, List.set_cons_zero, List.set_cons_succ]
          refine wpAnyG_ready (rs := [5]) (by kernel_rfl) (by simp) ?_
          refine readyG rfl (fun K hK => ?_) AllReadyG.nil
          have rr := (HSb.out x2 Bx2.out).2.1
          have hl := rr.lt
          have c0 := rr.cell 0
          have f0 := rr.frozen 0
          have c1 := rr.cell 1
          have f1 := rr.frozen 1
          have c2 := rr.cell 2
          have f2 := rr.frozen 2
          have c3 := rr.cell 3
          have f3 := rr.frozen 3
          have c4 := rr.cell 4
          have f4 := rr.frozen 4
          clear rr
          go_simp
          refine hK.out _ _ ?hS6 (fun hHeld => ?_)
          case hS6 => exact fun h => absurd rfl h
          clear hK K
          try simp only [Act.put, List.setIfInBounds_toArray, List.set_cons_zero, List.set_cons_succ]
          refine wpAnyG_done (by kernel_rfl) ?_ _
          go_wp2
          refine bodyPost_ret (v := fpV h) (by simp [results, Try.results60, go_sem, fpV, c0, c1, c2, c3, c4]) rfl ?_
          obtain ⟨_, _, _, _, pg, _, po⟩ := HSb.out _ Bx2.out
          exact gotQ_of (Fx2.out) (HRt.out _ _) po (Rx2.out.mono (by have := Hq7.out; have := Hpl.out; omega)) pg HJ4.out.1 HJ4.out.2 hbg hgl _ _ _ _ _ rfl (by (try have h1 := HXN.out); (try have h2 := HZN.out); have h3 := HKN.out; (try have h4 := HON.out); (try have h6 := HEN.out); have h5 := HDD.out; (try simp only [plN, plsN, exN, exsN]); omega)
        · go_upto_region 11 with fail
          have HSb := Lib.hid (fun (z : World) (hz : But b w7 z) => HS7.out.but hz)
          have Ru0 : Hid (Rd w7.drew b (q7)) := Lib.hid (HR7.out.on (Below.refl _ _).drew)
          have SB := Lib.hid (fun (z : World) (hz : But b w7 z) => show z.cell? ⟨kb, 0, none⟩ = some (.int .i64 kf.kind) ∧ z.cell? ⟨kb, 1, none⟩ = some (.int .i64 kf.table) ∧ z.cell? ⟨kb, 2, none⟩ = some (.slice kf.es.A kf.es.n kf.es.c) ∧ z.cell? ⟨kb, 3, none⟩ = some (.slice kf.cs.A kf.cs.n kf.cs.c) ∧ z.cell? ⟨kb, 4, none⟩ = some (.slice kf.ks.A kf.ks.n kf.ks.c) from
            have h := (HS7.out.but hz).2.2.1
            ⟨h.cell 0, h.cell 1, h.cell 2, h.cell 3, h.cell 4⟩)
          obtain ⟨u0, hu0⟩ : ∃ z, w7.drew = z := ⟨_, rfl⟩
          have Bu0 := Lib.hid (show But b w7 u0 from hu0 ▸ (Only.refl _).drew)
          have Hu0 := Lib.hid hu0
          clear hu0
          rw [Hu0.out] at Ru0
          refine wp_region_g 5 (fun z => z.cell? ⟨kb, 0, none⟩ = some (.int .i64 kf.kind) ∧ z.cell? ⟨kb, 1, none⟩ = some (.int .i64 kf.table) ∧ z.cell? ⟨kb, 2, none⟩ = some (.slice kf.es.A kf.es.n kf.es.c) ∧ z.cell? ⟨kb, 3, none⟩ = some (.slice kf.cs.A kf.cs.n kf.cs.c) ∧ z.cell? ⟨kb, 4, none⟩ = some (.slice kf.ks.A kf.ks.n kf.ks.c)) (by kernel_rfl) ?_ (fun hHeld => ?_)
          · exact SB.out _ (Only.refl _).drew
          rw [Hu0.out] at hHeld ⊢
          refine takeG (i := 0) (v := ?v7) rfl (by kernel_rfl) (by kernel_rfl) (by kernel_rfl) (by kernel_rfl) (fun _ _ _ h => h) (Or.inl ⟨by rfl, ?hy7⟩) (by assumption) ?_
          case hy7 => ((intro w' hSw; (try dsimp only at hSw); go_simp) <;> with_reducible rfl)
          try simp only [Act.put, List.setIfInBounds_toArray, List.set_cons_zero, List.set_cons_succ]
          refine takeG (i := 1) (v := ?v8) rfl (by kernel_rfl) (by kernel_rfl) (by kernel_rfl) (by kernel_rfl) (fun _ _ _ h => h) (Or.inl ⟨by rfl, ?hy8⟩) (by assumption) ?_
          case hy8 => ((intro w' hSw; (try dsimp only at hSw); go_simp) <;> with_reducible rfl)
          try simp only [Act.put, List.setIfInBounds_toArray, List.set_cons_zero, List.set_cons_succ]
          refine takeG (i := 3) (v := ?v9) rfl (by kernel_rfl) (by kernel_rfl) (by kernel_rfl) (by kernel_rfl) (fun _ _ _ h => h) (Or.inl ⟨by rfl, ?hy9⟩) (by assumption) ?_
          case hy9 => ((intro w' hSw; (try dsimp only at hSw); go_simp) <;> with_reducible rfl)
          try simp only [Act.put, List.setIfInBounds_toArray, List.set_cons_zero, List.set_cons_succ]
          refine wpAnyG_ready (rs := [2]) (by kernel_rfl) (by simp) ?_
          refine readyG rfl (fun K hK => ?_) AllReadyG.nil
          go_simp
          go_at_call 62
          refine (randomCondition_ok b _ wd u0 Ru0.out (by have := Hq7.out; have := Hpl.out; omega)).mono ?_
          rintro e x1 ⟨f, x, rfl, hx, hb, hR, hxn⟩
          have HXN := Lib.hid hxn
          clear hxn
          have Bx1 := Lib.hid (Bu0.out.trans hb)
          have Rx1 := Lib.hid hR
          have Xx1 := Lib.hid (show ExT (fun k => w.heap.size < k) x1 f x from hx.mono fun k _ hk => by have h1 := (HSb.out _ Bu0.out).2.1.lt; omega)
          unfold feV
          clear hb hR hx
          refine hK.out _ _ ?hS10 (fun hHeld => ?_)
          case hS10 => exact fun _ => SB.out _ Bx1.out
          replace hHeld := hHeld (by decide)
          clear hK K
          try simp only [Act.put, List.setIfInBounds_toArray, List.set_cons_zero, List.set_cons_succ]
          refine wpAnyG_ready (rs := [4]) (by kernel_rfl) (by simp) ?_
          refine readyG rfl (fun K hK => ?_) AllReadyG.nil
          have HF := Lib.hid (filterOf_ok (fun k => w.heap.size < k) f kf x kx x1 (fun k hk => by have h1 := (HSb.out _ Bx1.out).2.1.lt; omega) Xx1.out ((HSb.out _ Bx1.out).kid))
          unfold feV fpV at HF
          go_simp
          go_at_call 61
          refine HF.out.mono ?_
          rintro e x2 ⟨h, zt, rfl, hz, hb, hrt, hzn⟩
          have HZN := Lib.hid hzn
          clear hzn
          have Bx2 := Lib.hid (Bx1.out.below hb)
          have Rx2 := Lib.hid (Rx1.out.on hb)
          have Fx2 := Lib.hid hz
          have HRt := Lib.hid hrt
          clear hz hb HF hrt
          refine hK.out _ _ ?hS11 (fun hHeld => ?_)
          case hS11 => exact fun _ => SB.out _ Bx2.out
          replace hHeld := hHeld (by decide)
          clear hK K
          try simp only [Act.put, List.setIfInBounds_toArray, List.set_cons_zero, List.set_cons_succ]
          refine wpAnyG_ready (rs := [5]) (by kernel_rfl) (by simp) ?_
          refine readyG rfl (fun K hK => ?_) AllReadyG.nil
          have rr := (HSb.out x2 Bx2.out).2.1
          have hl := rr.lt
          have c0 := rr.cell 0
          have f0 := rr.frozen 0
          have c1 := rr.cell 1
          have f1 := rr.frozen 1
          have c2 := rr.cell 2
          have f2 := rr.frozen 2
          have c3 := rr.cell 3
          have f3 := rr.frozen 3
          have c4 := rr.cell 4
          have f4 := rr.frozen 4
          clear rr
          go_simp
          refine hK.out _ _ ?hS12 (fun hHeld => ?_)
          case hS12 => exact fun h => absurd rfl h
          clear hK K
          try simp only [Act.put, List.setIfInBounds_toArray, List.set_cons_zero, List.set_cons_succ]
          refine wpAnyG_done (by kernel_rfl) ?_ _
          go_wp2
          refine bodyPost_ret (v := fpV h) (by simp [results, Try.results60, go_sem, fpV, c0, c1, c2, c3, c4]) rfl ?_
          obtain ⟨_, _, _, _, pg, _, po⟩ := HSb.out _ Bx2.out
          exact gotQ_of (Fx2.out) (HRt.out _ _) po (Rx2.out.mono (by have := Hq7.out; have := Hpl.out; omega)) pg HJ4.out.1 HJ4.out.2 hbg hgl _ _ _ _ _ rfl (by (try have h1 := HXN.out); (try have h2 := HZN.out); have h3 := HKN.out; (try have h4 := HON.out); (try have h6 := HEN.out); have h5 := HDD.out; (try simp only [plN, plsN, exN, exsN]); omega)
        · go_upto_region 11 with fail
          have HSb := Lib.hid (fun (z : World) (hz : But b w7 z) => HS7.out.but hz)
          have Ru0 : Hid (Rd w7.drew b (q7)) := Lib.hid (HR7.out.on (Below.refl _ _).drew)
          have SB := Lib.hid (fun (z : World) (hz : But b w7 z) => show z.cell? ⟨kb, 0, none⟩ = some (.int .i64 kf.kind) ∧ z.cell? ⟨kb, 1, none⟩ = some (.int .i64 kf.table) ∧ z.cell? ⟨kb, 2, none⟩ = some (.slice kf.es.A kf.es.n kf.es.c) ∧ z.cell? ⟨kb, 3, none⟩ = some (.slice kf.cs.A kf.cs.n kf.cs.c) ∧ z.cell? ⟨kb, 4, none⟩ = some (.slice kf.ks.A kf.ks.n kf.ks.c) from
            have h := (HS7.out.but hz).2.2.1
            ⟨h.cell 0, h.cell 1, h.cell 2, h.cell 3, h.cell 4⟩)
          obtain ⟨u0, hu0⟩ : ∃ z, w7.drew = z := ⟨_, rfl⟩
          have Bu0 := Lib.hid (show But b w7 u0 from hu0 ▸ (Only.refl _).drew)
          have Hu0 := Lib.hid hu0
          clear hu0
          rw [Hu0.out] at Ru0
          refine wp_region_g 5 (fun z => z.cell? ⟨kb, 0, none⟩ = some (.int .i64 kf.kind) ∧ z.cell? ⟨kb, 1, none⟩ = some (.int .i64 kf.table) ∧ z.cell? ⟨kb, 2, none⟩ = some (.slice kf.es.A kf.es.n kf.es.c) ∧ z.cell? ⟨kb, 3, none⟩ = some (.slice kf.cs.A kf.cs.n kf.cs.c) ∧ z.cell? ⟨kb, 4, none⟩ = some (.slice kf.ks.A kf.ks.n kf.ks.c)) (by kernel_rfl) ?_ (fun hHeld => ?_)
          · exact SB.out _ (Only.refl _).drew
          rw [Hu0.out] at hHeld ⊢
          refine takeG (i := 0) (v := ?v13) rfl (by kernel_rfl) (by kernel_rfl) (by kernel_rfl) (by kernel_rfl) (fun _ _ _ h => h) (Or.inl ⟨by rfl, ?hy13⟩) (by assumption) ?_
          case hy13 => ((intro w' hSw; (try dsimp only at hSw); go_simp) <;> with_reducible rfl)
          try simp only [Act.put, List.setIfInBounds_toArray, List.set_cons_zero, List.set_cons_succ]
          refine takeG (i := 1) (v := ?v14) rfl (by kernel_rfl) (by kernel_rfl) (by kernel_rfl) (by kernel_rfl) (fun _ _ _ h => h) (Or.inl ⟨by rfl, ?hy14⟩) (by assumption) ?_
          case hy14 => ((intro w' hSw; (try dsimp only at hSw); go_simp) <;> with_reducible rfl)
          try simp only [Act.put, List.setIfInBounds_toArray, List.set_cons_zero, List.set_cons_succ]
          refine takeG (i := 3) (v := ?v15) rfl (by kernel_rfl) (by kernel_rfl) (by kernel_rfl) (by kernel_rfl) (fun _ _ _ h => h) (Or.inl ⟨by rfl, ?hy15⟩) (by assumption) ?_
          case hy15 => ((intro w' hSw; (try dsimp only at hSw); go_simp) <;> with_reducible rfl)
          try simp only [Act.put, List.setIfInBounds_toArray, List.set_cons_zero, List.set_cons_succ]
          refine wpAnyG_ready (rs := [2]) (by kernel_rfl) (by simp) ?_
          refine readyG rfl (fun K hK => ?_) AllReadyG.nil
          go_simp
          go_at_call 62
          refine (randomCondition_ok b _ wd u0 Ru0.out (by have := Hq7.out; have := Hpl.out; omega)).mono ?_
          rintro e x1 ⟨f, x, rfl, hx, hb, hR, hxn⟩
          have HXN := Lib.hid hxn
          clear hxn
          have Bx1 := Lib.hid (Bu0.out.trans hb)
          have Rx1 := Lib.hid hR
          have Xx1 := Lib.hid (show ExT (fun k => w.heap.size < k) x1 f x from hx.mono fun k _ hk => by have h1 := (HSb.out _ Bu0.out).2.1.lt; omega)
          unfold feV
          clear hb hR hx
          refine hK.out _ _ ?hS16 (fun hHeld => ?_)
          case hS16 => exact fun _ => SB.out _ Bx1.out
          replace hHeld := hHeld (by decide)
          clear hK K
          try simp only [Act.put, List.setIfInBounds_toArray, List.set_cons_zero, List.set_cons_succ]
          refine wpAnyG_ready (rs := [4]) (by kernel_rfl) (by simp) ?_
          refine readyG rfl (fun K hK => ?_) AllReadyG.nil
          have HF := Lib.hid (filterOf_ok (fun k => w.heap.size < k) f kf x kx x1 (fun k hk => by have h1 := (HSb.out _ Bx1.out).2.1.lt; omega) Xx1.out ((HSb.out _ Bx1.out).kid))
          unfold feV fpV at HF
          go_simp
          go_at_call 61
          refine HF.out.mono ?_
          rintro e x2 ⟨h, zt, rfl, hz, hb, hrt, hzn⟩
          have HZN := Lib.hid hzn
          clear hzn
          have Bx2 := Lib.hid (Bx1.out.below hb)
          have Rx2 := Lib.hid (Rx1.out.on hb)
          have Fx2 := Lib.hid hz
          have HRt := Lib.hid hrt
          clear hz hb HF hrt
          refine hK.out _ _ ?hS17 (fun hHeld => ?_)
          case hS17 => exact fun _ => SB.out _ Bx2.out
          replace hHeld := hHeld (by decide)
          clear hK K
          try simp only [Act.put, List.setIfInBounds_toArray, List.set_cons_zero, List.set_cons_succ]
          refine wpAnyG_ready (rs := [5]) (by kernel_rfl) (by simp) ?_
          refine readyG rfl (fun K hK => ?_) AllReadyG.nil
          have rr := (HSb.out x2 Bx2.out).2.1
          have hl := rr.lt
          have c0 := rr.cell 0
          have f0 := rr.frozen 0
          have c1 := rr.cell 1
          have f1 := rr.frozen 1
          have c2 := rr.cell 2
          have f2 := rr.frozen 2
          have c3 := rr.cell 3
          have f3 := rr.frozen 3
          have c4 := rr.cell 4
          have f4 := rr.frozen 4
          clear rr
          go_simp
          refine hK.out _ _ ?hS18 (fun hHeld => ?_)
          case hS18 => exact fun h => absurd rfl h
          clear hK K
          try simp only [Act.put, List.setIfInBounds_toArray, List.set_cons_zero, List.set_cons_succ]
          refine wpAnyG_done (by kernel_rfl) ?_ _
          go_wp2
          refine bodyPost_ret (v := fpV h) (by simp [results, Try.results60, go_sem, fpV, c0, c1, c2, c3, c4]) rfl ?_
          obtain ⟨_, _, _, _, pg, _, po⟩ := HSb.out _ Bx2.out
          exact gotQ_of (Fx2.out) (HRt.out _ _) po (Rx2.out.mono (by have := Hq7.out; have := Hpl.out; omega)) pg HJ4.out.1 HJ4.out.2 hbg hgl _ _ _ _ _ rfl (by (try have h1 := HXN.out); (try have h2 := HZN.out); have h3 := HKN.out; (try have h4 := HON.out); (try have h6 := HEN.out); have h5 := HDD.out; (try simp only [plN, plsN, exN, exsN]); omega)
        · obtain ⟨W8, hW8⟩ : ∃ z, w7.alloc (.cells #[] 66) = z := ⟨_, rfl⟩
          have b8 : Below w7.heap.size w7 W8 := by rw [← hW8]; exact balloc (Below.refl _ _) _
          obtain ⟨L, hL⟩ : ∃ n, w7.heap.size = n := ⟨_, rfl⟩
          have HL7 := Lib.hid (show w.heap.size < L by rw [← hL]; exact HS7.out.2.1.lt)
          have HLb := Lib.hid (show b < L ∧ kb < L by rw [← hL]; exact ⟨HR7.out.lt, HS7.out.2.2.1.lt⟩)
          have HK8 := Lib.hid (show Kds L W8 (.slice (some ⟨L, 0, none⟩) 0 0) [] from ⟨[], rfl, by rw [← hW8, ← hL]; exact Ow.lit (xs := ([] : List FE)) rfl rfl (Nat.le_refl _) (by decide), fun i g x h _ => by simp at h⟩)
          have HS8 := Lib.hid (HS7.out.on b8)
          have HR8 := Lib.hid (HR7.out.on b8)
          have HLw8 := Lib.hid (show L ≤ W8.heap.size by rw [← hL]; exact b8.size)
          have HW8 := Lib.hid hW8
          have HLe := Lib.hid hL
          clear hW8 b8 hL
          go_upto_region 15 with fail
          rw [HW8.out, HLe.out]
          go_wp2_with fail
          refine (HP.out W8 _ 2 HR8.out (by have := Hq7.out; have := Hpl.out; omega)).mono ?_
          rintro e w9 ⟨k9, rfl, hk9, hb9, hsz9, hR9⟩
          have HS9 := Lib.hid (HS8.out.but hb9)
          have HK9 := Lib.hid (HK8.out.only hb9 (fun i (hi : i = b) => by have := HLb.out; omega))
          have HR9 := Lib.hid hR9
          have hk90 := hk9.1
          have hk91 := hk9.2.1 (by omega)
          obtain ⟨m0, rfl⟩ := Int.eq_ofNat_of_zero_le hk90
          have hm02 : m0 < 2 := by omega
          have HLw9 := Lib.hid (show L ≤ w9.heap.size by rw [← hsz9]; exact HLw8.out)
          have hmw : IntKind.i64.wrap (1 + (m0 : Int)) = 1 + (m0 : Int) := IntWalk.i64_in _ (by omega)
          clear hk9 hb9 hsz9 hR9 hk90 hk91
          go_wp2
          go_loopg [9, 10] (m0 + 1) (fun g v nv wr => ∃ (es : List Ex) (Ae : Option Addr) (ce m : Nat), m = g ∧ v = .slice Ae es.length ce ∧ nv = .int .i64 m ∧ m + es.length ≤ 2 ∧ Kds L wr (.slice Ae es.length ce) es ∧ Pst b gb w.heap.size kb A c ws kf kx j4 u4 w wr ∧ Rd wr b (q7 + 1 + 12 * es.length) ∧ L ≤ wr.heap.size ∧ exsN es ≤ 12 * es.length)
          case atStart => exact ⟨[], _, _, m0 + 1, rfl, rfl, (by congr 1; omega), by simp; omega, HK9.out, HS9.out, by simpa using HR9.out, HLw9.out, by simp [exsN]⟩
          case round =>
            obtain ⟨es, Ae, ce, m, rfl, rfl, rfl, hml, hkds, hsr, hRr, hLw, hen⟩ := hrel
            have HEN := Lib.hid (And.intro hen hml)
            clear hen
            have HKd := Lib.hid hkds
            have HSr := Lib.hid hsr
            have HRr := Lib.hid hRr
            clear hkds hsr hRr
            by_cases hm : 0 < m
            · have hmI : (0 : Int) < (m : Int) := by omega
              go_wp2_with fail
              refine (HP.out wr _ 2 HRr.out (by have := Hq7.out; have := Hpl.out; omega)).mono ?_
              rintro e x1 ⟨k8, rfl, hk8, hb, hsz, hR⟩
              have HK1 := Lib.hid (HKd.out.only hb (fun i (hi : i = b) => by have := HLb.out; omega))
              have HS1 := Lib.hid (HSr.out.but hb)
              have HR1 := Lib.hid hR
              have hsz' := hsz
              have hk80 := hk8.1
              have hk81 := hk8.2.1 (by omega)
              obtain ⟨dd, rfl⟩ := Int.eq_ofNat_of_zero_le hk80
              have hdd : dd ≤ 1 := by omega
              have hrc : reC dd ≤ 11 := by
                unfold reC
                have h9 : dd = 0 ∨ dd = 1 := by omega
                rcases h9 with h9 | h9 <;> rw [h9] <;> decide
              have Hrc := Lib.hid hrc
              have HRE := Lib.hid (randomExpr_ok dd (by omega) b _ wd x1 HR1.out (by have := Hq7.out; have := Hpl.out; omega))
              clear hk8 hb hR hk80 hk81 hrc hsz
              go_wp2_with fail
              refine HRE.out.mono ?_
              rintro e x2 ⟨f, x, rfl, hx, hb, hR, hxn⟩
              have HXN := Lib.hid hxn
              clear hxn
              unfold feV
              have HL1 := Lib.hid (show L ≤ x1.heap.size by omega)
              clear hsz'
              have HL2 := Lib.hid (show L ≤ x2.heap.size by have := hb.size; have := HL1.out; omega)
              have HK2 := Lib.hid (HK1.out.only hb (fun i (hi : i = b) => by have := HLb.out; omega))
              have HS2 := Lib.hid (HS1.out.but hb)
              have HR2 := Lib.hid hR
              obtain ⟨x3, hx3⟩ : ∃ z, x2.alloc (.cells #[.int .i64 f.kind, .int .i64 f.col, .bool f.val.1, .int .i64 f.val.2, .slice f.sv.A f.sv.n f.sv.c] 66) = z := ⟨_, rfl⟩
              have b3 : Below x2.heap.size x2 x3 := by rw [← hx3]; exact balloc (Below.refl _ _) _
              have HK3 := Lib.hid (HK2.out.only (only_below (S := fun _ => False) b3) (fun i hi => hi.elim))
              have HS3 := Lib.hid (HS2.out.on b3)
              have HR3 := Lib.hid (HR2.out.on b3)
              have S3 := Lib.hid (show Sl 5 feC x3 x3.heap.size (some ⟨x2.heap.size, 0, none⟩) [f] by rw [← hx3]; exact Row.sl' (t := 66) feC_length ((Row.new x2 _ _).of rfl))
              obtain ⟨fs, hfl, how, hfx⟩ := HK3.out
              have hfl2 : fs.length ≤ 2 := by omega
              have hx3' : x3.heap.size = x2.heap.size + 1 := by rw [← hx3]; simp
              have X3 := Lib.hid ((hx.keep b3.size fun k _ hl => b3.block k hl).mono (T := fun k => L ≤ k ∧ (Value.slice Ae es.length ce).ownBlock ≠ some k) fun k hk1 hk => by
                refine ⟨by have := HL1.out; omega, fun e => ?_⟩
                obtain ⟨fs1, _, how1, _⟩ := HK1.out
                have := (how1.ty k e).2.1
                omega)
              have HX3 := Lib.hid hx3
              have HLx := Lib.hid (show L ≤ x3.heap.size by have := HL2.out; omega)
              clear hx3 b3 hx hb hR hx3'
              go_wp2_with (at_builtin; refine wpList_app2 rfl (.tmp 65) (.tmp 71) 23 rfl L 66 _ 5 56 feC Try.underlying23 zeroExT rfl (by decide) (by decide) feC_length feC_one _ fs rfl (by rw [HX3.out]; exact how) (some ⟨x2.heap.size, 0, none⟩) 1 1 [f] rfl rfl (by rw [HX3.out]; exact S3.out) (by simp; omega) (by rw [HX3.out]; exact HLx.out) ?_; rw [HX3.out]; intro v' w' hown hgr hob3)
              have K4 := Kds.snoc hfl (fun i g y hg hy => hfx i g y hg hy) X3.out hown hgr hob3
              obtain ⟨A3, c3, rfl, hc31, hc32⟩ := K4.shape
              have hgo : ∀ k, (Value.slice Ae es.length ce).ownBlock = some k → L ≤ k := fun k hk => (how.ty k hk).1
              have hgn : ∀ k, k < L → k < x3.heap.size → w'.heap[k]? = x3.heap[k]? := fun k hk hl => hgr.block k hl fun e => by have := hgo k e.symm; omega
              obtain ⟨m, rfl⟩ : ∃ m', m = m' + 1 := ⟨m - 1, by omega⟩
              go_roundg m
              case measure => omega
              case rel =>
                refine ⟨es ++ [x], A3, c3, m, rfl, rfl, (by go_num), by simp; omega, K4, ?_, ?_, by have := hgr.size; have := HLx.out; omega, by have h1 := HXN.out; have h2 := HEN.out; have h3 := Hrc.out; rw [exsN_append, exsN_one, List.length_append, List.length_singleton]; omega⟩
                · have h3 := HS3.out
                  have hn := h3.1
                  have hLb := HLb.out
                  have hl2 := h3.2.1.lt
                  have hl3 := h3.2.2.1.lt
                  have hl4 := h3.2.2.2.2.1.lt
                  have ho : Only (fun k => L ≤ k) x3 w' := ⟨hgr.os, hgr.tape, hgr.output, hgr.size, fun k hk hn => hgn k (by omega) hk⟩
                  obtain ⟨h1, r, q, xx, g, s, o⟩ := h3
                  refine ⟨h1, r.only ho (by omega), q.only ho (by omega), xx.keep ho.size (fun k hk hl => hgn k (by omega) hl), g.only ho (by omega), s.keep ho.size fun k hk hl => hgn k (by omega) hl, ⟨ho.os.trans o.os, ho.tape.trans o.tape, ho.output.trans o.output, Nat.le_trans o.size ho.size, fun k hk hn => (hgn k (by omega) (by have := o.size; omega)).trans (o.block k hk hn)⟩⟩
                · have h6 := (HR3.out.grown hgr fun k hk => by have := hgo k hk; have := HLb.out; omega).mono (p' := q7 + 1 + 12 * (es ++ [x]).length) (by have := Hrc.out; simp; omega)
                  exact h6
            · skip
              have q7k := HSr.out.2.2.1
              have q7r := HSr.out.2.1
              have hlk := q7k.lt
              have hlr := q7r.lt
              have kk0 : wr.cell? ⟨kb, 0, none⟩ = some (.int .i64 kf.kind) := q7k.cell 0
              have kk1 : wr.cell? ⟨kb, 1, none⟩ = some (.int .i64 kf.table) := q7k.cell 1
              have kk2 : wr.cell? ⟨kb, 2, none⟩ = some (.slice kf.es.A kf.es.n kf.es.c) := q7k.cell 2
              have kk3 : wr.cell? ⟨kb, 3, none⟩ = some (.slice kf.cs.A kf.cs.n kf.cs.c) := q7k.cell 3
              have kk4 : wr.cell? ⟨kb, 4, none⟩ = some (.slice kf.ks.A kf.ks.n kf.ks.c) := q7k.cell 4
              have c0 := q7r.cell 0
              have f0 := q7r.frozen 0
              have c1 := q7r.cell 1
              have f1 := q7r.frozen 1
              have c2 := q7r.cell 2
              have f2 := q7r.frozen 2
              have c3 := q7r.cell 3
              have f3 := q7r.frozen 3
              have c4 := q7r.cell 4
              have f4 := q7r.frozen 4
              have Q7r := Lib.hid q7r
              have hm0 : ¬ (0 : Int) < (m : Int) := by omega
              clear q7k q7r
              obtain ⟨Z, hZ⟩ : ∃ z, (((((wr.setCell ⟨w.heap.size, 0, none⟩ (.int .i64 3)).setCell ⟨w.heap.size, 1, none⟩ (.int .i64 0)).setCell ⟨w.heap.size, 2, none⟩ (.slice Ae es.length ce)).setCell ⟨w.heap.size, 3, none⟩ (.slice none 0 0)).setCell ⟨w.heap.size, 4, none⟩ (.slice (some ⟨wr.heap.size, 0, none⟩) 1 1)) = z := ⟨_, rfl⟩
              have hZs : Only (fun k => k = w.heap.size) wr Z := by rw [← hZ]; exact set5 _ _ _ _ _ _ _
              have v0r : Row Z (w.heap.size) 27 [.int .i64 3, .int .i64 0, .slice Ae es.length ce, .slice none 0 0, .slice (some ⟨wr.heap.size, 0, none⟩) 1 1] := by rw [← hZ]; exact ((((Q7r.out.set 0 _).set 1 _).set 2 _).set 3 _).set 4 _
              have zs : Z.heap.size = wr.heap.size := by rw [← hZ]; simp [World.setCell]
              obtain ⟨V1, hV1⟩ : ∃ z, Z.alloc (.cells #[.int .i64 kf.kind, .int .i64 kf.table, .slice kf.es.A kf.es.n kf.es.c, .slice kf.cs.A kf.cs.n kf.cs.c, .slice kf.ks.A kf.ks.n kf.ks.c] 27) = z := ⟨_, rfl⟩
              have v1b : Below Z.heap.size Z V1 := by rw [← hV1]; exact balloc (Below.refl _ _) _
              have v1s : V1.heap.size = wr.heap.size + 1 := by rw [← hV1]; simp; omega
              have v1r := v0r.on v1b
              have HV1 := Lib.hid hV1
              have HZ := Lib.hid hZ
              have e0 := v1r.cell 0
              have e1 := v1r.cell 1
              have e2 := v1r.cell 2
              have e3 := v1r.cell 3
              have e4 := v1r.cell 4
              have VR := Lib.hid v1r
              have FA := Lib.hid (And.intro hZs (And.intro zs ((And.intro v1b (And.intro v1s trivial)))))
              clear hZ hZs zs hV1 v1b v1s v1r v0r
              go_wp2
              rw [HZ.out, HV1.out]
              obtain ⟨hZs, zs, v1b, v1s, -⟩ := FA.out
              have hx7 := HSr.out.kid
              have hr7 : w.heap.size < wr.heap.size := HSr.out.2.1.lt
              have Y1 := pls_lit1 (hx7.keep (by omega) fun k hk hl => hZs.block k hl (show ¬ k = w.heap.size by omega)) #[.int .i64 kf.kind, .int .i64 kf.table, .slice kf.es.A kf.es.n kf.es.c, .slice kf.cs.A kf.cs.n kf.cs.c, .slice kf.ks.A kf.ks.n kf.ks.c] rfl (show w.heap.size < Z.heap.size by omega) 27
              rw [HV1.out, zs] at Y1
              obtain ⟨A', c', hv, hc1, hc2⟩ := HKd.out.shape
              cases hv
              have hE := ((HKd.out.exs.mono (T := fun k => w.heap.size < k) fun k _ hk => by have := HL7.out; omega).keep (by omega) fun k hk hl => hZs.block k hl (show ¬ k = w.heap.size by omega)).keep v1b.size fun k _ hl => v1b.block k hl
              have hm := PlT.make (S := fun k => w.heap.size < k) (k := 3) (t := 0) (es := ⟨Ae, es.length, ce⟩) (cs := ⟨none, 0, 0⟩) (ks := ⟨some ⟨wr.heap.size, 0, none⟩, 1, 1⟩) (xs := es) (cols := []) (ps := [kx]) ⟨rfl, hc1, hc2⟩ SVok.nil (SVok.lit (n := 1) (by decide)) hE SlS.nil Y1
              refine bodyPost_ret (v := fpV ⟨3, 0, ⟨Ae, es.length, ce⟩, ⟨none, 0, 0⟩, ⟨some ⟨wr.heap.size, 0, none⟩, 1, 1⟩⟩) (by simp [results, Try.results60, go_sem, feV, fpV, e0, e1, e2, e3, e4]) rfl ?_
              have hkE := ((HKd.out.only hZs (fun i (hi : i = w.heap.size) => by have := HL7.out; omega)).only (only_below (S := fun _ => False) v1b) (fun i hi => hi.elim)).low (lo' := w.heap.size) (by have := HL7.out; omega)
              obtain ⟨fs9, _, how9, _⟩ := HKd.out
              have Y2 := pls_lit1 (S := fun k => w.heap.size ≤ k ∧ (Value.slice Ae es.length ce).ownBlock ≠ some k) ((HSr.out.2.2.2.1.keep (by omega) fun k hk hl => hZs.block k hl (show ¬ k = w.heap.size by omega)).mono fun k _ hk => ⟨by omega, fun e => by have h7 := (how9.ty k e).1; have := HLb.out; omega⟩) #[.int .i64 kf.kind, .int .i64 kf.table, .slice kf.es.A kf.es.n kf.es.c, .slice kf.cs.A kf.cs.n kf.cs.c, .slice kf.ks.A kf.ks.n kf.ks.c] rfl ⟨by omega, fun e => by have h7 := (how9.ty _ e).2.1; omega⟩ 27
              rw [HV1.out, zs] at Y2
              obtain ⟨_, _, _, _, pg, _, po⟩ := HSr.out
              exact ⟨_, _, _, _, rfl, hm.mono fun k _ hk => Nat.le_of_lt hk, ⟨⟨show es.length ≤ 1000 by omega, by show 0 ≤ 1000; omega⟩, rfl, .inr ⟨rfl, hkE, Y2⟩⟩, (po.step hZs fun i (hi : i = w.heap.size) => .inr (by omega)).below v1b, ((HRr.out.apart hZs fun i (hi : i = w.heap.size) => by omega).on v1b).mono (by have := Hq7.out; have := Hpl.out; omega), (pg.only hZs (show ¬ gb = w.heap.size by omega)).on v1b, HJ4.out.1, HJ4.out.2, by (try have h1 := HXN.out); (try have h2 := HZN.out); have h3 := HKN.out; (try have h4 := HON.out); (try have h6 := HEN.out); have h5 := HDD.out; (try simp only [plN, plsN, exN, exsN]); omega⟩
        · obtain ⟨W8, hW8⟩ : ∃ z, w7.alloc (.cells #[] 66) = z := ⟨_, rfl⟩
          have b8 : Below w7.heap.size w7 W8 := by rw [← hW8]; exact balloc (Below.refl _ _) _
          obtain ⟨L, hL⟩ : ∃ n, w7.heap.size = n := ⟨_, rfl⟩
          have HL7 := Lib.hid (show w.heap.size < L by rw [← hL]; exact HS7.out.2.1.lt)
          have HLb := Lib.hid (show b < L ∧ kb < L by rw [← hL]; exact ⟨HR7.out.lt, HS7.out.2.2.1.lt⟩)
          have HK8 := Lib.hid (show Kds L W8 (.slice (some ⟨L, 0, none⟩) 0 0) [] from ⟨[], rfl, by rw [← hW8, ← hL]; exact Ow.lit (xs := ([] : List FE)) rfl rfl (Nat.le_refl _) (by decide), fun i g x h _ => by simp at h⟩)
          have HS8 := Lib.hid (HS7.out.on b8)
          have HR8 := Lib.hid (HR7.out.on b8)
          have HLw8 := Lib.hid (show L ≤ W8.heap.size by rw [← hL]; exact b8.size)
          have HW8 := Lib.hid hW8
          have HLe := Lib.hid hL
          clear hW8 b8 hL
          go_upto_region 15 with fail
          rw [HW8.out, HLe.out]
          go_wp2_with fail
          refine (HP.out W8 _ 2 HR8.out (by have := Hq7.out; have := Hpl.out; omega)).mono ?_
          rintro e w9 ⟨k9, rfl, hk9, hb9, hsz9, hR9⟩
          have HS9 := Lib.hid (HS8.out.but hb9)
          have HK9 := Lib.hid (HK8.out.only hb9 (fun i (hi : i = b) => by have := HLb.out; omega))
          have HR9 := Lib.hid hR9
          have hk90 := hk9.1
          have hk91 := hk9.2.1 (by omega)
          obtain ⟨m0, rfl⟩ := Int.eq_ofNat_of_zero_le hk90
          have hm02 : m0 < 2 := by omega
          have HLw9 := Lib.hid (show L ≤ w9.heap.size by rw [← hsz9]; exact HLw8.out)
          have hmw : IntKind.i64.wrap (1 + (m0 : Int)) = 1 + (m0 : Int) := IntWalk.i64_in _ (by omega)
          clear hk9 hb9 hsz9 hR9 hk90 hk91
          go_wp2
          go_loopg [9, 10] (m0 + 1) (fun g v nv wr => ∃ (es : List Ex) (Ae : Option Addr) (ce m : Nat), m = g ∧ v = .slice Ae es.length ce ∧ nv = .int .i64 m ∧ m + es.length ≤ 2 ∧ Kds L wr (.slice Ae es.length ce) es ∧ Pst b gb w.heap.size kb A c ws kf kx j4 u4 w wr ∧ Rd wr b (q7 + 1 + 12 * es.length) ∧ L ≤ wr.heap.size ∧ exsN es ≤ 12 * es.length)
          case atStart => exact ⟨[], _, _, m0 + 1, rfl, rfl, (by congr 1; omega), by simp; omega, HK9.out, HS9.out, by simpa using HR9.out, HLw9.out, by simp [exsN]⟩
          case round =>
            obtain ⟨es, Ae, ce, m, rfl, rfl, rfl, hml, hkds, hsr, hRr, hLw, hen⟩ := hrel
            have HEN := Lib.hid (And.intro hen hml)
            clear hen
            have HKd := Lib.hid hkds
            have HSr := Lib.hid hsr
            have HRr := Lib.hid hRr
            clear hkds hsr hRr
            by_cases hm : 0 < m
            · have hmI : (0 : Int) < (m : Int) := by omega
              go_wp2_with fail
              refine (HP.out wr _ 2 HRr.out (by have := Hq7.out; have := Hpl.out; omega)).mono ?_
              rintro e x1 ⟨k8, rfl, hk8, hb, hsz, hR⟩
              have HK1 := Lib.hid (HKd.out.only hb (fun i (hi : i = b) => by have := HLb.out; omega))
              have HS1 := Lib.hid (HSr.out.but hb)
              have HR1 := Lib.hid hR
              have hsz' := hsz
              have hk80 := hk8.1
              have hk81 := hk8.2.1 (by omega)
              obtain ⟨dd, rfl⟩ := Int.eq_ofNat_of_zero_le hk80
              have hdd : dd ≤ 1 := by omega
              have hrc : reC dd ≤ 11 := by
                unfold reC
                have h9 : dd = 0 ∨ dd = 1 := by omega
                rcases h9 with h9 | h9 <;> rw [h9] <;> decide
              have Hrc := Lib.hid hrc
              have HRE := Lib.hid (randomExpr_ok dd (by omega) b _ wd x1 HR1.out (by have := Hq7.out; have := Hpl.out; omega))
              clear hk8 hb hR hk80 hk81 hrc hsz
              go_wp2_with fail
              refine HRE.out.mono ?_
              rintro e x2 ⟨f, x, rfl, hx, hb, hR, hxn⟩
              have HXN := Lib.hid hxn
              clear hxn
              unfold feV
              have HL1 := Lib.hid (show L ≤ x1.heap.size by omega)
              clear hsz'
              have HL2 := Lib.hid (show L ≤ x2.heap.size by have := hb.size; have := HL1.out; omega)
              have HK2 := Lib.hid (HK1.out.only hb (fun i (hi : i = b) => by have := HLb.out; omega))
              have HS2 := Lib.hid (HS1.out.but hb)
              have HR2 := Lib.hid hR
              obtain ⟨x3, hx3⟩ : ∃ z, x2.alloc (.cells #[.int .i64 f.kind, .int .i64 f.col, .bool f.val.1, .int .i64 f.val.2, .slice f.sv.A f.sv.n f.sv.c] 66) = z := ⟨_, rfl⟩
              have b3 : Below x2.heap.size x2 x3 := by rw [← hx3]; exact balloc (Below.refl _ _) _
              have HK3 := Lib.hid (HK2.out.only (only_below (S := fun _ => False) b3) (fun i hi => hi.elim))
              have HS3 := Lib.hid (HS2.out.on b3)
              have HR3 := Lib.hid (HR2.out.on b3)
              have S3 := Lib.hid (show Sl 5 feC x3 x3.heap.size (some ⟨x2.heap.size, 0, none⟩) [f] by rw [← hx3]; exact Row.sl' (t := 66) feC_length ((Row.new x2 _ _).of rfl))
              obtain ⟨fs, hfl, how, hfx⟩ := HK3.out
              have hfl2 : fs.length ≤ 2 := by omega
              have hx3' : x3.heap.size = x2.heap.size + 1 := by rw [← hx3]; simp
              have X3 := Lib.hid ((hx.keep b3.size fun k _ hl => b3.block k hl).mono (T := fun k => L ≤ k ∧ (Value.slice Ae es.length ce).ownBlock ≠ some k) fun k hk1 hk => by
                refine ⟨by have := HL1.out; omega, fun e => ?_⟩
                obtain ⟨fs1, _, how1, _⟩ := HK1.out
                have := (how1.ty k e).2.1
                omega)
              have HX3 := Lib.hid hx3
              have HLx := Lib.hid (show L ≤ x3.heap.size by have := HL2.out; omega)
              clear hx3 b3 hx hb hR hx3'
              go_wp2_with (at_builtin; refine wpList_app2 rfl (.tmp 65) (.tmp 71) 23 rfl L 66 _ 5 56 feC Try.underlying23 zeroExT rfl (by decide) (by decide) feC_length feC_one _ fs rfl (by rw [HX3.out]; exact how) (some ⟨x2.heap.size, 0, none⟩) 1 1 [f] rfl rfl (by rw [HX3.out]; exact S3.out) (by simp; omega) (by rw [HX3.out]; exact HLx.out) ?_; rw [HX3.out]; intro v' w' hown hgr hob3)
              have K4 := Kds.snoc hfl (fun i g y hg hy => hfx i g y hg hy) X3.out hown hgr hob3
              obtain ⟨A3, c3, rfl, hc31, hc32⟩ := K4.shape
              have hgo : ∀ k, (Value.slice Ae es.length ce).ownBlock = some k → L ≤ k := fun k hk => (how.ty k hk).1
              have hgn : ∀ k, k < L → k < x3.heap.size → w'.heap[k]? = x3.heap[k]? := fun k hk hl => hgr.block k hl fun e => by have := hgo k e.symm; omega
              obtain ⟨m, rfl⟩ : ∃ m', m = m' + 1 := ⟨m - 1, by omega⟩
              go_roundg m
              case measure => omega
              case rel =>
                refine ⟨es ++ [x], A3, c3, m, rfl, rfl, (by go_num), by simp; omega, K4, ?_, ?_, by have := hgr.size; have := HLx.out; omega, by have h1 := HXN.out; have h2 := HEN.out; have h3 := Hrc.out; rw [exsN_append, exsN_one, List.length_append, List.length_singleton]; omega⟩
                · have h3 := HS3.out
                  have hn := h3.1
                  have hLb := HLb.out
                  have hl2 := h3.2.1.lt
                  have hl3 := h3.2.2.1.lt
                  have hl4 := h3.2.2.2.2.1.lt
                  have ho : Only (fun k => L ≤ k) x3 w' := ⟨hgr.os, hgr.tape, hgr.output, hgr.size, fun k hk hn => hgn k (by omega) hk⟩
                  obtain ⟨h1, r, q, xx, g, s, o⟩ := h3
                  refine ⟨h1, r.only ho (by omega), q.only ho (by omega), xx.keep ho.size (fun k hk hl => hgn k (by omega) hl), g.only ho (by omega), s.keep ho.size fun k hk hl => hgn k (by omega) hl, ⟨ho.os.trans o.os, ho.tape.trans o.tape, ho.output.trans o.output, Nat.le_trans o.size ho.size, fun k hk hn => (hgn k (by omega) (by have := o.size; omega)).trans (o.block k hk hn)⟩⟩
                · have h6 := (HR3.out.grown hgr fun k hk => by have := hgo k hk; have := HLb.out; omega).mono (p' := q7 + 1 + 12 * (es ++ [x]).length) (by have := Hrc.out; simp; omega)
                  exact h6
            · skip
              have q7k := HSr.out.2.2.1
              have q7r := HSr.out.2.1
              have hlk := q7k.lt
              have hlr := q7r.lt
              have kk0 : wr.cell? ⟨kb, 0, none⟩ = some (.int .i64 kf.kind) := q7k.cell 0
              have kk1 : wr.cell? ⟨kb, 1, none⟩ = some (.int .i64 kf.table) := q7k.cell 1
              have kk2 : wr.cell? ⟨kb, 2, none⟩ = some (.slice kf.es.A kf.es.n kf.es.c) := q7k.cell 2
              have kk3 : wr.cell? ⟨kb, 3, none⟩ = some (.slice kf.cs.A kf.cs.n kf.cs.c) := q7k.cell 3
              have kk4 : wr.cell? ⟨kb, 4, none⟩ = some (.slice kf.ks.A kf.ks.n kf.ks.c) := q7k.cell 4
              have c0 := q7r.cell 0
              have f0 := q7r.frozen 0
              have c1 := q7r.cell 1
              have f1 := q7r.frozen 1
              have c2 := q7r.cell 2
              have f2 := q7r.frozen 2
              have c3 := q7r.cell 3
              have f3 := q7r.frozen 3
              have c4 := q7r.cell 4
              have f4 := q7r.frozen 4
              have Q7r := Lib.hid q7r
              have hm0 : ¬ (0 : Int) < (m : Int) := by omega
              clear q7k q7r
              obtain ⟨Z, hZ⟩ : ∃ z, (((((wr.setCell ⟨w.heap.size, 0, none⟩ (.int .i64 3)).setCell ⟨w.heap.size, 1, none⟩ (.int .i64 0)).setCell ⟨w.heap.size, 2, none⟩ (.slice Ae es.length ce)).setCell ⟨w.heap.size, 3, none⟩ (.slice none 0 0)).setCell ⟨w.heap.size, 4, none⟩ (.slice (some ⟨wr.heap.size, 0, none⟩) 1 1)) = z := ⟨_, rfl⟩
              have hZs : Only (fun k => k = w.heap.size) wr Z := by rw [← hZ]; exact set5 _ _ _ _ _ _ _
              have v0r : Row Z (w.heap.size) 27 [.int .i64 3, .int .i64 0, .slice Ae es.length ce, .slice none 0 0, .slice (some ⟨wr.heap.size, 0, none⟩) 1 1] := by rw [← hZ]; exact ((((Q7r.out.set 0 _).set 1 _).set 2 _).set 3 _).set 4 _
              have zs : Z.heap.size = wr.heap.size := by rw [← hZ]; simp [World.setCell]
              obtain ⟨V1, hV1⟩ : ∃ z, Z.alloc (.cells #[.int .i64 kf.kind, .int .i64 kf.table, .slice kf.es.A kf.es.n kf.es.c, .slice kf.cs.A kf.cs.n kf.cs.c, .slice kf.ks.A kf.ks.n kf.ks.c] 27) = z := ⟨_, rfl⟩
              have v1b : Below Z.heap.size Z V1 := by rw [← hV1]; exact balloc (Below.refl _ _) _
              have v1s : V1.heap.size = wr.heap.size + 1 := by rw [← hV1]; simp; omega
              have v1r := v0r.on v1b
              have HV1 := Lib.hid hV1
              have HZ := Lib.hid hZ
              have e0 := v1r.cell 0
              have e1 := v1r.cell 1
              have e2 := v1r.cell 2
              have e3 := v1r.cell 3
              have e4 := v1r.cell 4
              have VR := Lib.hid v1r
              have FA := Lib.hid (And.intro hZs (And.intro zs ((And.intro v1b (And.intro v1s trivial)))))
              clear hZ hZs zs hV1 v1b v1s v1r v0r
              go_wp2
              rw [HZ.out, HV1.out]
              obtain ⟨hZs, zs, v1b, v1s, -⟩ := FA.out
              have hx7 := HSr.out.kid
              have hr7 : w.heap.size < wr.heap.size := HSr.out.2.1.lt
              have Y1 := pls_lit1 (hx7.keep (by omega) fun k hk hl => hZs.block k hl (show ¬ k = w.heap.size by omega)) #[.int .i64 kf.kind, .int .i64 kf.table, .slice kf.es.A kf.es.n kf.es.c, .slice kf.cs.A kf.cs.n kf.cs.c, .slice kf.ks.A kf.ks.n kf.ks.c] rfl (show w.heap.size < Z.heap.size by omega) 27
              rw [HV1.out, zs] at Y1
              obtain ⟨A', c', hv, hc1, hc2⟩ := HKd.out.shape
              cases hv
              have hE := ((HKd.out.exs.mono (T := fun k => w.heap.size < k) fun k _ hk => by have := HL7.out; omega).keep (by omega) fun k hk hl => hZs.block k hl (show ¬ k = w.heap.size by omega)).keep v1b.size fun k _ hl => v1b.block k hl
              have hm := PlT.make (S := fun k => w.heap.size < k) (k := 3) (t := 0) (es := ⟨Ae, es.length, ce⟩) (cs := ⟨none, 0, 0⟩) (ks := ⟨some ⟨wr.heap.size, 0, none⟩, 1, 1⟩) (xs := es) (cols := []) (ps := [kx]) ⟨rfl, hc1, hc2⟩ SVok.nil (SVok.lit (n := 1) (by decide)) hE SlS.nil Y1
              refine bodyPost_ret (v := fpV ⟨3, 0, ⟨Ae, es.length, ce⟩, ⟨none, 0, 0⟩, ⟨some ⟨wr.heap.size, 0, none⟩, 1, 1⟩⟩) (by simp [results, Try.results60, go_sem, feV, fpV, e0, e1, e2, e3, e4]) rfl ?_
              have hkE := ((HKd.out.only hZs (fun i (hi : i = w.heap.size) => by have := HL7.out; omega)).only (only_below (S := fun _ => False) v1b) (fun i hi => hi.elim)).low (lo' := w.heap.size) (by have := HL7.out; omega)
              obtain ⟨fs9, _, how9, _⟩ := HKd.out
              have Y2 := pls_lit1 (S := fun k => w.heap.size ≤ k ∧ (Value.slice Ae es.length ce).ownBlock ≠ some k) ((HSr.out.2.2.2.1.keep (by omega) fun k hk hl => hZs.block k hl (show ¬ k = w.heap.size by omega)).mono fun k _ hk => ⟨by omega, fun e => by have h7 := (how9.ty k e).1; have := HLb.out; omega⟩) #[.int .i64 kf.kind, .int .i64 kf.table, .slice kf.es.A kf.es.n kf.es.c, .slice kf.cs.A kf.cs.n kf.cs.c, .slice kf.ks.A kf.ks.n kf.ks.c] rfl ⟨by omega, fun e => by have h7 := (how9.ty _ e).2.1; omega⟩ 27
              rw [HV1.out, zs] at Y2
              obtain ⟨_, _, _, _, pg, _, po⟩ := HSr.out
              exact ⟨_, _, _, _, rfl, hm.mono fun k _ hk => Nat.le_of_lt hk, ⟨⟨show es.length ≤ 1000 by omega, by show 0 ≤ 1000; omega⟩, rfl, .inr ⟨rfl, hkE, Y2⟩⟩, (po.step hZs fun i (hi : i = w.heap.size) => .inr (by omega)).below v1b, ((HRr.out.apart hZs fun i (hi : i = w.heap.size) => by omega).on v1b).mono (by have := Hq7.out; have := Hpl.out; omega), (pg.only hZs (show ¬ gb = w.heap.size by omega)).on v1b, HJ4.out.1, HJ4.out.2, by (try have h1 := HXN.out); (try have h2 := HZN.out); have h3 := HKN.out; (try have h4 := HON.out); (try have h6 := HEN.out); have h5 := HDD.out; (try simp only [plN, plsN, exN, exsN]); omega⟩
        · by_cases hj0 : 0 < j4
          · by_cases hw4 : wd ≤ 4
            · obtain ⟨J', rfl⟩ : ∃ J', J = J' + 1 := ⟨J - 1, by have := HJ4.out; omega⟩
              have hJ0 : J' = 0 := by omega
              subst hJ0
              have hjw : IntKind.i64.wrap (j4 - 1) = j4 - 1 := IntWalk.i64_in _ (by have := HJ4.out; omega)
              have pg7 := HS7.out.2.2.2.2.1
              have hlg := pg7.lt
              have pc0 : w7.cell? ⟨gb, 0, none⟩ = some (.pointer (some ⟨b, 0, none⟩)) := pg7.cell 0
              have pc1 : w7.cell? ⟨gb, 1, none⟩ = some (.slice A ws.length c) := pg7.cell 1
              have pc2 : w7.cell? ⟨gb, 2, none⟩ = some (.int .i64 j4) := pg7.cell 2
              have pc3 : w7.cell? ⟨gb, 3, none⟩ = some (.int .i64 u4) := pg7.cell 3
              have pfr := pg7.frozen 2
              obtain ⟨w8, hw8⟩ : ∃ z, w7.setCell ⟨gb, 2, none⟩ (.int .i64 (j4 - 1)) = z := ⟨_, rfl⟩
              have hso : Only (fun i => i = b ∨ i = gb) w7 w8 := by rw [← hw8]; exact Only.set (p := ⟨gb, 2, none⟩) (Only.refl _) (.inl (.inr rfl)) _
              have HS8 := Lib.hid (HS7.out.both hso (show Row w8 gb 94 [.pointer (some ⟨b, 0, none⟩), .slice A ws.length c, .int .i64 (j4 - 1), .int .i64 (u4)] by rw [← hw8]; exact pg7.set 2 _))
              have HR8 := Lib.hid (show Rd w8 b q7 by rw [← hw8]; exact HR7.out.set (a := ⟨gb, 2, none⟩) (show b < gb from hbg) _)
              have HW8 := Lib.hid hw8
              clear hso pg7 hw8
              go_upto_region 24 with fail
              rw [HW8.out]
              clear pc0 pc1 pc2 pc3 pfr
              go_wp2_with fail
              refine (HP.out w8 _ 2 HR8.out (by have := Hq7.out; have := Hpl.out; omega)).mono ?_
              rintro e w9 ⟨k9, rfl, hk9, hb9, hsz9, hR9⟩
              have hs9 := HS8.out.but hb9
              have HS9' := Lib.hid hs9
              have hk90 := hk9.1
              have hk91 := hk9.2.1 (by omega)
              obtain ⟨dd, rfl⟩ := Int.eq_ofNat_of_zero_le hk90
              have hdd : dd ≤ 1 := by omega
              have hpc2 : plC 0 dd ≤ 1002 := by unfold plC; omega
              have IHj := Lib.hid (IHO.out 0 rfl dd hdd b gb (q7 + 1) A c ws (j4 - 1) u4 w9 hR9 hbg hs9.2.2.2.2.1 hs9.2.2.2.2.2.1 HWS.out.1 HWS.out.2 (by have := HJ4.out; omega) HJ4.out.2 (by have := Hq7.out; have := Hpl.out; omega))
              have Hpc2 := Lib.hid hpc2
              clear hk9 hb9 hsz9 hR9 hs9 hk90 hk91 hpc2
              go_wp2_with fail
              refine IHj.out.mono ?_
              rintro e w10 ⟨of, ox, j5, u5, rfl, hx10, _, ho10, hR10, hg10, hj5, hu5, hon⟩
              have HON := Lib.hid (And.intro (Nat.le_trans hon (plD_low hdd)) (show 3200 ≤ plD (0 + 1) d from plD_one d))
              clear hon
              unfold fpV
              obtain ⟨w11, hw11⟩ : ∃ z, w10.alloc (.cells #[.int .i64 of.kind, .int .i64 of.table, .slice of.es.A of.es.n of.es.c, .slice of.cs.A of.cs.n of.cs.c, .slice of.ks.A of.ks.n of.ks.c] 27) = z := ⟨_, rfl⟩
              obtain ⟨ob, hob⟩ : ∃ n, w10.heap.size = n := ⟨_, rfl⟩
              have b11 : Below w10.heap.size w10 w11 := by rw [← hw11]; exact balloc (Below.refl _ _) _
              have hrl9 : w.heap.size < w9.heap.size := HS9'.out.2.1.lt
              have hz10 := ho10.size
              have HS11 := Lib.hid ((HS9'.out.both ho10 hg10).on b11)
              have HQ11 := Lib.hid (show Row w11 ob 27 (fpC of) by rw [← hw11, ← hob]; exact Row.new _ _ _)
              have HT11 := Lib.hid ((hx10.mono (T := fun k => w.heap.size < k) fun k _ hk => by omega).keep b11.size fun k _ hl => b11.block k hl)
              have HR11 := Lib.hid ((hR10.on b11).mono (p' := q7 + 1 + 1002) (by have := Hpc2.out; omega))
              have HJ5 := Lib.hid (show (0 ≤ j5 ∧ j5 ≤ (0 + 1 : Nat)) ∧ (0 ≤ u5 ∧ u5 ≤ 1) from ⟨⟨hj5.1, by have := hj5.2; omega⟩, hu5⟩)
              have Hobn := Lib.hid (show w.heap.size < ob by omega)
              have HW11 := Lib.hid hw11
              have HOBe := Lib.hid hob
              obtain ⟨wd2, hwd2⟩ : ∃ R, plW ws 8 ox = R := ⟨_, rfl⟩
              have hwr2 : 0 ≤ wd2 ∧ wd2 ≤ 6 := by rw [← hwd2]; exact plW_range HWS.out.1 _ _
              have HPW2 := Lib.hid (fun z : Aft w11.heap.size w11 => planWidth_ok ox of ws A c 8 z.v wd2 (HT11.out.keep z.h.size fun k _ hl => z.h.block k hl).in_ HWS.out.1 (by have := HWS.out.2; unfold maxLen; omega) (HS11.out.on z.h).2.2.2.2.2.1.sl (by omega) hwd2)
              have e8 : ((8 : Nat) : Int) = 8 := rfl
              rw [e8] at HPW2
              unfold fpV at HPW2
              have q11 := HQ11.out
              have p11 := HS11.out.2.2.2.2.1
              have hlq := q11.lt
              have hlg := p11.lt
              have K0 := fun z : Aft w11.heap.size w11 => z.cell hlq (q11.cell 0)
              have K1 := fun z : Aft w11.heap.size w11 => z.cell hlq (q11.cell 1)
              have K2 := fun z : Aft w11.heap.size w11 => z.cell hlq (q11.cell 2)
              have K3 := fun z : Aft w11.heap.size w11 => z.cell hlq (q11.cell 3)
              have K4 := fun z : Aft w11.heap.size w11 => z.cell hlq (q11.cell 4)
              have G1 := fun z : Aft w11.heap.size w11 => z.cell hlg (p11.cell 1)
              clear hx10 ho10 hR10 hg10 hj5 hu5 hw11 hob b11 hrl9 hz10 hwd2 e8 q11 p11
              go_upto_region 25 with fail
              rw [HW11.out, HOBe.out]
              refine wp_region_aft w11.heap.size (by kernel_rfl) (by kernel_rfl) ?_
              repeat (go_big_quiet_step ((go_at_call 37; exact Calls.aft (Nat.le_refl _) (HPW2.out _))))
              refine wpQuiet_nil ?_
              intro w12 hw'
              obtain ⟨⟨_, hb12⟩, rfl⟩ := hw'
              have HS12 := Lib.hid (HS11.out.on hb12)
              have HR12 := Lib.hid (HR11.out.on hb12)
              have HQ12 := Lib.hid (HQ11.out.on hb12)
              have HT12 := Lib.hid (HT11.out.keep hb12.size fun k _ hl => hb12.block k hl)
              clear K0 K1 K2 K3 K4 G1 hb12 HPW2
              by_cases h6 : wd + wd2 ≤ 6
              · go_upto_region 27 with fail
                have HSb := Lib.hid (fun (z : World) (hz : But b w12 z) => HS12.out.but hz)
                have HOb := Lib.hid (fun (z : World) (hz : But b w12 z) => show Row z ob 27 (fpC of) ∧ PlT (fun k => w.heap.size < k) z of ox from ⟨HQ12.out.only hz (by have := Hobn.out; omega), HT12.out.keep hz.size fun k hk hl => hz.block k hl (by omega)⟩)
                have SB := Lib.hid (fun (z : World) (hz : But b w12 z) => show z.cell? ⟨kb, 0, none⟩ = some (.int .i64 kf.kind) ∧ z.cell? ⟨kb, 1, none⟩ = some (.int .i64 kf.table) ∧ z.cell? ⟨kb, 2, none⟩ = some (.slice kf.es.A kf.es.n kf.es.c) ∧ z.cell? ⟨kb, 3, none⟩ = some (.slice kf.cs.A kf.cs.n kf.cs.c) ∧ z.cell? ⟨kb, 4, none⟩ = some (.slice kf.ks.A kf.ks.n kf.ks.c) ∧ z.cell? ⟨ob, 0, none⟩ = some (.int .i64 of.kind) ∧ z.cell? ⟨ob, 1, none⟩ = some (.int .i64 of.table) ∧ z.cell? ⟨ob, 2, none⟩ = some (.slice of.es.A of.es.n of.es.c) ∧ z.cell? ⟨ob, 3, none⟩ = some (.slice of.cs.A of.cs.n of.cs.c) ∧ z.cell? ⟨ob, 4, none⟩ = some (.slice of.ks.A of.ks.n of.ks.c) from
                  have h := (HS12.out.but hz).2.2.1; have h' := (HOb.out z hz).1
                  ⟨h.cell 0, h.cell 1, h.cell 2, h.cell 3, h.cell 4, h'.cell 0, h'.cell 1, h'.cell 2, h'.cell 3, h'.cell 4⟩)
                obtain ⟨u0, hu0⟩ : ∃ z, w12.drew = z := ⟨_, rfl⟩
                have Bu0 := Lib.hid (show But b w12 u0 from hu0 ▸ (Only.refl _).drew)
                have Ru0 := Lib.hid (show Rd u0 b (q7 + 1 + 1002) from hu0 ▸ HR12.out.on (Below.refl _ _).drew)
                have Hu0 := Lib.hid hu0
                clear hu0
                refine wp_region_g 11 (fun z => z.cell? ⟨kb, 0, none⟩ = some (.int .i64 kf.kind) ∧ z.cell? ⟨kb, 1, none⟩ = some (.int .i64 kf.table) ∧ z.cell? ⟨kb, 2, none⟩ = some (.slice kf.es.A kf.es.n kf.es.c) ∧ z.cell? ⟨kb, 3, none⟩ = some (.slice kf.cs.A kf.cs.n kf.cs.c) ∧ z.cell? ⟨kb, 4, none⟩ = some (.slice kf.ks.A kf.ks.n kf.ks.c) ∧ z.cell? ⟨ob, 0, none⟩ = some (.int .i64 of.kind) ∧ z.cell? ⟨ob, 1, none⟩ = some (.int .i64 of.table) ∧ z.cell? ⟨ob, 2, none⟩ = some (.slice of.es.A of.es.n of.es.c) ∧ z.cell? ⟨ob, 3, none⟩ = some (.slice of.cs.A of.cs.n of.cs.c) ∧ z.cell? ⟨ob, 4, none⟩ = some (.slice of.ks.A of.ks.n of.ks.c)) (by kernel_rfl) ?_ (fun hHeld => ?_)
                · exact SB.out _ (Only.refl _).drew
                rw [Hu0.out] at hHeld ⊢
                refine takeG (i := 0) (v := ?v46) rfl (by kernel_rfl) (by kernel_rfl) (by kernel_rfl) (by kernel_rfl) (fun _ _ _ h => h) (Or.inl ⟨by rfl, ?hy46⟩) (by assumption) ?_
                case hy46 => ((intro w' hSw; (try dsimp only at hSw); go_simp) <;> with_reducible rfl)
                try simp only [Act.put, List.setIfInBounds_toArray, List.set_cons_zero, List.set_cons_succ]
                refine takeG (i := 3) (v := ?v47) rfl (by kernel_rfl) (by kernel_rfl) (by kernel_rfl) (by kernel_rfl) (fun _ _ _ h => h) (Or.inl ⟨by rfl, ?hy47⟩) (by assumption) ?_
                case hy47 => ((intro w' hSw; (try dsimp only at hSw); go_simp) <;> with_reducible rfl)
                try simp only [Act.put, List.setIfInBounds_toArray, List.set_cons_zero, List.set_cons_succ]
                refine takeG (i := 4) (v := ?v48) rfl (by kernel_rfl) (by kernel_rfl) (by kernel_rfl) (by kernel_rfl) (fun _ _ _ h => h) (Or.inl ⟨by rfl, ?hy48⟩) (by assumption) ?_
                case hy48 => ((intro w' hSw; (try dsimp only at hSw); go_simp) <;> with_reducible rfl)
                try simp only [Act.put, List.setIfInBounds_toArray, List.set_cons_zero, List.set_cons_succ]
                refine takeG (i := 7) (v := ?v49) rfl (by kernel_rfl) (by kernel_rfl) (by kernel_rfl) (by kernel_rfl) (fun _ _ _ h => h) (Or.inl ⟨by rfl, ?hy49⟩) (by assumption) ?_
                case hy49 => ((intro w' hSw; (try dsimp only at hSw); go_simp) <;> with_reducible rfl)
                try simp only [Act.put, List.setIfInBounds_toArray, List.set_cons_zero, List.set_cons_succ]
                refine takeG (i := 8) (v := ?v50) rfl (by kernel_rfl) (by kernel_rfl) (by kernel_rfl) (by kernel_rfl) (fun _ _ _ h => h) (Or.inl ⟨by rfl, ?hy50⟩) (by assumption) ?_
                case hy50 => ((intro w' hSw; (try dsimp only at hSw); go_simp) <;> with_reducible rfl)
                try simp only [Act.put, List.setIfInBounds_toArray, List.set_cons_zero, List.set_cons_succ]
                refine wpAnyG_ready (rs := [1, 9]) (by kernel_rfl) (by simp) ?_
                refine readyG rfl (fun K hK => ?_) (readyG rfl (fun K hK => ?_) AllReadyG.nil)
                · skip
                  obtain ⟨x1, hx1⟩ : ∃ y, u0.alloc (.cells #[.int .i64 4, .int .i64 5] 3) = y := ⟨_, rfl⟩
                  have hb : Below u0.heap.size u0 x1 := by rw [← hx1]; exact balloc (Below.refl _ _) _
                  have Bx1 := Lib.hid (Bu0.out.below hb)
                  have Rx1 := Lib.hid (Ru0.out.on hb)
                  have hzl : w.heap.size < u0.heap.size := (HSb.out _ Bu0.out).2.1.lt
                  have Jx1 := Lib.hid (show Sl 1 intC x1 x1.heap.size (some ⟨u0.heap.size, 0, none⟩) [4, 5] by rw [← hx1]; exact Row.sl' (t := 3) intC_length ((Row.new _ _ _).of rfl))
                  have Mx1 := Lib.hid (show u0.heap.size ≠ b by omega)
                  go_simp
                  try rw [hx1]
                  have Hx1 := Lib.hid hx1
                  clear hx1 hb hzl
                  refine hK.out _ _ ?hS51 (fun hHeld => ?_)
                  case hS51 => exact fun _ => SB.out _ Bx1.out
                  replace hHeld := hHeld (by decide)
                  clear hK K
                  try simp only [Act.put, List.setIfInBounds_toArray, List.set_cons_zero, List.set_cons_succ]
                  refine wpAnyG_ready (rs := [2, 9]) (by kernel_rfl) (by simp) ?_
                  refine readyG rfl (fun K hK => ?_) (readyG rfl (fun K hK => ?_) AllReadyG.nil)
                  · skip
                    go_simp
                    go_at_call 29
                    refine (one_ok b _ (some ⟨u0.heap.size, 0, none⟩) 2 [4, 5] x1 Rx1.out (by have := Hq7.out; have := Hpl.out; omega) (by simp) (by simp) Jx1.out (by rintro a ha; cases ha; exact Mx1.out)).mono ?_
                    rintro e x2 ⟨ok, rfl, _, hb, _, hR⟩
                    have Bx2 := Lib.hid (Bx1.out.trans hb)
                    have Rx2 := Lib.hid hR
                    have hzl : w.heap.size < x1.heap.size := (HSb.out _ Bx1.out).2.1.lt
                    clear hb hR hzl
                    refine hK.out _ _ ?hS52 (fun hHeld => ?_)
                    case hS52 => exact fun _ => SB.out _ Bx2.out
                    replace hHeld := hHeld (by decide)
                    clear hK K
                    try simp only [Act.put, List.setIfInBounds_toArray, List.set_cons_zero, List.set_cons_succ]
                    refine wpAnyG_ready (rs := [5, 9]) (by kernel_rfl) (by simp) ?_
                    refine readyG rfl (fun K hK => ?_) (readyG rfl (fun K hK => ?_) AllReadyG.nil)
                    · skip
                      go_simp
                      go_at_call 62
                      refine (randomCondition_ok b _ (wd + wd2) x2 Rx2.out (by have := Hq7.out; have := Hpl.out; omega)).mono ?_
                      rintro e x3 ⟨f, x, rfl, hx, hb, hR, hxn⟩
                      have HXN := Lib.hid hxn
                      clear hxn
                      have Bx3 := Lib.hid (Bx2.out.trans hb)
                      have Rx3 := Lib.hid hR
                      have Xx3 := Lib.hid (show ExT (fun k => w.heap.size < k) x3 f x from hx.mono fun k _ hk => by have h1 := (HSb.out _ Bx2.out).2.1.lt; omega)
                      unfold feV
                      clear hb hR hx
                      refine hK.out _ _ ?hS53 (fun hHeld => ?_)
                      case hS53 => exact fun _ => SB.out _ Bx3.out
                      replace hHeld := hHeld (by decide)
                      clear hK K
                      try simp only [Act.put, List.setIfInBounds_toArray, List.set_cons_zero, List.set_cons_succ]
                      refine wpAnyG_ready (rs := [6, 9]) (by kernel_rfl) (by simp) ?_
                      refine readyG rfl (fun K hK => ?_) (readyG rfl (fun K hK => ?_) AllReadyG.nil)
                      · skip
                        obtain ⟨x4, hx4⟩ : ∃ y, x3.alloc (.cells #[.int .i64 f.kind, .int .i64 f.col, .bool f.val.1, .int .i64 f.val.2, .slice f.sv.A f.sv.n f.sv.c] 66) = y := ⟨_, rfl⟩
                        have hb : Below x3.heap.size x3 x4 := by rw [← hx4]; exact balloc (Below.refl _ _) _
                        have Bx4 := Lib.hid (Bx3.out.below hb)
                        have Rx4 := Lib.hid (Rx3.out.on hb)
                        have hzl : w.heap.size < x3.heap.size := (HSb.out _ Bx3.out).2.1.lt
                        have Xx4 : Hid (ExT (fun k => w.heap.size < k) x4 f x) := Lib.hid (Xx3.out.keep hb.size fun k _ hl => hb.block k hl)
                        have y1 := exs_lit1 Xx3.out #[.int .i64 f.kind, .int .i64 f.col, .bool f.val.1, .int .i64 f.val.2, .slice f.sv.A f.sv.n f.sv.c] rfl hzl 66
                        rw [hx4] at y1
                        have Lx4 := Lib.hid y1
                        clear y1
                        go_simp
                        try rw [hx4]
                        have Hx4 := Lib.hid hx4
                        clear hx4 hb hzl
                        refine hK.out _ _ ?hS54 (fun hHeld => ?_)
                        case hS54 => exact fun _ => SB.out _ Bx4.out
                        replace hHeld := hHeld (by decide)
                        clear hK K
                        try simp only [Act.put, List.setIfInBounds_toArray, List.set_cons_zero, List.set_cons_succ]
                        refine wpAnyG_ready (rs := [9]) (by kernel_rfl) (by simp) ?_
                        refine readyG rfl (fun K hK => ?_) AllReadyG.nil
                        obtain ⟨x5, hx5⟩ : ∃ y, x4.alloc (.cells #[.int .i64 kf.kind, .int .i64 kf.table, .slice kf.es.A kf.es.n kf.es.c, .slice kf.cs.A kf.cs.n kf.cs.c, .slice kf.ks.A kf.ks.n kf.ks.c, .int .i64 of.kind, .int .i64 of.table, .slice of.es.A of.es.n of.es.c, .slice of.cs.A of.cs.n of.cs.c, .slice of.ks.A of.ks.n of.ks.c] 27) = y := ⟨_, rfl⟩
                        have hb : Below x4.heap.size x4 x5 := by rw [← hx5]; exact balloc (Below.refl _ _) _
                        have Bx5 := Lib.hid (Bx4.out.below hb)
                        have Rx5 := Lib.hid (Rx4.out.on hb)
                        have hzl : w.heap.size < x4.heap.size := (HSb.out _ Bx4.out).2.1.lt
                        have Lx5 : Hid (ExsT (fun k => w.heap.size < k) x5 (some ⟨x3.heap.size, 0, none⟩) [x]) := Lib.hid (Lx4.out.keep hb.size fun k _ hl => hb.block k hl)
                        have y1 := pls_lit2 (HSb.out _ Bx4.out).kid (HOb.out _ Bx4.out).2 #[.int .i64 kf.kind, .int .i64 kf.table, .slice kf.es.A kf.es.n kf.es.c, .slice kf.cs.A kf.cs.n kf.cs.c, .slice kf.ks.A kf.ks.n kf.ks.c, .int .i64 of.kind, .int .i64 of.table, .slice of.es.A of.es.n of.es.c, .slice of.cs.A of.cs.n of.cs.c, .slice of.ks.A of.ks.n of.ks.c] rfl hzl 27
                        rw [hx5] at y1
                        have Px5 := Lib.hid y1
                        clear y1
                        go_simp
                        try rw [hx5]
                        have Hx5 := Lib.hid hx5
                        clear hx5 hb hzl
                        refine hK.out _ _ ?hS55 (fun hHeld => ?_)
                        case hS55 => exact fun _ => SB.out _ Bx5.out
                        replace hHeld := hHeld (by decide)
                        clear hK K
                        try simp only [Act.put, List.setIfInBounds_toArray, List.set_cons_zero, List.set_cons_succ]
                        refine takeG (i := 10) (v := ?v56) rfl (by kernel_rfl) (by kernel_rfl) (by kernel_rfl) (by kernel_rfl) (fun _ _ _ h => h) (Or.inl ⟨by rfl, ?hy56⟩) (by assumption) ?_
                        case hy56 => ((intro w' hSw; (try dsimp only at hSw); go_simp) <;> with_reducible rfl)
                        try simp only [Act.put, List.setIfInBounds_toArray, List.set_cons_zero, List.set_cons_succ]
                        refine wpAnyG_ready (rs := [11]) (by kernel_rfl) (by simp) ?_
                        refine readyG rfl (fun K hK => ?_) AllReadyG.nil
                        have rr := (HSb.out x5 Bx5.out).2.1
                        have hl := rr.lt
                        have c0 := rr.cell 0
                        have f0 := rr.frozen 0
                        have c1 := rr.cell 1
                        have f1 := rr.frozen 1
                        have c2 := rr.cell 2
                        have f2 := rr.frozen 2
                        have c3 := rr.cell 3
                        have f3 := rr.frozen 3
                        have c4 := rr.cell 4
                        have f4 := rr.frozen 4
                        clear rr
                        go_simp
                        refine hK.out _ _ ?hS57 (fun hHeld => ?_)
                        case hS57 => exact fun h => absurd rfl h
                        clear hK K
                        try simp only [Act.put, List.setIfInBounds_toArray, List.set_cons_zero, List.set_cons_succ]
                        refine wpAnyG_done (by kernel_rfl) ?_ _
                        go_wp2
                        refine bodyPost_ret (v := fpV ⟨ok, 0, ⟨some ⟨x3.heap.size, 0, none⟩, 1, 1⟩, ⟨none, 0, 0⟩, ⟨some ⟨x4.heap.size, 0, none⟩, 2, 2⟩⟩) (by simp [results, Try.results60, go_sem, fpV, c0, c1, c2, c3, c4]) rfl ?_
                        obtain ⟨_, _, _, _, pg, _, po⟩ := HSb.out _ Bx5.out
                        exact gotQ_of (PlT.make (k := ok) (t := 0) (cs := ⟨none, 0, 0⟩) (cols := []) (SVok.lit (n := 1) (by decide)) SVok.nil (SVok.lit (n := 2) (by decide)) Lx5.out SlS.nil Px5.out) (rootOk_lit (by simp) (by simp) rfl rfl) po (Rx5.out.mono (by have := Hq7.out; have := Hpl.out; omega)) pg HJ5.out.1 HJ5.out.2 hbg hgl _ _ _ _ _ rfl (by (try have h1 := HXN.out); (try have h2 := HZN.out); have h3 := HKN.out; (try have h4 := HON.out); (try have h6 := HEN.out); have h5 := HDD.out; (try simp only [plN, plsN, exN, exsN]); omega)
                      · skip
                        obtain ⟨x4, hx4⟩ : ∃ y, x3.alloc (.cells #[.int .i64 kf.kind, .int .i64 kf.table, .slice kf.es.A kf.es.n kf.es.c, .slice kf.cs.A kf.cs.n kf.cs.c, .slice kf.ks.A kf.ks.n kf.ks.c, .int .i64 of.kind, .int .i64 of.table, .slice of.es.A of.es.n of.es.c, .slice of.cs.A of.cs.n of.cs.c, .slice of.ks.A of.ks.n of.ks.c] 27) = y := ⟨_, rfl⟩
                        have hb : Below x3.heap.size x3 x4 := by rw [← hx4]; exact balloc (Below.refl _ _) _
                        have Bx4 := Lib.hid (Bx3.out.below hb)
                        have Rx4 := Lib.hid (Rx3.out.on hb)
                        have hzl : w.heap.size < x3.heap.size := (HSb.out _ Bx3.out).2.1.lt
                        have Xx4 : Hid (ExT (fun k => w.heap.size < k) x4 f x) := Lib.hid (Xx3.out.keep hb.size fun k _ hl => hb.block k hl)
                        have y1 := pls_lit2 (HSb.out _ Bx3.out).kid (HOb.out _ Bx3.out).2 #[.int .i64 kf.kind, .int .i64 kf.table, .slice kf.es.A kf.es.n kf.es.c, .slice kf.cs.A kf.cs.n kf.cs.c, .slice kf.ks.A kf.ks.n kf.ks.c, .int .i64 of.kind, .int .i64 of.table, .slice of.es.A of.es.n of.es.c, .slice of.cs.A of.cs.n of.cs.c, .slice of.ks.A of.ks.n of.ks.c] rfl hzl 27
                        rw [hx4] at y1
                        have Px4 := Lib.hid y1
                        clear y1
                        go_simp
                        try rw [hx4]
                        have Hx4 := Lib.hid hx4
                        clear hx4 hb hzl
                        refine hK.out _ _ ?hS58 (fun hHeld => ?_)
                        case hS58 => exact fun _ => SB.out _ Bx4.out
                        replace hHeld := hHeld (by decide)
                        clear hK K
                        try simp only [Act.put, List.setIfInBounds_toArray, List.set_cons_zero, List.set_cons_succ]
                        refine wpAnyG_ready (rs := [6]) (by kernel_rfl) (by simp) ?_
                        refine readyG rfl (fun K hK => ?_) AllReadyG.nil
                        obtain ⟨x5, hx5⟩ : ∃ y, x4.alloc (.cells #[.int .i64 f.kind, .int .i64 f.col, .bool f.val.1, .int .i64 f.val.2, .slice f.sv.A f.sv.n f.sv.c] 66) = y := ⟨_, rfl⟩
                        have hb : Below x4.heap.size x4 x5 := by rw [← hx5]; exact balloc (Below.refl _ _) _
                        have Bx5 := Lib.hid (Bx4.out.below hb)
                        have Rx5 := Lib.hid (Rx4.out.on hb)
                        have hzl : w.heap.size < x4.heap.size := (HSb.out _ Bx4.out).2.1.lt
                        have Xx5 : Hid (ExT (fun k => w.heap.size < k) x5 f x) := Lib.hid (Xx4.out.keep hb.size fun k _ hl => hb.block k hl)
                        have Px5 : Hid (PlsT (fun k => w.heap.size < k) x5 (some ⟨x3.heap.size, 0, none⟩) [kx, ox]) := Lib.hid (PlsT.keep Px4.out hb.size fun k _ hl => hb.block k hl)
                        have y1 := exs_lit1 Xx4.out #[.int .i64 f.kind, .int .i64 f.col, .bool f.val.1, .int .i64 f.val.2, .slice f.sv.A f.sv.n f.sv.c] rfl hzl 66
                        rw [hx5] at y1
                        have Lx5 := Lib.hid y1
                        clear y1
                        go_simp
                        try rw [hx5]
                        have Hx5 := Lib.hid hx5
                        clear hx5 hb hzl
                        refine hK.out _ _ ?hS59 (fun hHeld => ?_)
                        case hS59 => exact fun _ => SB.out _ Bx5.out
                        replace hHeld := hHeld (by decide)
                        clear hK K
                        try simp only [Act.put, List.setIfInBounds_toArray, List.set_cons_zero, List.set_cons_succ]
                        refine takeG (i := 10) (v := ?v60) rfl (by kernel_rfl) (by kernel_rfl) (by kernel_rfl) (by kernel_rfl) (fun _ _ _ h => h) (Or.inl ⟨by rfl, ?hy60⟩) (by assumption) ?_
                        case hy60 => ((intro w' hSw; (try dsimp only at hSw); go_simp) <;> with_reducible rfl)
                        try simp only [Act.put, List.setIfInBounds_toArray, List.set_cons_zero, List.set_cons_succ]
                        refine wpAnyG_ready (rs := [11]) (by kernel_rfl) (by simp) ?_
                        refine readyG rfl (fun K hK => ?_) AllReadyG.nil
                        have rr := (HSb.out x5 Bx5.out).2.1
                        have hl := rr.lt
                        have c0 := rr.cell 0
                        have f0 := rr.frozen 0
                        have c1 := rr.cell 1
                        have f1 := rr.frozen 1
                        have c2 := rr.cell 2
                        have f2 := rr.frozen 2
                        have c3 := rr.cell 3
                        have f3 := rr.frozen 3
                        have c4 := rr.cell 4
                        have f4 := rr.frozen 4
                        clear rr
                        go_simp
                        refine hK.out _ _ ?hS61 (fun hHeld => ?_)
                        case hS61 => exact fun h => absurd rfl h
                        clear hK K
                        try simp only [Act.put, List.setIfInBounds_toArray, List.set_cons_zero, List.set_cons_succ]
                        refine wpAnyG_done (by kernel_rfl) ?_ _
                        go_wp2
                        refine bodyPost_ret (v := fpV ⟨ok, 0, ⟨some ⟨x4.heap.size, 0, none⟩, 1, 1⟩, ⟨none, 0, 0⟩, ⟨some ⟨x3.heap.size, 0, none⟩, 2, 2⟩⟩) (by simp [results, Try.results60, go_sem, fpV, c0, c1, c2, c3, c4]) rfl ?_
                        obtain ⟨_, _, _, _, pg, _, po⟩ := HSb.out _ Bx5.out
                        exact gotQ_of (PlT.make (k := ok) (t := 0) (cs := ⟨none, 0, 0⟩) (cols := []) (SVok.lit (n := 1) (by decide)) SVok.nil (SVok.lit (n := 2) (by decide)) Lx5.out SlS.nil Px5.out) (rootOk_lit (by simp) (by simp) rfl rfl) po (Rx5.out.mono (by have := Hq7.out; have := Hpl.out; omega)) pg HJ5.out.1 HJ5.out.2 hbg hgl _ _ _ _ _ rfl (by (try have h1 := HXN.out); (try have h2 := HZN.out); have h3 := HKN.out; (try have h4 := HON.out); (try have h6 := HEN.out); have h5 := HDD.out; (try simp only [plN, plsN, exN, exsN]); omega)
                    · skip
                      obtain ⟨x3, hx3⟩ : ∃ y, x2.alloc (.cells #[.int .i64 kf.kind, .int .i64 kf.table, .slice kf.es.A kf.es.n kf.es.c, .slice kf.cs.A kf.cs.n kf.cs.c, .slice kf.ks.A kf.ks.n kf.ks.c, .int .i64 of.kind, .int .i64 of.table, .slice of.es.A of.es.n of.es.c, .slice of.cs.A of.cs.n of.cs.c, .slice of.ks.A of.ks.n of.ks.c] 27) = y := ⟨_, rfl⟩
                      have hb : Below x2.heap.size x2 x3 := by rw [← hx3]; exact balloc (Below.refl _ _) _
                      have Bx3 := Lib.hid (Bx2.out.below hb)
                      have Rx3 := Lib.hid (Rx2.out.on hb)
                      have hzl : w.heap.size < x2.heap.size := (HSb.out _ Bx2.out).2.1.lt
                      have y1 := pls_lit2 (HSb.out _ Bx2.out).kid (HOb.out _ Bx2.out).2 #[.int .i64 kf.kind, .int .i64 kf.table, .slice kf.es.A kf.es.n kf.es.c, .slice kf.cs.A kf.cs.n kf.cs.c, .slice kf.ks.A kf.ks.n kf.ks.c, .int .i64 of.kind, .int .i64 of.table, .slice of.es.A of.es.n of.es.c, .slice of.cs.A of.cs.n of.cs.c, .slice of.ks.A of.ks.n of.ks.c] rfl hzl 27
                      rw [hx3] at y1
                      have Px3 := Lib.hid y1
                      clear y1
                      go_simp
                      try rw [hx3]
                      have Hx3 := Lib.hid hx3
                      clear hx3 hb hzl
                      refine hK.out _ _ ?hS62 (fun hHeld => ?_)
                      case hS62 => exact fun _ => SB.out _ Bx3.out
                      replace hHeld := hHeld (by decide)
                      clear hK K
                      try simp only [Act.put, List.setIfInBounds_toArray, List.set_cons_zero, List.set_cons_succ]
                      refine wpAnyG_ready (rs := [5]) (by kernel_rfl) (by simp) ?_
                      refine readyG rfl (fun K hK => ?_) AllReadyG.nil
                      go_simp
                      go_at_call 62
                      refine (randomCondition_ok b _ (wd + wd2) x3 Rx3.out (by have := Hq7.out; have := Hpl.out; omega)).mono ?_
                      rintro e x4 ⟨f, x, rfl, hx, hb, hR, hxn⟩
                      have HXN := Lib.hid hxn
                      clear hxn
                      have Bx4 := Lib.hid (Bx3.out.trans hb)
                      have Rx4 := Lib.hid hR
                      have Xx4 := Lib.hid (show ExT (fun k => w.heap.size < k) x4 f x from hx.mono fun k _ hk => by have h1 := (HSb.out _ Bx3.out).2.1.lt; omega)
                      unfold feV
                      have Px4 : Hid (PlsT (fun k => w.heap.size < k) x4 (some ⟨x2.heap.size, 0, none⟩) [kx, ox]) := Lib.hid (PlsT.keep Px3.out hb.size fun k hk hl => hb.block k hl (by omega))
                      clear hb hR hx
                      refine hK.out _ _ ?hS63 (fun hHeld => ?_)
                      case hS63 => exact fun _ => SB.out _ Bx4.out
                      replace hHeld := hHeld (by decide)
                      clear hK K
                      try simp only [Act.put, List.setIfInBounds_toArray, List.set_cons_zero, List.set_cons_succ]
                      refine wpAnyG_ready (rs := [6]) (by kernel_rfl) (by simp) ?_
                      refine readyG rfl (fun K hK => ?_) AllReadyG.nil
                      obtain ⟨x5, hx5⟩ : ∃ y, x4.alloc (.cells #[.int .i64 f.kind, .int .i64 f.col, .bool f.val.1, .int .i64 f.val.2, .slice f.sv.A f.sv.n f.sv.c] 66) = y := ⟨_, rfl⟩
                      have hb : Below x4.heap.size x4 x5 := by rw [← hx5]; exact balloc (Below.refl _ _) _
                      have Bx5 := Lib.hid (Bx4.out.below hb)
                      have Rx5 := Lib.hid (Rx4.out.on hb)
                      have hzl : w.heap.size < x4.heap.size := (HSb.out _ Bx4.out).2.1.lt
                      have Xx5 : Hid (ExT (fun k => w.heap.size < k) x5 f x) := Lib.hid (Xx4.out.keep hb.size fun k _ hl => hb.block k hl)
                      have Px5 : Hid (PlsT (fun k => w.heap.size < k) x5 (some ⟨x2.heap.size, 0, none⟩) [kx, ox]) := Lib.hid (PlsT.keep Px4.out hb.size fun k _ hl => hb.block k hl)
                      have y1 := exs_lit1 Xx4.out #[.int .i64 f.kind, .int .i64 f.col, .bool f.val.1, .int .i64 f.val.2, .slice f.sv.A f.sv.n f.sv.c] rfl hzl 66
                      rw [hx5] at y1
                      have Lx5 := Lib.hid y1
                      clear y1
                      go_simp
                      try rw [hx5]
                      have Hx5 := Lib.hid hx5
                      clear hx5 hb hzl
                      refine hK.out _ _ ?hS64 (fun hHeld => ?_)
                      case hS64 => exact fun _ => SB.out _ Bx5.out
                      replace hHeld := hHeld (by decide)
                      clear hK K
                      try simp only [Act.put, List.setIfInBounds_toArray, List.set_cons_zero, List.set_cons_succ]
                      refine takeG (i := 10) (v := ?v65) rfl (by kernel_rfl) (by kernel_rfl) (by kernel_rfl) (by kernel_rfl) (fun _ _ _ h => h) (Or.inl ⟨by rfl, ?hy65⟩) (by assumption) ?_
                      case hy65 => ((intro w' hSw; (try dsimp only at hSw); go_simp) <;> with_reducible rfl)
                      try simp only [Act.put, List.setIfInBounds_toArray, List.set_cons_zero, List.set_cons_succ]
                      refine wpAnyG_ready (rs := [11]) (by kernel_rfl) (by simp) ?_
                      refine readyG rfl (fun K hK => ?_) AllReadyG.nil
                      have rr := (HSb.out x5 Bx5.out).2.1
                      have hl := rr.lt
                      have c0 := rr.cell 0
                      have f0 := rr.frozen 0
                      have c1 := rr.cell 1
                      have f1 := rr.frozen 1
                      have c2 := rr.cell 2
                      have f2 := rr.frozen 2
                      have c3 := rr.cell 3
                      have f3 := rr.frozen 3
                      have c4 := rr.cell 4
                      have f4 := rr.frozen 4
                      clear rr
                      go_simp
                      refine hK.out _ _ ?hS66 (fun hHeld => ?_)
                      case hS66 => exact fun h => absurd rfl h
                      clear hK K
                      try simp only [Act.put, List.setIfInBounds_toArray, List.set_cons_zero, List.set_cons_succ]
                      refine wpAnyG_done (by kernel_rfl) ?_ _
                      go_wp2
                      refine bodyPost_ret (v := fpV ⟨ok, 0, ⟨some ⟨x4.heap.size, 0, none⟩, 1, 1⟩, ⟨none, 0, 0⟩, ⟨some ⟨x2.heap.size, 0, none⟩, 2, 2⟩⟩) (by simp [results, Try.results60, go_sem, fpV, c0, c1, c2, c3, c4]) rfl ?_
                      obtain ⟨_, _, _, _, pg, _, po⟩ := HSb.out _ Bx5.out
                      exact gotQ_of (PlT.make (k := ok) (t := 0) (cs := ⟨none, 0, 0⟩) (cols := []) (SVok.lit (n := 1) (by decide)) SVok.nil (SVok.lit (n := 2) (by decide)) Lx5.out SlS.nil Px5.out) (rootOk_lit (by simp) (by simp) rfl rfl) po (Rx5.out.mono (by have := Hq7.out; have := Hpl.out; omega)) pg HJ5.out.1 HJ5.out.2 hbg hgl _ _ _ _ _ rfl (by (try have h1 := HXN.out); (try have h2 := HZN.out); have h3 := HKN.out; (try have h4 := HON.out); (try have h6 := HEN.out); have h5 := HDD.out; (try simp only [plN, plsN, exN, exsN]); omega)
                  · skip
                    obtain ⟨x2, hx2⟩ : ∃ y, x1.alloc (.cells #[.int .i64 kf.kind, .int .i64 kf.table, .slice kf.es.A kf.es.n kf.es.c, .slice kf.cs.A kf.cs.n kf.cs.c, .slice kf.ks.A kf.ks.n kf.ks.c, .int .i64 of.kind, .int .i64 of.table, .slice of.es.A of.es.n of.es.c, .slice of.cs.A of.cs.n of.cs.c, .slice of.ks.A of.ks.n of.ks.c] 27) = y := ⟨_, rfl⟩
                    have hb : Below x1.heap.size x1 x2 := by rw [← hx2]; exact balloc (Below.refl _ _) _
                    have Bx2 := Lib.hid (Bx1.out.below hb)
                    have Rx2 := Lib.hid (Rx1.out.on hb)
                    have hzl : w.heap.size < x1.heap.size := (HSb.out _ Bx1.out).2.1.lt
                    have y1 := pls_lit2 (HSb.out _ Bx1.out).kid (HOb.out _ Bx1.out).2 #[.int .i64 kf.kind, .int .i64 kf.table, .slice kf.es.A kf.es.n kf.es.c, .slice kf.cs.A kf.cs.n kf.cs.c, .slice kf.ks.A kf.ks.n kf.ks.c, .int .i64 of.kind, .int .i64 of.table, .slice of.es.A of.es.n of.es.c, .slice of.cs.A of.cs.n of.cs.c, .slice of.ks.A of.ks.n of.ks.c] rfl hzl 27
                    rw [hx2] at y1
                    have Px2 := Lib.hid y1
                    clear y1
                    have Jx2 := Lib.hid (Jx1.out.on hb)
                    go_simp
                    try rw [hx2]
                    have Hx2 := Lib.hid hx2
                    clear hx2 hb hzl
                    refine hK.out _ _ ?hS67 (fun hHeld => ?_)
                    case hS67 => exact fun _ => SB.out _ Bx2.out
                    replace hHeld := hHeld (by decide)
                    clear hK K
                    try simp only [Act.put, List.setIfInBounds_toArray, List.set_cons_zero, List.set_cons_succ]
                    refine wpAnyG_ready (rs := [2]) (by kernel_rfl) (by simp) ?_
                    refine readyG rfl (fun K hK => ?_) AllReadyG.nil
                    go_simp
                    go_at_call 29
                    refine (one_ok b _ (some ⟨u0.heap.size, 0, none⟩) 2 [4, 5] x2 Rx2.out (by have := Hq7.out; have := Hpl.out; omega) (by simp) (by simp) Jx2.out (by rintro a ha; cases ha; exact Mx1.out)).mono ?_
                    rintro e x3 ⟨ok, rfl, _, hb, _, hR⟩
                    have Bx3 := Lib.hid (Bx2.out.trans hb)
                    have Rx3 := Lib.hid hR
                    have hzl : w.heap.size < x2.heap.size := (HSb.out _ Bx2.out).2.1.lt
                    have Px3 : Hid (PlsT (fun k => w.heap.size < k) x3 (some ⟨x1.heap.size, 0, none⟩) [kx, ox]) := Lib.hid (PlsT.keep Px2.out hb.size fun k hk hl => hb.block k hl (by omega))
                    clear hb hR hzl
                    refine hK.out _ _ ?hS68 (fun hHeld => ?_)
                    case hS68 => exact fun _ => SB.out _ Bx3.out
                    replace hHeld := hHeld (by decide)
                    clear hK K
                    try simp only [Act.put, List.setIfInBounds_toArray, List.set_cons_zero, List.set_cons_succ]
                    refine wpAnyG_ready (rs := [5]) (by kernel_rfl) (by simp) ?_
                    refine readyG rfl (fun K hK => ?_) AllReadyG.nil
                    go_simp
                    go_at_call 62
                    refine (randomCondition_ok b _ (wd + wd2) x3 Rx3.out (by have := Hq7.out; have := Hpl.out; omega)).mono ?_
                    rintro e x4 ⟨f, x, rfl, hx, hb, hR, hxn⟩
                    have HXN := Lib.hid hxn
                    clear hxn
                    have Bx4 := Lib.hid (Bx3.out.trans hb)
                    have Rx4 := Lib.hid hR
                    have Xx4 := Lib.hid (show ExT (fun k => w.heap.size < k) x4 f x from hx.mono fun k _ hk => by have h1 := (HSb.out _ Bx3.out).2.1.lt; omega)
                    unfold feV
                    have Px4 : Hid (PlsT (fun k => w.heap.size < k) x4 (some ⟨x1.heap.size, 0, none⟩) [kx, ox]) := Lib.hid (PlsT.keep Px3.out hb.size fun k hk hl => hb.block k hl (by omega))
                    clear hb hR hx
                    refine hK.out _ _ ?hS69 (fun hHeld => ?_)
                    case hS69 => exact fun _ => SB.out _ Bx4.out
                    replace hHeld := hHeld (by decide)
                    clear hK K
                    try simp only [Act.put, List.setIfInBounds_toArray, List.set_cons_zero, List.set_cons_succ]
                    refine wpAnyG_ready (rs := [6]) (by kernel_rfl) (by simp) ?_
                    refine readyG rfl (fun K hK => ?_) AllReadyG.nil
                    obtain ⟨x5, hx5⟩ : ∃ y, x4.alloc (.cells #[.int .i64 f.kind, .int .i64 f.col, .bool f.val.1, .int .i64 f.val.2, .slice f.sv.A f.sv.n f.sv.c] 66) = y := ⟨_, rfl⟩
                    have hb : Below x4.heap.size x4 x5 := by rw [← hx5]; exact balloc (Below.refl _ _) _
                    have Bx5 := Lib.hid (Bx4.out.below hb)
                    have Rx5 := Lib.hid (Rx4.out.on hb)
                    have hzl : w.heap.size < x4.heap.size := (HSb.out _ Bx4.out).2.1.lt
                    have Xx5 : Hid (ExT (fun k => w.heap.size < k) x5 f x) := Lib.hid (Xx4.out.keep hb.size fun k _ hl => hb.block k hl)
                    have Px5 : Hid (PlsT (fun k => w.heap.size < k) x5 (some ⟨x1.heap.size, 0, none⟩) [kx, ox]) := Lib.hid (PlsT.keep Px4.out hb.size fun k _ hl => hb.block k hl)
                    have y1 := exs_lit1 Xx4.out #[.int .i64 f.kind, .int .i64 f.col, .bool f.val.1, .int .i64 f.val.2, .slice f.sv.A f.sv.n f.sv.c] rfl hzl 66
                    rw [hx5] at y1
                    have Lx5 := Lib.hid y1
                    clear y1
                    go_simp
                    try rw [hx5]
                    have Hx5 := Lib.hid hx5
                    clear hx5 hb hzl
                    refine hK.out _ _ ?hS70 (fun hHeld => ?_)
                    case hS70 => exact fun _ => SB.out _ Bx5.out
                    replace hHeld := hHeld (by decide)
                    clear hK K
                    try simp only [Act.put, List.setIfInBounds_toArray, List.set_cons_zero, List.set_cons_succ]
                    refine takeG (i := 10) (v := ?v71) rfl (by kernel_rfl) (by kernel_rfl) (by kernel_rfl) (by kernel_rfl) (fun _ _ _ h => h) (Or.inl ⟨by rfl, ?hy71⟩) (by assumption) ?_
                    case hy71 => ((intro w' hSw; (try dsimp only at hSw); go_simp) <;> with_reducible rfl)
                    try simp only [Act.put, List.setIfInBounds_toArray, List.set_cons_zero, List.set_cons_succ]
                    refine wpAnyG_ready (rs := [11]) (by kernel_rfl) (by simp) ?_
                    refine readyG rfl (fun K hK => ?_) AllReadyG.nil
                    have rr := (HSb.out x5 Bx5.out).2.1
                    have hl := rr.lt
                    have c0 := rr.cell 0
                    have f0 := rr.frozen 0
                    have c1 := rr.cell 1
                    have f1 := rr.frozen 1
                    have c2 := rr.cell 2
                    have f2 := rr.frozen 2
                    have c3 := rr.cell 3
                    have f3 := rr.frozen 3
                    have c4 := rr.cell 4
                    have f4 := rr.frozen 4
                    clear rr
                    go_simp
                    refine hK.out _ _ ?hS72 (fun hHeld => ?_)
                    case hS72 => exact fun h => absurd rfl h
                    clear hK K
                    try simp only [Act.put, List.setIfInBounds_toArray, List.set_cons_zero, List.set_cons_succ]
                    refine wpAnyG_done (by kernel_rfl) ?_ _
                    go_wp2
                    refine bodyPost_ret (v := fpV ⟨ok, 0, ⟨some ⟨x4.heap.size, 0, none⟩, 1, 1⟩, ⟨none, 0, 0⟩, ⟨some ⟨x1.heap.size, 0, none⟩, 2, 2⟩⟩) (by simp [results, Try.results60, go_sem, fpV, c0, c1, c2, c3, c4]) rfl ?_
                    obtain ⟨_, _, _, _, pg, _, po⟩ := HSb.out _ Bx5.out
                    exact gotQ_of (PlT.make (k := ok) (t := 0) (cs := ⟨none, 0, 0⟩) (cols := []) (SVok.lit (n := 1) (by decide)) SVok.nil (SVok.lit (n := 2) (by decide)) Lx5.out SlS.nil Px5.out) (rootOk_lit (by simp) (by simp) rfl rfl) po (Rx5.out.mono (by have := Hq7.out; have := Hpl.out; omega)) pg HJ5.out.1 HJ5.out.2 hbg hgl _ _ _ _ _ rfl (by (try have h1 := HXN.out); (try have h2 := HZN.out); have h3 := HKN.out; (try have h4 := HON.out); (try have h6 := HEN.out); have h5 := HDD.out; (try simp only [plN, plsN, exN, exsN]); omega)
                · skip
                  obtain ⟨x1, hx1⟩ : ∃ y, u0.alloc (.cells #[.int .i64 kf.kind, .int .i64 kf.table, .slice kf.es.A kf.es.n kf.es.c, .slice kf.cs.A kf.cs.n kf.cs.c, .slice kf.ks.A kf.ks.n kf.ks.c, .int .i64 of.kind, .int .i64 of.table, .slice of.es.A of.es.n of.es.c, .slice of.cs.A of.cs.n of.cs.c, .slice of.ks.A of.ks.n of.ks.c] 27) = y := ⟨_, rfl⟩
                  have hb : Below u0.heap.size u0 x1 := by rw [← hx1]; exact balloc (Below.refl _ _) _
                  have Bx1 := Lib.hid (Bu0.out.below hb)
                  have Rx1 := Lib.hid (Ru0.out.on hb)
                  have hzl : w.heap.size < u0.heap.size := (HSb.out _ Bu0.out).2.1.lt
                  have y1 := pls_lit2 (HSb.out _ Bu0.out).kid (HOb.out _ Bu0.out).2 #[.int .i64 kf.kind, .int .i64 kf.table, .slice kf.es.A kf.es.n kf.es.c, .slice kf.cs.A kf.cs.n kf.cs.c, .slice kf.ks.A kf.ks.n kf.ks.c, .int .i64 of.kind, .int .i64 of.table, .slice of.es.A of.es.n of.es.c, .slice of.cs.A of.cs.n of.cs.c, .slice of.ks.A of.ks.n of.ks.c] rfl hzl 27
                  rw [hx1] at y1
                  have Px1 := Lib.hid y1
                  clear y1
                  go_simp
                  try rw [hx1]
                  have Hx1 := Lib.hid hx1
                  clear hx1 hb hzl
                  refine hK.out _ _ ?hS73 (fun hHeld => ?_)
                  case hS73 => exact fun _ => SB.out _ Bx1.out
                  replace hHeld := hHeld (by decide)
                  clear hK K
                  try simp only [Act.put, List.setIfInBounds_toArray, List.set_cons_zero, List.set_cons_succ]
                  refine wpAnyG_ready (rs := [1]) (by kernel_rfl) (by simp) ?_
                  refine readyG rfl (fun K hK => ?_) AllReadyG.nil
                  obtain ⟨x2, hx2⟩ : ∃ y, x1.alloc (.cells #[.int .i64 4, .int .i64 5] 3) = y := ⟨_, rfl⟩
                  have hb : Below x1.heap.size x1 x2 := by rw [← hx2]; exact balloc (Below.refl _ _) _
                  have Bx2 := Lib.hid (Bx1.out.below hb)
                  have Rx2 := Lib.hid (Rx1.out.on hb)
                  have hzl : w.heap.size < x1.heap.size := (HSb.out _ Bx1.out).2.1.lt
                  have Px2 : Hid (PlsT (fun k => w.heap.size < k) x2 (some ⟨u0.heap.size, 0, none⟩) [kx, ox]) := Lib.hid (PlsT.keep Px1.out hb.size fun k _ hl => hb.block k hl)
                  have Jx2 := Lib.hid (show Sl 1 intC x2 x2.heap.size (some ⟨x1.heap.size, 0, none⟩) [4, 5] by rw [← hx2]; exact Row.sl' (t := 3) intC_length ((Row.new _ _ _).of rfl))
                  have Mx2 := Lib.hid (show x1.heap.size ≠ b by omega)
                  go_simp
                  try rw [hx2]
                  have Hx2 := Lib.hid hx2
                  clear hx2 hb hzl
                  refine hK.out _ _ ?hS74 (fun hHeld => ?_)
                  case hS74 => exact fun _ => SB.out _ Bx2.out
                  replace hHeld := hHeld (by decide)
                  clear hK K
                  try simp only [Act.put, List.setIfInBounds_toArray, List.set_cons_zero, List.set_cons_succ]
                  refine wpAnyG_ready (rs := [2]) (by kernel_rfl) (by simp) ?_
                  refine readyG rfl (fun K hK => ?_) AllReadyG.nil
                  go_simp
                  go_at_call 29
                  refine (one_ok b _ (some ⟨x1.heap.size, 0, none⟩) 2 [4, 5] x2 Rx2.out (by have := Hq7.out; have := Hpl.out; omega) (by simp) (by simp) Jx2.out (by rintro a ha; cases ha; exact Mx2.out)).mono ?_
                  rintro e x3 ⟨ok, rfl, _, hb, _, hR⟩
                  have Bx3 := Lib.hid (Bx2.out.trans hb)
                  have Rx3 := Lib.hid hR
                  have hzl : w.heap.size < x2.heap.size := (HSb.out _ Bx2.out).2.1.lt
                  have Px3 : Hid (PlsT (fun k => w.heap.size < k) x3 (some ⟨u0.heap.size, 0, none⟩) [kx, ox]) := Lib.hid (PlsT.keep Px2.out hb.size fun k hk hl => hb.block k hl (by omega))
                  clear hb hR hzl
                  refine hK.out _ _ ?hS75 (fun hHeld => ?_)
                  case hS75 => exact fun _ => SB.out _ Bx3.out
                  replace hHeld := hHeld (by decide)
                  clear hK K
                  try simp only [Act.put, List.setIfInBounds_toArray, List.set_cons_zero, List.set_cons_succ]
                  refine wpAnyG_ready (rs := [5]) (by kernel_rfl) (by simp) ?_
                  refine readyG rfl (fun K hK => ?_) AllReadyG.nil
                  go_simp
                  go_at_call 62
                  refine (randomCondition_ok b _ (wd + wd2) x3 Rx3.out (by have := Hq7.out; have := Hpl.out; omega)).mono ?_
                  rintro e x4 ⟨f, x, rfl, hx, hb, hR, hxn⟩
                  have HXN := Lib.hid hxn
                  clear hxn
                  have Bx4 := Lib.hid (Bx3.out.trans hb)
                  have Rx4 := Lib.hid hR
                  have Xx4 := Lib.hid (show ExT (fun k => w.heap.size < k) x4 f x from hx.mono fun k _ hk => by have h1 := (HSb.out _ Bx3.out).2.1.lt; omega)
                  unfold feV
                  have Px4 : Hid (PlsT (fun k => w.heap.size < k) x4 (some ⟨u0.heap.size, 0, none⟩) [kx, ox]) := Lib.hid (PlsT.keep Px3.out hb.size fun k hk hl => hb.block k hl (by omega))
                  clear hb hR hx
                  refine hK.out _ _ ?hS76 (fun hHeld => ?_)
                  case hS76 => exact fun _ => SB.out _ Bx4.out
                  replace hHeld := hHeld (by decide)
                  clear hK K
                  try simp only [Act.put, List.setIfInBounds_toArray, List.set_cons_zero, List.set_cons_succ]
                  refine wpAnyG_ready (rs := [6]) (by kernel_rfl) (by simp) ?_
                  refine readyG rfl (fun K hK => ?_) AllReadyG.nil
                  obtain ⟨x5, hx5⟩ : ∃ y, x4.alloc (.cells #[.int .i64 f.kind, .int .i64 f.col, .bool f.val.1, .int .i64 f.val.2, .slice f.sv.A f.sv.n f.sv.c] 66) = y := ⟨_, rfl⟩
                  have hb : Below x4.heap.size x4 x5 := by rw [← hx5]; exact balloc (Below.refl _ _) _
                  have Bx5 := Lib.hid (Bx4.out.below hb)
                  have Rx5 := Lib.hid (Rx4.out.on hb)
                  have hzl : w.heap.size < x4.heap.size := (HSb.out _ Bx4.out).2.1.lt
                  have Xx5 : Hid (ExT (fun k => w.heap.size < k) x5 f x) := Lib.hid (Xx4.out.keep hb.size fun k _ hl => hb.block k hl)
                  have Px5 : Hid (PlsT (fun k => w.heap.size < k) x5 (some ⟨u0.heap.size, 0, none⟩) [kx, ox]) := Lib.hid (PlsT.keep Px4.out hb.size fun k _ hl => hb.block k hl)
                  have y1 := exs_lit1 Xx4.out #[.int .i64 f.kind, .int .i64 f.col, .bool f.val.1, .int .i64 f.val.2, .slice f.sv.A f.sv.n f.sv.c] rfl hzl 66
                  rw [hx5] at y1
                  have Lx5 := Lib.hid y1
                  clear y1
                  go_simp
                  try rw [hx5]
                  have Hx5 := Lib.hid hx5
                  clear hx5 hb hzl
                  refine hK.out _ _ ?hS77 (fun hHeld => ?_)
                  case hS77 => exact fun _ => SB.out _ Bx5.out
                  replace hHeld := hHeld (by decide)
                  clear hK K
                  try simp only [Act.put, List.setIfInBounds_toArray, List.set_cons_zero, List.set_cons_succ]
                  refine takeG (i := 10) (v := ?v78) rfl (by kernel_rfl) (by kernel_rfl) (by kernel_rfl) (by kernel_rfl) (fun _ _ _ h => h) (Or.inl ⟨by rfl, ?hy78⟩) (by assumption) ?_
                  case hy78 => ((intro w' hSw; (try dsimp only at hSw); go_simp) <;> with_reducible rfl)
                  try simp only [Act.put, List.setIfInBounds_toArray, List.set_cons_zero, List.set_cons_succ]
                  refine wpAnyG_ready (rs := [11]) (by kernel_rfl) (by simp) ?_
                  refine readyG rfl (fun K hK => ?_) AllReadyG.nil
                  have rr := (HSb.out x5 Bx5.out).2.1
                  have hl := rr.lt
                  have c0 := rr.cell 0
                  have f0 := rr.frozen 0
                  have c1 := rr.cell 1
                  have f1 := rr.frozen 1
                  have c2 := rr.cell 2
                  have f2 := rr.frozen 2
                  have c3 := rr.cell 3
                  have f3 := rr.frozen 3
                  have c4 := rr.cell 4
                  have f4 := rr.frozen 4
                  clear rr
                  go_simp
                  refine hK.out _ _ ?hS79 (fun hHeld => ?_)
                  case hS79 => exact fun h => absurd rfl h
                  clear hK K
                  try simp only [Act.put, List.setIfInBounds_toArray, List.set_cons_zero, List.set_cons_succ]
                  refine wpAnyG_done (by kernel_rfl) ?_ _
                  go_wp2
                  refine bodyPost_ret (v := fpV ⟨ok, 0, ⟨some ⟨x4.heap.size, 0, none⟩, 1, 1⟩, ⟨none, 0, 0⟩, ⟨some ⟨u0.heap.size, 0, none⟩, 2, 2⟩⟩) (by simp [results, Try.results60, go_sem, fpV, c0, c1, c2, c3, c4]) rfl ?_
                  obtain ⟨_, _, _, _, pg, _, po⟩ := HSb.out _ Bx5.out
                  exact gotQ_of (PlT.make (k := ok) (t := 0) (cs := ⟨none, 0, 0⟩) (cols := []) (SVok.lit (n := 1) (by decide)) SVok.nil (SVok.lit (n := 2) (by decide)) Lx5.out SlS.nil Px5.out) (rootOk_lit (by simp) (by simp) rfl rfl) po (Rx5.out.mono (by have := Hq7.out; have := Hpl.out; omega)) pg HJ5.out.1 HJ5.out.2 hbg hgl _ _ _ _ _ rfl (by (try have h1 := HXN.out); (try have h2 := HZN.out); have h3 := HKN.out; (try have h4 := HON.out); (try have h6 := HEN.out); have h5 := HDD.out; (try simp only [plN, plsN, exN, exsN]); omega)
              · go_wp2
                go_meet
                exact ⟨j5, u5, HS12.out, HR12.out.mono (by omega), HJ5.out.1, HJ5.out.2⟩
            · have pg7 := HS7.out.2.2.2.2.1
              have hlg := pg7.lt
              have pc2 : w7.cell? ⟨gb, 2, none⟩ = some (.int .i64 j4) := pg7.cell 2
              clear pg7
              go_wp2
              go_meet
              exact ⟨j4, u4, HS7.out, HR7.out.mono (by have := Hq7.out; omega), HJ4.out.1, HJ4.out.2⟩
          · have pg7 := HS7.out.2.2.2.2.1
            have hlg := pg7.lt
            have pc2 : w7.cell? ⟨gb, 2, none⟩ = some (.int .i64 j4) := pg7.cell 2
            clear pg7
            go_wp2
            go_meet
            exact ⟨j4, u4, HS7.out, HR7.out.mono (by have := Hq7.out; omega), HJ4.out.1, HJ4.out.2⟩
        · by_cases hj0 : 0 < j4
          · by_cases hw4 : wd ≤ 4
            · obtain ⟨J', rfl⟩ : ∃ J', J = J' + 1 := ⟨J - 1, by have := HJ4.out; omega⟩
              have hJ0 : J' = 0 := by omega
              subst hJ0
              have hjw : IntKind.i64.wrap (j4 - 1) = j4 - 1 := IntWalk.i64_in _ (by have := HJ4.out; omega)
              have pg7 := HS7.out.2.2.2.2.1
              have hlg := pg7.lt
              have pc0 : w7.cell? ⟨gb, 0, none⟩ = some (.pointer (some ⟨b, 0, none⟩)) := pg7.cell 0
              have pc1 : w7.cell? ⟨gb, 1, none⟩ = some (.slice A ws.length c) := pg7.cell 1
              have pc2 : w7.cell? ⟨gb, 2, none⟩ = some (.int .i64 j4) := pg7.cell 2
              have pc3 : w7.cell? ⟨gb, 3, none⟩ = some (.int .i64 u4) := pg7.cell 3
              have pfr := pg7.frozen 2
              obtain ⟨w8, hw8⟩ : ∃ z, w7.setCell ⟨gb, 2, none⟩ (.int .i64 (j4 - 1)) = z := ⟨_, rfl⟩
              have hso : Only (fun i => i = b ∨ i = gb) w7 w8 := by rw [← hw8]; exact Only.set (p := ⟨gb, 2, none⟩) (Only.refl _) (.inl (.inr rfl)) _
              have HS8 := Lib.hid (HS7.out.both hso (show Row w8 gb 94 [.pointer (some ⟨b, 0, none⟩), .slice A ws.length c, .int .i64 (j4 - 1), .int .i64 (u4)] by rw [← hw8]; exact pg7.set 2 _))
              have HR8 := Lib.hid (show Rd w8 b q7 by rw [← hw8]; exact HR7.out.set (a := ⟨gb, 2, none⟩) (show b < gb from hbg) _)
              have HW8 := Lib.hid hw8
              clear hso pg7 hw8
              go_upto_region 24 with fail
              rw [HW8.out]
              clear pc0 pc1 pc2 pc3 pfr
              go_wp2_with fail
              refine (HP.out w8 _ 2 HR8.out (by have := Hq7.out; have := Hpl.out; omega)).mono ?_
              rintro e w9 ⟨k9, rfl, hk9, hb9, hsz9, hR9⟩
              have hs9 := HS8.out.but hb9
              have HS9' := Lib.hid hs9
              have hk90 := hk9.1
              have hk91 := hk9.2.1 (by omega)
              obtain ⟨dd, rfl⟩ := Int.eq_ofNat_of_zero_le hk90
              have hdd : dd ≤ 1 := by omega
              have hpc2 : plC 0 dd ≤ 1002 := by unfold plC; omega
              have IHj := Lib.hid (IHO.out 0 rfl dd hdd b gb (q7 + 1) A c ws (j4 - 1) u4 w9 hR9 hbg hs9.2.2.2.2.1 hs9.2.2.2.2.2.1 HWS.out.1 HWS.out.2 (by have := HJ4.out; omega) HJ4.out.2 (by have := Hq7.out; have := Hpl.out; omega))
              have Hpc2 := Lib.hid hpc2
              clear hk9 hb9 hsz9 hR9 hs9 hk90 hk91 hpc2
              go_wp2_with fail
              refine IHj.out.mono ?_
              rintro e w10 ⟨of, ox, j5, u5, rfl, hx10, _, ho10, hR10, hg10, hj5, hu5, hon⟩
              have HON := Lib.hid (And.intro (Nat.le_trans hon (plD_low hdd)) (show 3200 ≤ plD (0 + 1) d from plD_one d))
              clear hon
              unfold fpV
              obtain ⟨w11, hw11⟩ : ∃ z, w10.alloc (.cells #[.int .i64 of.kind, .int .i64 of.table, .slice of.es.A of.es.n of.es.c, .slice of.cs.A of.cs.n of.cs.c, .slice of.ks.A of.ks.n of.ks.c] 27) = z := ⟨_, rfl⟩
              obtain ⟨ob, hob⟩ : ∃ n, w10.heap.size = n := ⟨_, rfl⟩
              have b11 : Below w10.heap.size w10 w11 := by rw [← hw11]; exact balloc (Below.refl _ _) _
              have hrl9 : w.heap.size < w9.heap.size := HS9'.out.2.1.lt
              have hz10 := ho10.size
              have HS11 := Lib.hid ((HS9'.out.both ho10 hg10).on b11)
              have HQ11 := Lib.hid (show Row w11 ob 27 (fpC of) by rw [← hw11, ← hob]; exact Row.new _ _ _)
              have HT11 := Lib.hid ((hx10.mono (T := fun k => w.heap.size < k) fun k _ hk => by omega).keep b11.size fun k _ hl => b11.block k hl)
              have HR11 := Lib.hid ((hR10.on b11).mono (p' := q7 + 1 + 1002) (by have := Hpc2.out; omega))
              have HJ5 := Lib.hid (show (0 ≤ j5 ∧ j5 ≤ (0 + 1 : Nat)) ∧ (0 ≤ u5 ∧ u5 ≤ 1) from ⟨⟨hj5.1, by have := hj5.2; omega⟩, hu5⟩)
              have Hobn := Lib.hid (show w.heap.size < ob by omega)
              have HW11 := Lib.hid hw11
              have HOBe := Lib.hid hob
              obtain ⟨wd2, hwd2⟩ : ∃ R, plW ws 8 ox = R := ⟨_, rfl⟩
              have hwr2 : 0 ≤ wd2 ∧ wd2 ≤ 6 := by rw [← hwd2]; exact plW_range HWS.out.1 _ _
              have HPW2 := Lib.hid (fun z : Aft w11.heap.size w11 => planWidth_ok ox of ws A c 8 z.v wd2 (HT11.out.keep z.h.size fun k _ hl => z.h.block k hl).in_ HWS.out.1 (by have := HWS.out.2; unfold maxLen; omega) (HS11.out.on z.h).2.2.2.2.2.1.sl (by omega) hwd2)
              have e8 : ((8 : Nat) : Int) = 8 := rfl
              rw [e8] at HPW2
              unfold fpV at HPW2
              have q11 := HQ11.out
              have p11 := HS11.out.2.2.2.2.1
              have hlq := q11.lt
              have hlg := p11.lt
              have K0 := fun z : Aft w11.heap.size w11 => z.cell hlq (q11.cell 0)
              have K1 := fun z : Aft w11.heap.size w11 => z.cell hlq (q11.cell 1)
              have K2 := fun z : Aft w11.heap.size w11 => z.cell hlq (q11.cell 2)
              have K3 := fun z : Aft w11.heap.size w11 => z.cell hlq (q11.cell 3)
              have K4 := fun z : Aft w11.heap.size w11 => z.cell hlq (q11.cell 4)
              have G1 := fun z : Aft w11.heap.size w11 => z.cell hlg (p11.cell 1)
              clear hx10 ho10 hR10 hg10 hj5 hu5 hw11 hob b11 hrl9 hz10 hwd2 e8 q11 p11
              go_upto_region 25 with fail
              rw [HW11.out, HOBe.out]
              refine wp_region_aft w11.heap.size (by kernel_rfl) (by kernel_rfl) ?_
              repeat (go_big_quiet_step ((go_at_call 37; exact Calls.aft (Nat.le_refl _) (HPW2.out _))))
              refine wpQuiet_nil ?_
              intro w12 hw'
              obtain ⟨⟨_, hb12⟩, rfl⟩ := hw'
              have HS12 := Lib.hid (HS11.out.on hb12)
              have HR12 := Lib.hid (HR11.out.on hb12)
              have HQ12 := Lib.hid (HQ11.out.on hb12)
              have HT12 := Lib.hid (HT11.out.keep hb12.size fun k _ hl => hb12.block k hl)
              clear K0 K1 K2 K3 K4 G1 hb12 HPW2
              by_cases h6 : wd + wd2 ≤ 6
              · go_upto_region 27 with fail
                have HSb := Lib.hid (fun (z : World) (hz : But b w12 z) => HS12.out.but hz)
                have HOb := Lib.hid (fun (z : World) (hz : But b w12 z) => show Row z ob 27 (fpC of) ∧ PlT (fun k => w.heap.size < k) z of ox from ⟨HQ12.out.only hz (by have := Hobn.out; omega), HT12.out.keep hz.size fun k hk hl => hz.block k hl (by omega)⟩)
                have SB := Lib.hid (fun (z : World) (hz : But b w12 z) => show z.cell? ⟨kb, 0, none⟩ = some (.int .i64 kf.kind) ∧ z.cell? ⟨kb, 1, none⟩ = some (.int .i64 kf.table) ∧ z.cell? ⟨kb, 2, none⟩ = some (.slice kf.es.A kf.es.n kf.es.c) ∧ z.cell? ⟨kb, 3, none⟩ = some (.slice kf.cs.A kf.cs.n kf.cs.c) ∧ z.cell? ⟨kb, 4, none⟩ = some (.slice kf.ks.A kf.ks.n kf.ks.c) ∧ z.cell? ⟨ob, 0, none⟩ = some (.int .i64 of.kind) ∧ z.cell? ⟨ob, 1, none⟩ = some (.int .i64 of.table) ∧ z.cell? ⟨ob, 2, none⟩ = some (.slice of.es.A of.es.n of.es.c) ∧ z.cell? ⟨ob, 3, none⟩ = some (.slice of.cs.A of.cs.n of.cs.c) ∧ z.cell? ⟨ob, 4, none⟩ = some (.slice of.ks.A of.ks.n of.ks.c) from
                  have h := (HS12.out.but hz).2.2.1; have h' := (HOb.out z hz).1
                  ⟨h.cell 0, h.cell 1, h.cell 2, h.cell 3, h.cell 4, h'.cell 0, h'.cell 1, h'.cell 2, h'.cell 3, h'.cell 4⟩)
                obtain ⟨u0, hu0⟩ : ∃ z, w12.drew = z := ⟨_, rfl⟩
                have Bu0 := Lib.hid (show But b w12 u0 from hu0 ▸ (Only.refl _).drew)
                have Ru0 := Lib.hid (show Rd u0 b (q7 + 1 + 1002) from hu0 ▸ HR12.out.on (Below.refl _ _).drew)
                have Hu0 := Lib.hid hu0
                clear hu0
                refine wp_region_g 11 (fun z => z.cell? ⟨kb, 0, none⟩ = some (.int .i64 kf.kind) ∧ z.cell? ⟨kb, 1, none⟩ = some (.int .i64 kf.table) ∧ z.cell? ⟨kb, 2, none⟩ = some (.slice kf.es.A kf.es.n kf.es.c) ∧ z.cell? ⟨kb, 3, none⟩ = some (.slice kf.cs.A kf.cs.n kf.cs.c) ∧ z.cell? ⟨kb, 4, none⟩ = some (.slice kf.ks.A kf.ks.n kf.ks.c) ∧ z.cell? ⟨ob, 0, none⟩ = some (.int .i64 of.kind) ∧ z.cell? ⟨ob, 1, none⟩ = some (.int .i64 of.table) ∧ z.cell? ⟨ob, 2, none⟩ = some (.slice of.es.A of.es.n of.es.c) ∧ z.cell? ⟨ob, 3, none⟩ = some (.slice of.cs.A of.cs.n of.cs.c) ∧ z.cell? ⟨ob, 4, none⟩ = some (.slice of.ks.A of.ks.n of.ks.c)) (by kernel_rfl) ?_ (fun hHeld => ?_)
                · exact SB.out _ (Only.refl _).drew
                rw [Hu0.out] at hHeld ⊢
                refine takeG (i := 0) (v := ?v80) rfl (by kernel_rfl) (by kernel_rfl) (by kernel_rfl) (by kernel_rfl) (fun _ _ _ h => h) (Or.inl ⟨by rfl, ?hy80⟩) (by assumption) ?_
                case hy80 => ((intro w' hSw; (try dsimp only at hSw); go_simp) <;> with_reducible rfl)
                try simp only [Act.put, List.setIfInBounds_toArray, List.set_cons_zero, List.set_cons_succ]
                refine takeG (i := 3) (v := ?v81) rfl (by kernel_rfl) (by kernel_rfl) (by kernel_rfl) (by kernel_rfl) (fun _ _ _ h => h) (Or.inl ⟨by rfl, ?hy81⟩) (by assumption) ?_
                case hy81 => ((intro w' hSw; (try dsimp only at hSw); go_simp) <;> with_reducible rfl)
                try simp only [Act.put, List.setIfInBounds_toArray, List.set_cons_zero, List.set_cons_succ]
                refine takeG (i := 4) (v := ?v82) rfl (by kernel_rfl) (by kernel_rfl) (by kernel_rfl) (by kernel_rfl) (fun _ _ _ h => h) (Or.inl ⟨by rfl, ?hy82⟩) (by assumption) ?_
                case hy82 => ((intro w' hSw; (try dsimp only at hSw); go_simp) <;> with_reducible rfl)
                try simp only [Act.put, List.setIfInBounds_toArray, List.set_cons_zero, List.set_cons_succ]
                refine takeG (i := 7) (v := ?v83) rfl (by kernel_rfl) (by kernel_rfl) (by kernel_rfl) (by kernel_rfl) (fun _ _ _ h => h) (Or.inl ⟨by rfl, ?hy83⟩) (by assumption) ?_
                case hy83 => ((intro w' hSw; (try dsimp only at hSw); go_simp) <;> with_reducible rfl)
                try simp only [Act.put, List.setIfInBounds_toArray, List.set_cons_zero, List.set_cons_succ]
                refine takeG (i := 8) (v := ?v84) rfl (by kernel_rfl) (by kernel_rfl) (by kernel_rfl) (by kernel_rfl) (fun _ _ _ h => h) (Or.inl ⟨by rfl, ?hy84⟩) (by assumption) ?_
                case hy84 => ((intro w' hSw; (try dsimp only at hSw); go_simp) <;> with_reducible rfl)
                try simp only [Act.put, List.setIfInBounds_toArray, List.set_cons_zero, List.set_cons_succ]
                refine wpAnyG_ready (rs := [1, 9]) (by kernel_rfl) (by simp) ?_
                refine readyG rfl (fun K hK => ?_) (readyG rfl (fun K hK => ?_) AllReadyG.nil)
                · skip
                  obtain ⟨x1, hx1⟩ : ∃ y, u0.alloc (.cells #[.int .i64 4, .int .i64 5] 3) = y := ⟨_, rfl⟩
                  have hb : Below u0.heap.size u0 x1 := by rw [← hx1]; exact balloc (Below.refl _ _) _
                  have Bx1 := Lib.hid (Bu0.out.below hb)
                  have Rx1 := Lib.hid (Ru0.out.on hb)
                  have hzl : w.heap.size < u0.heap.size := (HSb.out _ Bu0.out).2.1.lt
                  have Jx1 := Lib.hid (show Sl 1 intC x1 x1.heap.size (some ⟨u0.heap.size, 0, none⟩) [4, 5] by rw [← hx1]; exact Row.sl' (t := 3) intC_length ((Row.new _ _ _).of rfl))
                  have Mx1 := Lib.hid (show u0.heap.size ≠ b by omega)
                  go_simp
                  try rw [hx1]
                  have Hx1 := Lib.hid hx1
                  clear hx1 hb hzl
                  refine hK.out _ _ ?hS85 (fun hHeld => ?_)
                  case hS85 => exact fun _ => SB.out _ Bx1.out
                  replace hHeld := hHeld (by decide)
                  clear hK K
                  try simp only [Act.put, List.setIfInBounds_toArray, List.set_cons_zero, List.set_cons_succ]
                  refine wpAnyG_ready (rs := [2, 9]) (by kernel_rfl) (by simp) ?_
                  refine readyG rfl (fun K hK => ?_) (readyG rfl (fun K hK => ?_) AllReadyG.nil)
                  · skip
                    go_simp
                    go_at_call 29
                    refine (one_ok b _ (some ⟨u0.heap.size, 0, none⟩) 2 [4, 5] x1 Rx1.out (by have := Hq7.out; have := Hpl.out; omega) (by simp) (by simp) Jx1.out (by rintro a ha; cases ha; exact Mx1.out)).mono ?_
                    rintro e x2 ⟨ok, rfl, _, hb, _, hR⟩
                    have Bx2 := Lib.hid (Bx1.out.trans hb)
                    have Rx2 := Lib.hid hR
                    have hzl : w.heap.size < x1.heap.size := (HSb.out _ Bx1.out).2.1.lt
                    clear hb hR hzl
                    refine hK.out _ _ ?hS86 (fun hHeld => ?_)
                    case hS86 => exact fun _ => SB.out _ Bx2.out
                    replace hHeld := hHeld (by decide)
                    clear hK K
                    try simp only [Act.put, List.setIfInBounds_toArray, List.set_cons_zero, List.set_cons_succ]
                    refine wpAnyG_ready (rs := [5, 9]) (by kernel_rfl) (by simp) ?_
                    refine readyG rfl (fun K hK => ?_) (readyG rfl (fun K hK => ?_) AllReadyG.nil)
                    · skip
                      go_simp
                      go_at_call 62
                      refine (randomCondition_ok b _ (wd + wd2) x2 Rx2.out (by have := Hq7.out; have := Hpl.out; omega)).mono ?_
                      rintro e x3 ⟨f, x, rfl, hx, hb, hR, hxn⟩
                      have HXN := Lib.hid hxn
                      clear hxn
                      have Bx3 := Lib.hid (Bx2.out.trans hb)
                      have Rx3 := Lib.hid hR
                      have Xx3 := Lib.hid (show ExT (fun k => w.heap.size < k) x3 f x from hx.mono fun k _ hk => by have h1 := (HSb.out _ Bx2.out).2.1.lt; omega)
                      unfold feV
                      clear hb hR hx
                      refine hK.out _ _ ?hS87 (fun hHeld => ?_)
                      case hS87 => exact fun _ => SB.out _ Bx3.out
                      replace hHeld := hHeld (by decide)
                      clear hK K
                      try simp only [Act.put, List.setIfInBounds_toArray, List.set_cons_zero, List.set_cons_succ]
                      refine wpAnyG_ready (rs := [6, 9]) (by kernel_rfl) (by simp) ?_
                      refine readyG rfl (fun K hK => ?_) (readyG rfl (fun K hK => ?_) AllReadyG.nil)
                      · skip
                        obtain ⟨x4, hx4⟩ : ∃ y, x3.alloc (.cells #[.int .i64 f.kind, .int .i64 f.col, .bool f.val.1, .int .i64 f.val.2, .slice f.sv.A f.sv.n f.sv.c] 66) = y := ⟨_, rfl⟩
                        have hb : Below x3.heap.size x3 x4 := by rw [← hx4]; exact balloc (Below.refl _ _) _
                        have Bx4 := Lib.hid (Bx3.out.below hb)
                        have Rx4 := Lib.hid (Rx3.out.on hb)
                        have hzl : w.heap.size < x3.heap.size := (HSb.out _ Bx3.out).2.1.lt
                        have Xx4 : Hid (ExT (fun k => w.heap.size < k) x4 f x) := Lib.hid (Xx3.out.keep hb.size fun k _ hl => hb.block k hl)
                        have y1 := exs_lit1 Xx3.out #[.int .i64 f.kind, .int .i64 f.col, .bool f.val.1, .int .i64 f.val.2, .slice f.sv.A f.sv.n f.sv.c] rfl hzl 66
                        rw [hx4] at y1
                        have Lx4 := Lib.hid y1
                        clear y1
                        go_simp
                        try rw [hx4]
                        have Hx4 := Lib.hid hx4
                        clear hx4 hb hzl
                        refine hK.out _ _ ?hS88 (fun hHeld => ?_)
                        case hS88 => exact fun _ => SB.out _ Bx4.out
                        replace hHeld := hHeld (by decide)
                        clear hK K
                        try simp only [Act.put, List.setIfInBounds_toArray, List.set_cons_zero, List.set_cons_succ]
                        refine wpAnyG_ready (rs := [9]) (by kernel_rfl) (by simp) ?_
                        refine readyG rfl (fun K hK => ?_) AllReadyG.nil
                        obtain ⟨x5, hx5⟩ : ∃ y, x4.alloc (.cells #[.int .i64 kf.kind, .int .i64 kf.table, .slice kf.es.A kf.es.n kf.es.c, .slice kf.cs.A kf.cs.n kf.cs.c, .slice kf.ks.A kf.ks.n kf.ks.c, .int .i64 of.kind, .int .i64 of.table, .slice of.es.A of.es.n of.es.c, .slice of.cs.A of.cs.n of.cs.c, .slice of.ks.A of.ks.n of.ks.c] 27) = y := ⟨_, rfl⟩
                        have hb : Below x4.heap.size x4 x5 := by rw [← hx5]; exact balloc (Below.refl _ _) _
                        have Bx5 := Lib.hid (Bx4.out.below hb)
                        have Rx5 := Lib.hid (Rx4.out.on hb)
                        have hzl : w.heap.size < x4.heap.size := (HSb.out _ Bx4.out).2.1.lt
                        have Lx5 : Hid (ExsT (fun k => w.heap.size < k) x5 (some ⟨x3.heap.size, 0, none⟩) [x]) := Lib.hid (Lx4.out.keep hb.size fun k _ hl => hb.block k hl)
                        have y1 := pls_lit2 (HSb.out _ Bx4.out).kid (HOb.out _ Bx4.out).2 #[.int .i64 kf.kind, .int .i64 kf.table, .slice kf.es.A kf.es.n kf.es.c, .slice kf.cs.A kf.cs.n kf.cs.c, .slice kf.ks.A kf.ks.n kf.ks.c, .int .i64 of.kind, .int .i64 of.table, .slice of.es.A of.es.n of.es.c, .slice of.cs.A of.cs.n of.cs.c, .slice of.ks.A of.ks.n of.ks.c] rfl hzl 27
                        rw [hx5] at y1
                        have Px5 := Lib.hid y1
                        clear y1
                        go_simp
                        try rw [hx5]
                        have Hx5 := Lib.hid hx5
                        clear hx5 hb hzl
                        refine hK.out _ _ ?hS89 (fun hHeld => ?_)
                        case hS89 => exact fun _ => SB.out _ Bx5.out
                        replace hHeld := hHeld (by decide)
                        clear hK K
                        try simp only [Act.put, List.setIfInBounds_toArray, List.set_cons_zero, List.set_cons_succ]
                        refine takeG (i := 10) (v := ?v90) rfl (by kernel_rfl) (by kernel_rfl) (by kernel_rfl) (by kernel_rfl) (fun _ _ _ h => h) (Or.inl ⟨by rfl, ?hy90⟩) (by assumption) ?_
                        case hy90 => ((intro w' hSw; (try dsimp only at hSw); go_simp) <;> with_reducible rfl)
                        try simp only [Act.put, List.setIfInBounds_toArray, List.set_cons_zero, List.set_cons_succ]
                        refine wpAnyG_ready (rs := [11]) (by kernel_rfl) (by simp) ?_
                        refine readyG rfl (fun K hK => ?_) AllReadyG.nil
                        have rr := (HSb.out x5 Bx5.out).2.1
                        have hl := rr.lt
                        have c0 := rr.cell 0
                        have f0 := rr.frozen 0
                        have c1 := rr.cell 1
                        have f1 := rr.frozen 1
                        have c2 := rr.cell 2
                        have f2 := rr.frozen 2
                        have c3 := rr.cell 3
                        have f3 := rr.frozen 3
                        have c4 := rr.cell 4
                        have f4 := rr.frozen 4
                        clear rr
                        go_simp
                        refine hK.out _ _ ?hS91 (fun hHeld => ?_)
                        case hS91 => exact fun h => absurd rfl h
                        clear hK K
                        try simp only [Act.put, List.setIfInBounds_toArray, List.set_cons_zero, List.set_cons_succ]
                        refine wpAnyG_done (by kernel_rfl) ?_ _
                        go_wp2
                        refine bodyPost_ret (v := fpV ⟨ok, 0, ⟨some ⟨x3.heap.size, 0, none⟩, 1, 1⟩, ⟨none, 0, 0⟩, ⟨some ⟨x4.heap.size, 0, none⟩, 2, 2⟩⟩) (by simp [results, Try.results60, go_sem, fpV, c0, c1, c2, c3, c4]) rfl ?_
                        obtain ⟨_, _, _, _, pg, _, po⟩ := HSb.out _ Bx5.out
                        exact gotQ_of (PlT.make (k := ok) (t := 0) (cs := ⟨none, 0, 0⟩) (cols := []) (SVok.lit (n := 1) (by decide)) SVok.nil (SVok.lit (n := 2) (by decide)) Lx5.out SlS.nil Px5.out) (rootOk_lit (by simp) (by simp) rfl rfl) po (Rx5.out.mono (by have := Hq7.out; have := Hpl.out; omega)) pg HJ5.out.1 HJ5.out.2 hbg hgl _ _ _ _ _ rfl (by (try have h1 := HXN.out); (try have h2 := HZN.out); have h3 := HKN.out; (try have h4 := HON.out); (try have h6 := HEN.out); have h5 := HDD.out; (try simp only [plN, plsN, exN, exsN]); omega)
                      · skip
                        obtain ⟨x4, hx4⟩ : ∃ y, x3.alloc (.cells #[.int .i64 kf.kind, .int .i64 kf.table, .slice kf.es.A kf.es.n kf.es.c, .slice kf.cs.A kf.cs.n kf.cs.c, .slice kf.ks.A kf.ks.n kf.ks.c, .int .i64 of.kind, .int .i64 of.table, .slice of.es.A of.es.n of.es.c, .slice of.cs.A of.cs.n of.cs.c, .slice of.ks.A of.ks.n of.ks.c] 27) = y := ⟨_, rfl⟩
                        have hb : Below x3.heap.size x3 x4 := by rw [← hx4]; exact balloc (Below.refl _ _) _
                        have Bx4 := Lib.hid (Bx3.out.below hb)
                        have Rx4 := Lib.hid (Rx3.out.on hb)
                        have hzl : w.heap.size < x3.heap.size := (HSb.out _ Bx3.out).2.1.lt
                        have Xx4 : Hid (ExT (fun k => w.heap.size < k) x4 f x) := Lib.hid (Xx3.out.keep hb.size fun k _ hl => hb.block k hl)
                        have y1 := pls_lit2 (HSb.out _ Bx3.out).kid (HOb.out _ Bx3.out).2 #[.int .i64 kf.kind, .int .i64 kf.table, .slice kf.es.A kf.es.n kf.es.c, .slice kf.cs.A kf.cs.n kf.cs.c, .slice kf.ks.A kf.ks.n kf.ks.c, .int .i64 of.kind, .int .i64 of.table, .slice of.es.A of.es.n of.es.c, .slice of.cs.A of.cs.n of.cs.c, .slice of.ks.A of.ks.n of.ks.c] rfl hzl 27
                        rw [hx4] at y1
                        have Px4 := Lib.hid y1
                        clear y1
                        go_simp
                        try rw [hx4]
                        have Hx4 := Lib.hid hx4
                        clear hx4 hb hzl
                        refine hK.out _ _ ?hS92 (fun hHeld => ?_)
                        case hS92 => exact fun _ => SB.out _ Bx4.out
                        replace hHeld := hHeld (by decide)
                        clear hK K
                        try simp only [Act.put, List.setIfInBounds_toArray, List.set_cons_zero, List.set_cons_succ]
                        refine wpAnyG_ready (rs := [6]) (by kernel_rfl) (by simp) ?_
                        refine readyG rfl (fun K hK => ?_) AllReadyG.nil
                        obtain ⟨x5, hx5⟩ : ∃ y, x4.alloc (.cells #[.int .i64 f.kind, .int .i64 f.col, .bool f.val.1, .int .i64 f.val.2, .slice f.sv.A f.sv.n f.sv.c] 66) = y := ⟨_, rfl⟩
                        have hb : Below x4.heap.size x4 x5 := by rw [← hx5]; exact balloc (Below.refl _ _) _
                        have Bx5 := Lib.hid (Bx4.out.below hb)
                        have Rx5 := Lib.hid (Rx4.out.on hb)
                        have hzl : w.heap.size < x4.heap.size := (HSb.out _ Bx4.out).2.1.lt
                        have Xx5 : Hid (ExT (fun k => w.heap.size < k) x5 f x) := Lib.hid (Xx4.out.keep hb.size fun k _ hl => hb.block k hl)
                        have Px5 : Hid (PlsT (fun k => w.heap.size < k) x5 (some ⟨x3.heap.size, 0, none⟩) [kx, ox]) := Lib.hid (PlsT.keep Px4.out hb.size fun k _ hl => hb.block k hl)
                        have y1 := exs_lit1 Xx4.out #[.int .i64 f.kind, .int .i64 f.col, .bool f.val.1, .int .i64 f.val.2, .slice f.sv.A f.sv.n f.sv.c] rfl hzl 66
                        rw [hx5] at y1
                        have Lx5 := Lib.hid y1
                        clear y1
                        go_simp
                        try rw [hx5]
                        have Hx5 := Lib.hid hx5
                        clear hx5 hb hzl
                        refine hK.out _ _ ?hS93 (fun hHeld => ?_)
                        case hS93 => exact fun _ => SB.out _ Bx5.out
                        replace hHeld := hHeld (by decide)
                        clear hK K
                        try simp only [Act.put, List.setIfInBounds_toArray, List.set_cons_zero, List.set_cons_succ]
                        refine takeG (i := 10) (v := ?v94) rfl (by kernel_rfl) (by kernel_rfl) (by kernel_rfl) (by kernel_rfl) (fun _ _ _ h => h) (Or.inl ⟨by rfl, ?hy94⟩) (by assumption) ?_
                        case hy94 => ((intro w' hSw; (try dsimp only at hSw); go_simp) <;> with_reducible rfl)
                        try simp only [Act.put, List.setIfInBounds_toArray, List.set_cons_zero, List.set_cons_succ]
                        refine wpAnyG_ready (rs := [11]) (by kernel_rfl) (by simp) ?_
                        refine readyG rfl (fun K hK => ?_) AllReadyG.nil
                        have rr := (HSb.out x5 Bx5.out).2.1
                        have hl := rr.lt
                        have c0 := rr.cell 0
                        have f0 := rr.frozen 0
                        have c1 := rr.cell 1
                        have f1 := rr.frozen 1
                        have c2 := rr.cell 2
                        have f2 := rr.frozen 2
                        have c3 := rr.cell 3
                        have f3 := rr.frozen 3
                        have c4 := rr.cell 4
                        have f4 := rr.frozen 4
                        clear rr
                        go_simp
                        refine hK.out _ _ ?hS95 (fun hHeld => ?_)
                        case hS95 => exact fun h => absurd rfl h
                        clear hK K
                        try simp only [Act.put, List.setIfInBounds_toArray, List.set_cons_zero, List.set_cons_succ]
                        refine wpAnyG_done (by kernel_rfl) ?_ _
                        go_wp2
                        refine bodyPost_ret (v := fpV ⟨ok, 0, ⟨some ⟨x4.heap.size, 0, none⟩, 1, 1⟩, ⟨none, 0, 0⟩, ⟨some ⟨x3.heap.size, 0, none⟩, 2, 2⟩⟩) (by simp [results, Try.results60, go_sem, fpV, c0, c1, c2, c3, c4]) rfl ?_
                        obtain ⟨_, _, _, _, pg, _, po⟩ := HSb.out _ Bx5.out
                        exact gotQ_of (PlT.make (k := ok) (t := 0) (cs := ⟨none, 0, 0⟩) (cols := []) (SVok.lit (n := 1) (by decide)) SVok.nil (SVok.lit (n := 2) (by decide)) Lx5.out SlS.nil Px5.out) (rootOk_lit (by simp) (by simp) rfl rfl) po (Rx5.out.mono (by have := Hq7.out; have := Hpl.out; omega)) pg HJ5.out.1 HJ5.out.2 hbg hgl _ _ _ _ _ rfl (by (try have h1 := HXN.out); (try have h2 := HZN.out); have h3 := HKN.out; (try have h4 := HON.out); (try have h6 := HEN.out); have h5 := HDD.out; (try simp only [plN, plsN, exN, exsN]); omega)
                    · skip
                      obtain ⟨x3, hx3⟩ : ∃ y, x2.alloc (.cells #[.int .i64 kf.kind, .int .i64 kf.table, .slice kf.es.A kf.es.n kf.es.c, .slice kf.cs.A kf.cs.n kf.cs.c, .slice kf.ks.A kf.ks.n kf.ks.c, .int .i64 of.kind, .int .i64 of.table, .slice of.es.A of.es.n of.es.c, .slice of.cs.A of.cs.n of.cs.c, .slice of.ks.A of.ks.n of.ks.c] 27) = y := ⟨_, rfl⟩
                      have hb : Below x2.heap.size x2 x3 := by rw [← hx3]; exact balloc (Below.refl _ _) _
                      have Bx3 := Lib.hid (Bx2.out.below hb)
                      have Rx3 := Lib.hid (Rx2.out.on hb)
                      have hzl : w.heap.size < x2.heap.size := (HSb.out _ Bx2.out).2.1.lt
                      have y1 := pls_lit2 (HSb.out _ Bx2.out).kid (HOb.out _ Bx2.out).2 #[.int .i64 kf.kind, .int .i64 kf.table, .slice kf.es.A kf.es.n kf.es.c, .slice kf.cs.A kf.cs.n kf.cs.c, .slice kf.ks.A kf.ks.n kf.ks.c, .int .i64 of.kind, .int .i64 of.table, .slice of.es.A of.es.n of.es.c, .slice of.cs.A of.cs.n of.cs.c, .slice of.ks.A of.ks.n of.ks.c] rfl hzl 27
                      rw [hx3] at y1
                      have Px3 := Lib.hid y1
                      clear y1
                      go_simp
                      try rw [hx3]
                      have Hx3 := Lib.hid hx3
                      clear hx3 hb hzl
                      refine hK.out _ _ ?hS96 (fun hHeld => ?_)
                      case hS96 => exact fun _ => SB.out _ Bx3.out
                      replace hHeld := hHeld (by decide)
                      clear hK K
                      try simp only [Act.put, List.setIfInBounds_toArray, List.set_cons_zero, List.set_cons_succ]
                      refine wpAnyG_ready (rs := [5]) (by kernel_rfl) (by simp) ?_
                      refine readyG rfl (fun K hK => ?_) AllReadyG.nil
                      go_simp
                      go_at_call 62
                      refine (randomCondition_ok b _ (wd + wd2) x3 Rx3.out (by have := Hq7.out; have := Hpl.out; omega)).mono ?_
                      rintro e x4 ⟨f, x, rfl, hx, hb, hR, hxn⟩
                      have HXN := Lib.hid hxn
                      clear hxn
                      have Bx4 := Lib.hid (Bx3.out.trans hb)
                      have Rx4 := Lib.hid hR
                      have Xx4 := Lib.hid (show ExT (fun k => w.heap.size < k) x4 f x from hx.mono fun k _ hk => by have h1 := (HSb.out _ Bx3.out).2.1.lt; omega)
                      unfold feV
                      have Px4 : Hid (PlsT (fun k => w.heap.size < k) x4 (some ⟨x2.heap.size, 0, none⟩) [kx, ox]) := Lib.hid (PlsT.keep Px3.out hb.size fun k hk hl => hb.block k hl (by omega))
                      clear hb hR hx
                      refine hK.out _ _ ?hS97 (fun hHeld => ?_)
                      case hS97 => exact fun _ => SB.out _ Bx4.out
                      replace hHeld := hHeld (by decide)
                      clear hK K
                      try simp only [Act.put, List.setIfInBounds_toArray, List.set_cons_zero, List.set_cons_succ]
                      refine wpAnyG_ready (rs := [6]) (by kernel_rfl) (by simp) ?_
                      refine readyG rfl (fun K hK => ?_) AllReadyG.nil
                      obtain ⟨x5, hx5⟩ : ∃ y, x4.alloc (.cells #[.int .i64 f.kind, .int .i64 f.col, .bool f.val.1, .int .i64 f.val.2, .slice f.sv.A f.sv.n f.sv.c] 66) = y := ⟨_, rfl⟩
                      have hb : Below x4.heap.size x4 x5 := by rw [← hx5]; exact balloc (Below.refl _ _) _
                      have Bx5 := Lib.hid (Bx4.out.below hb)
                      have Rx5 := Lib.hid (Rx4.out.on hb)
                      have hzl : w.heap.size < x4.heap.size := (HSb.out _ Bx4.out).2.1.lt
                      have Xx5 : Hid (ExT (fun k => w.heap.size < k) x5 f x) := Lib.hid (Xx4.out.keep hb.size fun k _ hl => hb.block k hl)
                      have Px5 : Hid (PlsT (fun k => w.heap.size < k) x5 (some ⟨x2.heap.size, 0, none⟩) [kx, ox]) := Lib.hid (PlsT.keep Px4.out hb.size fun k _ hl => hb.block k hl)
                      have y1 := exs_lit1 Xx4.out #[.int .i64 f.kind, .int .i64 f.col, .bool f.val.1, .int .i64 f.val.2, .slice f.sv.A f.sv.n f.sv.c] rfl hzl 66
                      rw [hx5] at y1
                      have Lx5 := Lib.hid y1
                      clear y1
                      go_simp
                      try rw [hx5]
                      have Hx5 := Lib.hid hx5
                      clear hx5 hb hzl
                      refine hK.out _ _ ?hS98 (fun hHeld => ?_)
                      case hS98 => exact fun _ => SB.out _ Bx5.out
                      replace hHeld := hHeld (by decide)
                      clear hK K
                      try simp only [Act.put, List.setIfInBounds_toArray, List.set_cons_zero, List.set_cons_succ]
                      refine takeG (i := 10) (v := ?v99) rfl (by kernel_rfl) (by kernel_rfl) (by kernel_rfl) (by kernel_rfl) (fun _ _ _ h => h) (Or.inl ⟨by rfl, ?hy99⟩) (by assumption) ?_
                      case hy99 => ((intro w' hSw; (try dsimp only at hSw); go_simp) <;> with_reducible rfl)
                      try simp only [Act.put, List.setIfInBounds_toArray, List.set_cons_zero, List.set_cons_succ]
                      refine wpAnyG_ready (rs := [11]) (by kernel_rfl) (by simp) ?_
                      refine readyG rfl (fun K hK => ?_) AllReadyG.nil
                      have rr := (HSb.out x5 Bx5.out).2.1
                      have hl := rr.lt
                      have c0 := rr.cell 0
                      have f0 := rr.frozen 0
                      have c1 := rr.cell 1
                      have f1 := rr.frozen 1
                      have c2 := rr.cell 2
                      have f2 := rr.frozen 2
                      have c3 := rr.cell 3
                      have f3 := rr.frozen 3
                      have c4 := rr.cell 4
                      have f4 := rr.frozen 4
                      clear rr
                      go_simp
                      refine hK.out _ _ ?hS100 (fun hHeld => ?_)
                      case hS100 => exact fun h => absurd rfl h
                      clear hK K
                      try simp only [Act.put, List.setIfInBounds_toArray, List.set_cons_zero, List.set_cons_succ]
                      refine wpAnyG_done (by kernel_rfl) ?_ _
                      go_wp2
                      refine bodyPost_ret (v := fpV ⟨ok, 0, ⟨some ⟨x4.heap.size, 0, none⟩, 1, 1⟩, ⟨none, 0, 0⟩, ⟨some ⟨x2.heap.size, 0, none⟩, 2, 2⟩⟩) (by simp [results, Try.results60, go_sem, fpV, c0, c1, c2, c3, c4]) rfl ?_
                      obtain ⟨_, _, _, _, pg, _, po⟩ := HSb.out _ Bx5.out
                      exact gotQ_of (PlT.make (k := ok) (t := 0) (cs := ⟨none, 0, 0⟩) (cols := []) (SVok.lit (n := 1) (by decide)) SVok.nil (SVok.lit (n := 2) (by decide)) Lx5.out SlS.nil Px5.out) (rootOk_lit (by simp) (by simp) rfl rfl) po (Rx5.out.mono (by have := Hq7.out; have := Hpl.out; omega)) pg HJ5.out.1 HJ5.out.2 hbg hgl _ _ _ _ _ rfl (by (try have h1 := HXN.out); (try have h2 := HZN.out); have h3 := HKN.out; (try have h4 := HON.out); (try have h6 := HEN.out); have h5 := HDD.out; (try simp only [plN, plsN, exN, exsN]); omega)
                  · skip
                    obtain ⟨x2, hx2⟩ : ∃ y, x1.alloc (.cells #[.int .i64 kf.kind, .int .i64 kf.table, .slice kf.es.A kf.es.n kf.es.c, .slice kf.cs.A kf.cs.n kf.cs.c, .slice kf.ks.A kf.ks.n kf.ks.c, .int .i64 of.kind, .int .i64 of.table, .slice of.es.A of.es.n of.es.c, .slice of.cs.A of.cs.n of.cs.c, .slice of.ks.A of.ks.n of.ks.c] 27) = y := ⟨_, rfl⟩
                    have hb : Below x1.heap.size x1 x2 := by rw [← hx2]; exact balloc (Below.refl _ _) _
                    have Bx2 := Lib.hid (Bx1.out.below hb)
                    have Rx2 := Lib.hid (Rx1.out.on hb)
                    have hzl : w.heap.size < x1.heap.size := (HSb.out _ Bx1.out).2.1.lt
                    have y1 := pls_lit2 (HSb.out _ Bx1.out).kid (HOb.out _ Bx1.out).2 #[.int .i64 kf.kind, .int .i64 kf.table, .slice kf.es.A kf.es.n kf.es.c, .slice kf.cs.A kf.cs.n kf.cs.c, .slice kf.ks.A kf.ks.n kf.ks.c, .int .i64 of.kind, .int .i64 of.table, .slice of.es.A of.es.n of.es.c, .slice of.cs.A of.cs.n of.cs.c, .slice of.ks.A of.ks.n of.ks.c] rfl hzl 27
                    rw [hx2] at y1
                    have Px2 := Lib.hid y1
                    clear y1
                    have Jx2 := Lib.hid (Jx1.out.on hb)
                    go_simp
                    try rw [hx2]
                    have Hx2 := Lib.hid hx2
                    clear hx2 hb hzl
                    refine hK.out _ _ ?hS101 (fun hHeld => ?_)
                    case hS101 => exact fun _ => SB.out _ Bx2.out
                    replace hHeld := hHeld (by decide)
                    clear hK K
                    try simp only [Act.put, List.setIfInBounds_toArray, List.set_cons_zero, List.set_cons_succ]
                    refine wpAnyG_ready (rs := [2]) (by kernel_rfl) (by simp) ?_
                    refine readyG rfl (fun K hK => ?_) AllReadyG.nil
                    go_simp
                    go_at_call 29
                    refine (one_ok b _ (some ⟨u0.heap.size, 0, none⟩) 2 [4, 5] x2 Rx2.out (by have := Hq7.out; have := Hpl.out; omega) (by simp) (by simp) Jx2.out (by rintro a ha; cases ha; exact Mx1.out)).mono ?_
                    rintro e x3 ⟨ok, rfl, _, hb, _, hR⟩
                    have Bx3 := Lib.hid (Bx2.out.trans hb)
                    have Rx3 := Lib.hid hR
                    have hzl : w.heap.size < x2.heap.size := (HSb.out _ Bx2.out).2.1.lt
                    have Px3 : Hid (PlsT (fun k => w.heap.size < k) x3 (some ⟨x1.heap.size, 0, none⟩) [kx, ox]) := Lib.hid (PlsT.keep Px2.out hb.size fun k hk hl => hb.block k hl (by omega))
                    clear hb hR hzl
                    refine hK.out _ _ ?hS102 (fun hHeld => ?_)
                    case hS102 => exact fun _ => SB.out _ Bx3.out
                    replace hHeld := hHeld (by decide)
                    clear hK K
                    try simp only [Act.put, List.setIfInBounds_toArray, List.set_cons_zero, List.set_cons_succ]
                    refine wpAnyG_ready (rs := [5]) (by kernel_rfl) (by simp) ?_
                    refine readyG rfl (fun K hK => ?_) AllReadyG.nil
                    go_simp
                    go_at_call 62
                    refine (randomCondition_ok b _ (wd + wd2) x3 Rx3.out (by have := Hq7.out; have := Hpl.out; omega)).mono ?_
                    rintro e x4 ⟨f, x, rfl, hx, hb, hR, hxn⟩
                    have HXN := Lib.hid hxn
                    clear hxn
                    have Bx4 := Lib.hid (Bx3.out.trans hb)
                    have Rx4 := Lib.hid hR
                    have Xx4 := Lib.hid (show ExT (fun k => w.heap.size < k) x4 f x from hx.mono fun k _ hk => by have h1 := (HSb.out _ Bx3.out).2.1.lt; omega)
                    unfold feV
                    have Px4 : Hid (PlsT (fun k => w.heap.size < k) x4 (some ⟨x1.heap.size, 0, none⟩) [kx, ox]) := Lib.hid (PlsT.keep Px3.out hb.size fun k hk hl => hb.block k hl (by omega))
                    clear hb hR hx
                    refine hK.out _ _ ?hS103 (fun hHeld => ?_)
                    case hS103 => exact fun _ => SB.out _ Bx4.out
                    replace hHeld := hHeld (by decide)
                    clear hK K
                    try simp only [Act.put, List.setIfInBounds_toArray, List.set_cons_zero, List.set_cons_succ]
                    refine wpAnyG_ready (rs := [6]) (by kernel_rfl) (by simp) ?_
                    refine readyG rfl (fun K hK => ?_) AllReadyG.nil
                    obtain ⟨x5, hx5⟩ : ∃ y, x4.alloc (.cells #[.int .i64 f.kind, .int .i64 f.col, .bool f.val.1, .int .i64 f.val.2, .slice f.sv.A f.sv.n f.sv.c] 66) = y := ⟨_, rfl⟩
                    have hb : Below x4.heap.size x4 x5 := by rw [← hx5]; exact balloc (Below.refl _ _) _
                    have Bx5 := Lib.hid (Bx4.out.below hb)
                    have Rx5 := Lib.hid (Rx4.out.on hb)
                    have hzl : w.heap.size < x4.heap.size := (HSb.out _ Bx4.out).2.1.lt
                    have Xx5 : Hid (ExT (fun k => w.heap.size < k) x5 f x) := Lib.hid (Xx4.out.keep hb.size fun k _ hl => hb.block k hl)
                    have Px5 : Hid (PlsT (fun k => w.heap.size < k) x5 (some ⟨x1.heap.size, 0, none⟩) [kx, ox]) := Lib.hid (PlsT.keep Px4.out hb.size fun k _ hl => hb.block k hl)
                    have y1 := exs_lit1 Xx4.out #[.int .i64 f.kind, .int .i64 f.col, .bool f.val.1, .int .i64 f.val.2, .slice f.sv.A f.sv.n f.sv.c] rfl hzl 66
                    rw [hx5] at y1
                    have Lx5 := Lib.hid y1
                    clear y1
                    go_simp
                    try rw [hx5]
                    have Hx5 := Lib.hid hx5
                    clear hx5 hb hzl
                    refine hK.out _ _ ?hS104 (fun hHeld => ?_)
                    case hS104 => exact fun _ => SB.out _ Bx5.out
                    replace hHeld := hHeld (by decide)
                    clear hK K
                    try simp only [Act.put, List.setIfInBounds_toArray, List.set_cons_zero, List.set_cons_succ]
                    refine takeG (i := 10) (v := ?v105) rfl (by kernel_rfl) (by kernel_rfl) (by kernel_rfl) (by kernel_rfl) (fun _ _ _ h => h) (Or.inl ⟨by rfl, ?hy105⟩) (by assumption) ?_
                    case hy105 => ((intro w' hSw; (try dsimp only at hSw); go_simp) <;> with_reducible rfl)
                    try simp only [Act.put, List.setIfInBounds_toArray, List.set_cons_zero, List.set_cons_succ]
                    refine wpAnyG_ready (rs := [11]) (by kernel_rfl) (by simp) ?_
                    refine readyG rfl (fun K hK => ?_) AllReadyG.nil
                    have rr := (HSb.out x5 Bx5.out).2.1
                    have hl := rr.lt
                    have c0 := rr.cell 0
                    have f0 := rr.frozen 0
                    have c1 := rr.cell 1
                    have f1 := rr.frozen 1
                    have c2 := rr.cell 2
                    have f2 := rr.frozen 2
                    have c3 := rr.cell 3
                    have f3 := rr.frozen 3
                    have c4 := rr.cell 4
                    have f4 := rr.frozen 4
                    clear rr
                    go_simp
                    refine hK.out _ _ ?hS106 (fun hHeld => ?_)
                    case hS106 => exact fun h => absurd rfl h
                    clear hK K
                    try simp only [Act.put, List.setIfInBounds_toArray, List.set_cons_zero, List.set_cons_succ]
                    refine wpAnyG_done (by kernel_rfl) ?_ _
                    go_wp2
                    refine bodyPost_ret (v := fpV ⟨ok, 0, ⟨some ⟨x4.heap.size, 0, none⟩, 1, 1⟩, ⟨none, 0, 0⟩, ⟨some ⟨x1.heap.size, 0, none⟩, 2, 2⟩⟩) (by simp [results, Try.results60, go_sem, fpV, c0, c1, c2, c3, c4]) rfl ?_
                    obtain ⟨_, _, _, _, pg, _, po⟩ := HSb.out _ Bx5.out
                    exact gotQ_of (PlT.make (k := ok) (t := 0) (cs := ⟨none, 0, 0⟩) (cols := []) (SVok.lit (n := 1) (by decide)) SVok.nil (SVok.lit (n := 2) (by decide)) Lx5.out SlS.nil Px5.out) (rootOk_lit (by simp) (by simp) rfl rfl) po (Rx5.out.mono (by have := Hq7.out; have := Hpl.out; omega)) pg HJ5.out.1 HJ5.out.2 hbg hgl _ _ _ _ _ rfl (by (try have h1 := HXN.out); (try have h2 := HZN.out); have h3 := HKN.out; (try have h4 := HON.out); (try have h6 := HEN.out); have h5 := HDD.out; (try simp only [plN, plsN, exN, exsN]); omega)
                · skip
                  obtain ⟨x1, hx1⟩ : ∃ y, u0.alloc (.cells #[.int .i64 kf.kind, .int .i64 kf.table, .slice kf.es.A kf.es.n kf.es.c, .slice kf.cs.A kf.cs.n kf.cs.c, .slice kf.ks.A kf.ks.n kf.ks.c, .int .i64 of.kind, .int .i64 of.table, .slice of.es.A of.es.n of.es.c, .slice of.cs.A of.cs.n of.cs.c, .slice of.ks.A of.ks.n of.ks.c] 27) = y := ⟨_, rfl⟩
                  have hb : Below u0.heap.size u0 x1 := by rw [← hx1]; exact balloc (Below.refl _ _) _
                  have Bx1 := Lib.hid (Bu0.out.below hb)
                  have Rx1 := Lib.hid (Ru0.out.on hb)
                  have hzl : w.heap.size < u0.heap.size := (HSb.out _ Bu0.out).2.1.lt
                  have y1 := pls_lit2 (HSb.out _ Bu0.out).kid (HOb.out _ Bu0.out).2 #[.int .i64 kf.kind, .int .i64 kf.table, .slice kf.es.A kf.es.n kf.es.c, .slice kf.cs.A kf.cs.n kf.cs.c, .slice kf.ks.A kf.ks.n kf.ks.c, .int .i64 of.kind, .int .i64 of.table, .slice of.es.A of.es.n of.es.c, .slice of.cs.A of.cs.n of.cs.c, .slice of.ks.A of.ks.n of.ks.c] rfl hzl 27
                  rw [hx1] at y1
                  have Px1 := Lib.hid y1
                  clear y1
                  go_simp
                  try rw [hx1]
                  have Hx1 := Lib.hid hx1
                  clear hx1 hb hzl
                  refine hK.out _ _ ?hS107 (fun hHeld => ?_)
                  case hS107 => exact fun _ => SB.out _ Bx1.out
                  replace hHeld := hHeld (by decide)
                  clear hK K
                  try simp only [Act.put, List.setIfInBounds_toArray, List.set_cons_zero, List.set_cons_succ]
                  refine wpAnyG_ready (rs := [1]) (by kernel_rfl) (by simp) ?_
                  refine readyG rfl (fun K hK => ?_) AllReadyG.nil
                  obtain ⟨x2, hx2⟩ : ∃ y, x1.alloc (.cells #[.int .i64 4, .int .i64 5] 3) = y := ⟨_, rfl⟩
                  have hb : Below x1.heap.size x1 x2 := by rw [← hx2]; exact balloc (Below.refl _ _) _
                  have Bx2 := Lib.hid (Bx1.out.below hb)
                  have Rx2 := Lib.hid (Rx1.out.on hb)
                  have hzl : w.heap.size < x1.heap.size := (HSb.out _ Bx1.out).2.1.lt
                  have Px2 : Hid (PlsT (fun k => w.heap.size < k) x2 (some ⟨u0.heap.size, 0, none⟩) [kx, ox]) := Lib.hid (PlsT.keep Px1.out hb.size fun k _ hl => hb.block k hl)
                  have Jx2 := Lib.hid (show Sl 1 intC x2 x2.heap.size (some ⟨x1.heap.size, 0, none⟩) [4, 5] by rw [← hx2]; exact Row.sl' (t := 3) intC_length ((Row.new _ _ _).of rfl))
                  have Mx2 := Lib.hid (show x1.heap.size ≠ b by omega)
                  go_simp
                  try rw [hx2]
                  have Hx2 := Lib.hid hx2
                  clear hx2 hb hzl
                  refine hK.out _ _ ?hS108 (fun hHeld => ?_)
                  case hS108 => exact fun _ => SB.out _ Bx2.out
                  replace hHeld := hHeld (by decide)
                  clear hK K
                  try simp only [Act.put, List.setIfInBounds_toArray, List.set_cons_zero, List.set_cons_succ]
                  refine wpAnyG_ready (rs := [2]) (by kernel_rfl) (by simp) ?_
                  refine readyG rfl (fun K hK => ?_) AllReadyG.nil
                  go_simp
                  go_at_call 29
                  refine (one_ok b _ (some ⟨x1.heap.size, 0, none⟩) 2 [4, 5] x2 Rx2.out (by have := Hq7.out; have := Hpl.out; omega) (by simp) (by simp) Jx2.out (by rintro a ha; cases ha; exact Mx2.out)).mono ?_
                  rintro e x3 ⟨ok, rfl, _, hb, _, hR⟩
                  have Bx3 := Lib.hid (Bx2.out.trans hb)
                  have Rx3 := Lib.hid hR
                  have hzl : w.heap.size < x2.heap.size := (HSb.out _ Bx2.out).2.1.lt
                  have Px3 : Hid (PlsT (fun k => w.heap.size < k) x3 (some ⟨u0.heap.size, 0, none⟩) [kx, ox]) := Lib.hid (PlsT.keep Px2.out hb.size fun k hk hl => hb.block k hl (by omega))
                  clear hb hR hzl
                  refine hK.out _ _ ?hS109 (fun hHeld => ?_)
                  case hS109 => exact fun _ => SB.out _ Bx3.out
                  replace hHeld := hHeld (by decide)
                  clear hK K
                  try simp only [Act.put, List.setIfInBounds_toArray, List.set_cons_zero, List.set_cons_succ]
                  refine wpAnyG_ready (rs := [5]) (by kernel_rfl) (by simp) ?_
                  refine readyG rfl (fun K hK => ?_) AllReadyG.nil
                  go_simp
                  go_at_call 62
                  refine (randomCondition_ok b _ (wd + wd2) x3 Rx3.out (by have := Hq7.out; have := Hpl.out; omega)).mono ?_
                  rintro e x4 ⟨f, x, rfl, hx, hb, hR, hxn⟩
                  have HXN := Lib.hid hxn
                  clear hxn
                  have Bx4 := Lib.hid (Bx3.out.trans hb)
                  have Rx4 := Lib.hid hR
                  have Xx4 := Lib.hid (show ExT (fun k => w.heap.size < k) x4 f x from hx.mono fun k _ hk => by have h1 := (HSb.out _ Bx3.out).2.1.lt; omega)
                  unfold feV
                  have Px4 : Hid (PlsT (fun k => w.heap.size < k) x4 (some ⟨u0.heap.size, 0, none⟩) [kx, ox]) := Lib.hid (PlsT.keep Px3.out hb.size fun k hk hl => hb.block k hl (by omega))
                  clear hb hR hx
                  refine hK.out _ _ ?hS110 (fun hHeld => ?_)
                  case hS110 => exact fun _ => SB.out _ Bx4.out
                  replace hHeld := hHeld (by decide)
                  clear hK K
                  try simp only [Act.put, List.setIfInBounds_toArray, List.set_cons_zero, List.set_cons_succ]
                  refine wpAnyG_ready (rs := [6]) (by kernel_rfl) (by simp) ?_
                  refine readyG rfl (fun K hK => ?_) AllReadyG.nil
                  obtain ⟨x5, hx5⟩ : ∃ y, x4.alloc (.cells #[.int .i64 f.kind, .int .i64 f.col, .bool f.val.1, .int .i64 f.val.2, .slice f.sv.A f.sv.n f.sv.c] 66) = y := ⟨_, rfl⟩
                  have hb : Below x4.heap.size x4 x5 := by rw [← hx5]; exact balloc (Below.refl _ _) _
                  have Bx5 := Lib.hid (Bx4.out.below hb)
                  have Rx5 := Lib.hid (Rx4.out.on hb)
                  have hzl : w.heap.size < x4.heap.size := (HSb.out _ Bx4.out).2.1.lt
                  have Xx5 : Hid (ExT (fun k => w.heap.size < k) x5 f x) := Lib.hid (Xx4.out.keep hb.size fun k _ hl => hb.block k hl)
                  have Px5 : Hid (PlsT (fun k => w.heap.size < k) x5 (some ⟨u0.heap.size, 0, none⟩) [kx, ox]) := Lib.hid (PlsT.keep Px4.out hb.size fun k _ hl => hb.block k hl)
                  have y1 := exs_lit1 Xx4.out #[.int .i64 f.kind, .int .i64 f.col, .bool f.val.1, .int .i64 f.val.2, .slice f.sv.A f.sv.n f.sv.c] rfl hzl 66
                  rw [hx5] at y1
                  have Lx5 := Lib.hid y1
                  clear y1
                  go_simp
                  try rw [hx5]
                  have Hx5 := Lib.hid hx5
                  clear hx5 hb hzl
                  refine hK.out _ _ ?hS111 (fun hHeld => ?_)
                  case hS111 => exact fun _ => SB.out _ Bx5.out
                  replace hHeld := hHeld (by decide)
                  clear hK K
                  try simp only [Act.put, List.setIfInBounds_toArray, List.set_cons_zero, List.set_cons_succ]
                  refine takeG (i := 10) (v := ?v112) rfl (by kernel_rfl) (by kernel_rfl) (by kernel_rfl) (by kernel_rfl) (fun _ _ _ h => h) (Or.inl ⟨by rfl, ?hy112⟩) (by assumption) ?_
                  case hy112 => ((intro w' hSw; (try dsimp only at hSw); go_simp) <;> with_reducible rfl)
                  try simp only [Act.put, List.setIfInBounds_toArray, List.set_cons_zero, List.set_cons_succ]
                  refine wpAnyG_ready (rs := [11]) (by kernel_rfl) (by simp) ?_
                  refine readyG rfl (fun K hK => ?_) AllReadyG.nil
                  have rr := (HSb.out x5 Bx5.out).2.1
                  have hl := rr.lt
                  have c0 := rr.cell 0
                  have f0 := rr.frozen 0
                  have c1 := rr.cell 1
                  have f1 := rr.frozen 1
                  have c2 := rr.cell 2
                  have f2 := rr.frozen 2
                  have c3 := rr.cell 3
                  have f3 := rr.frozen 3
                  have c4 := rr.cell 4
                  have f4 := rr.frozen 4
                  clear rr
                  go_simp
                  refine hK.out _ _ ?hS113 (fun hHeld => ?_)
                  case hS113 => exact fun h => absurd rfl h
                  clear hK K
                  try simp only [Act.put, List.setIfInBounds_toArray, List.set_cons_zero, List.set_cons_succ]
                  refine wpAnyG_done (by kernel_rfl) ?_ _
                  go_wp2
                  refine bodyPost_ret (v := fpV ⟨ok, 0, ⟨some ⟨x4.heap.size, 0, none⟩, 1, 1⟩, ⟨none, 0, 0⟩, ⟨some ⟨u0.heap.size, 0, none⟩, 2, 2⟩⟩) (by simp [results, Try.results60, go_sem, fpV, c0, c1, c2, c3, c4]) rfl ?_
                  obtain ⟨_, _, _, _, pg, _, po⟩ := HSb.out _ Bx5.out
                  exact gotQ_of (PlT.make (k := ok) (t := 0) (cs := ⟨none, 0, 0⟩) (cols := []) (SVok.lit (n := 1) (by decide)) SVok.nil (SVok.lit (n := 2) (by decide)) Lx5.out SlS.nil Px5.out) (rootOk_lit (by simp) (by simp) rfl rfl) po (Rx5.out.mono (by have := Hq7.out; have := Hpl.out; omega)) pg HJ5.out.1 HJ5.out.2 hbg hgl _ _ _ _ _ rfl (by (try have h1 := HXN.out); (try have h2 := HZN.out); have h3 := HKN.out; (try have h4 := HON.out); (try have h6 := HEN.out); have h5 := HDD.out; (try simp only [plN, plsN, exN, exsN]); omega)
              · go_wp2
                go_meet
                exact ⟨j5, u5, HS12.out, HR12.out.mono (by omega), HJ5.out.1, HJ5.out.2⟩
            · have pg7 := HS7.out.2.2.2.2.1
              have hlg := pg7.lt
              have pc2 : w7.cell? ⟨gb, 2, none⟩ = some (.int .i64 j4) := pg7.cell 2
              clear pg7
              go_wp2
              go_meet
              exact ⟨j4, u4, HS7.out, HR7.out.mono (by have := Hq7.out; omega), HJ4.out.1, HJ4.out.2⟩
          · have pg7 := HS7.out.2.2.2.2.1
            have hlg := pg7.lt
            have pc2 : w7.cell? ⟨gb, 2, none⟩ = some (.int .i64 j4) := pg7.cell 2
            clear pg7
            go_wp2
            go_meet
            exact ⟨j4, u4, HS7.out, HR7.out.mono (by have := Hq7.out; omega), HJ4.out.1, HJ4.out.2⟩
        · by_cases hu0 : 0 < u4
          · have HJ8 := Lib.hid (show (0 ≤ j4 ∧ j4 ≤ J) ∧ (0 ≤ u4 - 1 ∧ u4 - 1 ≤ 1) by have := HJ4.out; omega)
            have huw : IntKind.i64.wrap (u4 - 1) = u4 - 1 := IntWalk.i64_in _ (by have := HJ4.out; omega)
            have pg7 := HS7.out.2.2.2.2.1
            have hlg := pg7.lt
            have pc0 : w7.cell? ⟨gb, 0, none⟩ = some (.pointer (some ⟨b, 0, none⟩)) := pg7.cell 0
            have pc1 : w7.cell? ⟨gb, 1, none⟩ = some (.slice A ws.length c) := pg7.cell 1
            have pc2 : w7.cell? ⟨gb, 2, none⟩ = some (.int .i64 j4) := pg7.cell 2
            have pc3 : w7.cell? ⟨gb, 3, none⟩ = some (.int .i64 u4) := pg7.cell 3
            have pfr := pg7.frozen 3
            obtain ⟨w8, hw8⟩ : ∃ z, w7.setCell ⟨gb, 3, none⟩ (.int .i64 (u4 - 1)) = z := ⟨_, rfl⟩
            have hso : Only (fun i => i = b ∨ i = gb) w7 w8 := by rw [← hw8]; exact Only.set (p := ⟨gb, 3, none⟩) (Only.refl _) (.inl (.inr rfl)) _
            have HS8 := Lib.hid (HS7.out.both hso (show Row w8 gb 94 [.pointer (some ⟨b, 0, none⟩), .slice A ws.length c, .int .i64 (j4), .int .i64 (u4 - 1)] by rw [← hw8]; exact pg7.set 3 _))
            have HR8 := Lib.hid (show Rd w8 b q7 by rw [← hw8]; exact HR7.out.set (a := ⟨gb, 3, none⟩) (show b < gb from hbg) _)
            have HW8 := Lib.hid hw8
            clear hso pg7 hw8
            go_upto_region 31 with fail
            rw [HW8.out]
            clear pc0 pc1 pc2 pc3 pfr
            have HSb := Lib.hid (fun (z : World) (hz : But b w8 z) => HS8.out.but hz)
            have Ru0 : Hid (Rd w8.drew b (q7)) := Lib.hid (HR8.out.on (Below.refl _ _).drew)
            have SB := Lib.hid (fun (z : World) (hz : But b w8 z) => show z.cell? ⟨kb, 0, none⟩ = some (.int .i64 kf.kind) ∧ z.cell? ⟨kb, 1, none⟩ = some (.int .i64 kf.table) ∧ z.cell? ⟨kb, 2, none⟩ = some (.slice kf.es.A kf.es.n kf.es.c) ∧ z.cell? ⟨kb, 3, none⟩ = some (.slice kf.cs.A kf.cs.n kf.cs.c) ∧ z.cell? ⟨kb, 4, none⟩ = some (.slice kf.ks.A kf.ks.n kf.ks.c) from
              have h := (HS8.out.but hz).2.2.1
              ⟨h.cell 0, h.cell 1, h.cell 2, h.cell 3, h.cell 4⟩)
            obtain ⟨u0, hu0⟩ : ∃ z, w8.drew = z := ⟨_, rfl⟩
            have Bu0 := Lib.hid (show But b w8 u0 from hu0 ▸ (Only.refl _).drew)
            have Hu0 := Lib.hid hu0
            clear hu0
            rw [Hu0.out] at Ru0
            refine wp_region_g 9 (fun z => z.cell? ⟨kb, 0, none⟩ = some (.int .i64 kf.kind) ∧ z.cell? ⟨kb, 1, none⟩ = some (.int .i64 kf.table) ∧ z.cell? ⟨kb, 2, none⟩ = some (.slice kf.es.A kf.es.n kf.es.c) ∧ z.cell? ⟨kb, 3, none⟩ = some (.slice kf.cs.A kf.cs.n kf.cs.c) ∧ z.cell? ⟨kb, 4, none⟩ = some (.slice kf.ks.A kf.ks.n kf.ks.c)) (by kernel_rfl) ?_ (fun hHeld => ?_)
            · exact SB.out _ (Only.refl _).drew
            rw [Hu0.out] at hHeld ⊢
            refine takeG (i := 0) (v := ?v36) rfl (by kernel_rfl) (by kernel_rfl) (by kernel_rfl) (by kernel_rfl) (fun _ _ _ h => h) (Or.inl ⟨by rfl, ?hy36⟩) (by assumption) ?_
            case hy36 => ((intro w' hSw; (try dsimp only at hSw); go_simp) <;> with_reducible rfl)
            try simp only [Act.put, List.setIfInBounds_toArray, List.set_cons_zero, List.set_cons_succ]
            refine takeG (i := 1) (v := ?v37) rfl (by kernel_rfl) (by kernel_rfl) (by kernel_rfl) (by kernel_rfl) (fun _ _ _ h => h) (Or.inl ⟨by rfl, ?hy37⟩) (by assumption) ?_
            case hy37 => ((intro w' hSw; (try dsimp only at hSw); go_simp) <;> with_reducible rfl)
            try simp only [Act.put, List.setIfInBounds_toArray, List.set_cons_zero, List.set_cons_succ]
            refine takeG (i := 2) (v := ?v38) rfl (by kernel_rfl) (by kernel_rfl) (by kernel_rfl) (by kernel_rfl) (fun _ _ _ h => h) (Or.inl ⟨by rfl, ?hy38⟩) (by assumption) ?_
            case hy38 => ((intro w' hSw; (try dsimp only at hSw); go_simp) <;> with_reducible rfl)
            try simp only [Act.put, List.setIfInBounds_toArray, List.set_cons_zero, List.set_cons_succ]
            refine takeG (i := 4) (v := ?v39) rfl (by kernel_rfl) (by kernel_rfl) (by kernel_rfl) (by kernel_rfl) (fun _ _ _ h => h) (Or.inl ⟨by rfl, ?hy39⟩) (by assumption) ?_
            case hy39 => ((intro w' hSw; (try dsimp only at hSw); go_simp) <;> with_reducible rfl)
            try simp only [Act.put, List.setIfInBounds_toArray, List.set_cons_zero, List.set_cons_succ]
            refine wpAnyG_ready (rs := [3]) (by kernel_rfl) (by simp) ?_
            refine readyG rfl (fun K hK => ?_) AllReadyG.nil
            go_simp
            go_at_call 62
            refine (randomCondition_ok b _ wd u0 Ru0.out (by have := Hq7.out; have := Hpl.out; omega)).mono ?_
            rintro e x1 ⟨f, x, rfl, hx, hb, hR, hxn⟩
            have HXN := Lib.hid hxn
            clear hxn
            have Bx1 := Lib.hid (Bu0.out.trans hb)
            have Rx1 := Lib.hid hR
            have Xx1 := Lib.hid (show ExT (fun k => w.heap.size < k) x1 f x from hx.mono fun k _ hk => by have h1 := (HSb.out _ Bu0.out).2.1.lt; omega)
            unfold feV
            clear hb hR hx
            refine hK.out _ _ ?hS40 (fun hHeld => ?_)
            case hS40 => exact fun _ => SB.out _ Bx1.out
            replace hHeld := hHeld (by decide)
            clear hK K
            try simp only [Act.put, List.setIfInBounds_toArray, List.set_cons_zero, List.set_cons_succ]
            refine wpAnyG_ready (rs := [5]) (by kernel_rfl) (by simp) ?_
            refine readyG rfl (fun K hK => ?_) AllReadyG.nil
            have HF := Lib.hid (copyPlan_ok kx kf x1 (HSb.out _ Bx1.out).kid.bnd (HSb.out _ Bx1.out).kid.in_)
            unfold fpV at HF
            go_simp
            go_at_call 24
            refine HF.out.mono ?_
            rintro e x2 ⟨cf, rfl, hz, hb⟩
            have Bx2 := Lib.hid (Bx1.out.below hb)
            have Rx2 := Lib.hid (Rx1.out.on hb)
            have Cx2 := Lib.hid (show PlT (fun k => w.heap.size < k) x2 cf kx from hz.mono fun k _ hk => by have h1 := (HSb.out _ Bx1.out).2.1.lt; omega)
            have Xx2 : Hid (ExT (fun k => w.heap.size < k) x2 f x) := Lib.hid (Xx1.out.keep hb.size fun k _ hl => hb.block k hl)
            clear hz hb HF
            refine hK.out _ _ ?hS41 (fun hHeld => ?_)
            case hS41 => exact fun _ => SB.out _ Bx2.out
            replace hHeld := hHeld (by decide)
            clear hK K
            try simp only [Act.put, List.setIfInBounds_toArray, List.set_cons_zero, List.set_cons_succ]
            refine wpAnyG_ready (rs := [6]) (by kernel_rfl) (by simp) ?_
            refine readyG rfl (fun K hK => ?_) AllReadyG.nil
            have HF := Lib.hid (filterOf_ok (fun k => w.heap.size < k) f cf x kx x2 (fun k hk => by have h1 := (HSb.out _ Bx2.out).2.1.lt; omega) Xx2.out (Cx2.out))
            unfold feV fpV at HF
            go_simp
            go_at_call 61
            refine HF.out.mono ?_
            rintro e x3 ⟨h, zt, rfl, hz, hb, hrt, hzn⟩
            have HZN := Lib.hid hzn
            clear hzn
            have Bx3 := Lib.hid (Bx2.out.below hb)
            have Rx3 := Lib.hid (Rx2.out.on hb)
            have Fx3 := Lib.hid hz
            have HRt := Lib.hid hrt
            clear hz hb HF hrt
            refine hK.out _ _ ?hS42 (fun hHeld => ?_)
            case hS42 => exact fun _ => SB.out _ Bx3.out
            replace hHeld := hHeld (by decide)
            clear hK K
            try simp only [Act.put, List.setIfInBounds_toArray, List.set_cons_zero, List.set_cons_succ]
            refine wpAnyG_ready (rs := [7]) (by kernel_rfl) (by simp) ?_
            refine readyG rfl (fun K hK => ?_) AllReadyG.nil
            obtain ⟨x4, hx4⟩ : ∃ y, x3.alloc (.cells #[.int .i64 kf.kind, .int .i64 kf.table, .slice kf.es.A kf.es.n kf.es.c, .slice kf.cs.A kf.cs.n kf.cs.c, .slice kf.ks.A kf.ks.n kf.ks.c, .int .i64 h.kind, .int .i64 h.table, .slice h.es.A h.es.n h.es.c, .slice h.cs.A h.cs.n h.cs.c, .slice h.ks.A h.ks.n h.ks.c] 27) = y := ⟨_, rfl⟩
            have hb : Below x3.heap.size x3 x4 := by rw [← hx4]; exact balloc (Below.refl _ _) _
            have Bx4 := Lib.hid (Bx3.out.below hb)
            have Rx4 := Lib.hid (Rx3.out.on hb)
            have hzl : w.heap.size < x3.heap.size := (HSb.out _ Bx3.out).2.1.lt
            have Fx4 : Hid (PlT (fun k => w.heap.size < k) x4 h zt) := Lib.hid (Fx3.out.keep hb.size fun k _ hl => hb.block k hl)
            have y1 := pls_lit2 (HSb.out _ Bx3.out).kid Fx3.out #[.int .i64 kf.kind, .int .i64 kf.table, .slice kf.es.A kf.es.n kf.es.c, .slice kf.cs.A kf.cs.n kf.cs.c, .slice kf.ks.A kf.ks.n kf.ks.c, .int .i64 h.kind, .int .i64 h.table, .slice h.es.A h.es.n h.es.c, .slice h.cs.A h.cs.n h.cs.c, .slice h.ks.A h.ks.n h.ks.c] rfl hzl 27
            rw [hx4] at y1
            have Px4 := Lib.hid y1
            clear y1
            go_simp
            try rw [hx4]
            have Hx4 := Lib.hid hx4
            clear hx4 hb hzl
            refine hK.out _ _ ?hS43 (fun hHeld => ?_)
            case hS43 => exact fun _ => SB.out _ Bx4.out
            replace hHeld := hHeld (by decide)
            clear hK K
            try simp only [Act.put, List.setIfInBounds_toArray, List.set_cons_zero, List.set_cons_succ]
            refine takeG (i := 8) (v := ?v44) rfl (by kernel_rfl) (by kernel_rfl) (by kernel_rfl) (by kernel_rfl) (fun _ _ _ h => h) (Or.inl ⟨by rfl, ?hy44⟩) (by assumption) ?_
            case hy44 => ((intro w' hSw; (try dsimp only at hSw); go_simp) <;> with_reducible rfl)
            try simp only [Act.put, List.setIfInBounds_toArray, List.set_cons_zero, List.set_cons_succ]
            refine wpAnyG_ready (rs := [9]) (by kernel_rfl) (by simp) ?_
            refine readyG rfl (fun K hK => ?_) AllReadyG.nil
            have rr := (HSb.out x4 Bx4.out).2.1
            have hl := rr.lt
            have c0 := rr.cell 0
            have f0 := rr.frozen 0
            have c1 := rr.cell 1
            have f1 := rr.frozen 1
            have c2 := rr.cell 2
            have f2 := rr.frozen 2
            have c3 := rr.cell 3
            have f3 := rr.frozen 3
            have c4 := rr.cell 4
            have f4 := rr.frozen 4
            clear rr
            go_simp
            refine hK.out _ _ ?hS45 (fun hHeld => ?_)
            case hS45 => exact fun h => absurd rfl h
            clear hK K
            try simp only [Act.put, List.setIfInBounds_toArray, List.set_cons_zero, List.set_cons_succ]
            refine wpAnyG_done (by kernel_rfl) ?_ _
            go_wp2
            refine bodyPost_ret (v := fpV ⟨6, 0, ⟨none, 0, 0⟩, ⟨none, 0, 0⟩, ⟨some ⟨x3.heap.size, 0, none⟩, 2, 2⟩⟩) (by simp [results, Try.results60, go_sem, fpV, c0, c1, c2, c3, c4]) rfl ?_
            obtain ⟨_, _, _, _, pg, _, po⟩ := HSb.out _ Bx4.out
            exact gotQ_of (PlT.make (k := 6) (t := 0) (es := ⟨none, 0, 0⟩) (cs := ⟨none, 0, 0⟩) (xs := []) (cols := []) SVok.nil SVok.nil (SVok.lit (n := 2) (by decide)) ExsT.nil SlS.nil Px4.out) (rootOk_lit (by simp) (by simp) rfl rfl) po (Rx4.out.mono (by have := Hq7.out; have := Hpl.out; omega)) pg HJ8.out.1 HJ8.out.2 hbg hgl _ _ _ _ _ rfl (by (try have h1 := HXN.out); (try have h2 := HZN.out); have h3 := HKN.out; (try have h4 := HON.out); (try have h6 := HEN.out); have h5 := HDD.out; (try simp only [plN, plsN, exN, exsN]); omega)
          · have pg7 := HS7.out.2.2.2.2.1
            have hlg := pg7.lt
            have pc3 : w7.cell? ⟨gb, 3, none⟩ = some (.int .i64 u4) := pg7.cell 3
            clear pg7
            go_wp2
            go_meet
            exact ⟨j4, u4, HS7.out, HR7.out.mono (by have := Hq7.out; omega), HJ4.out.1, HJ4.out.2⟩
        · have q7k := HS7.out.2.2.1
          have q7r := HS7.out.2.1
          have hlk := q7k.lt
          have hlr := q7r.lt
          have kk0 : w7.cell? ⟨kb, 0, none⟩ = some (.int .i64 kf.kind) := q7k.cell 0
          have kk1 : w7.cell? ⟨kb, 1, none⟩ = some (.int .i64 kf.table) := q7k.cell 1
          have kk2 : w7.cell? ⟨kb, 2, none⟩ = some (.slice kf.es.A kf.es.n kf.es.c) := q7k.cell 2
          have kk3 : w7.cell? ⟨kb, 3, none⟩ = some (.slice kf.cs.A kf.cs.n kf.cs.c) := q7k.cell 3
          have kk4 : w7.cell? ⟨kb, 4, none⟩ = some (.slice kf.ks.A kf.ks.n kf.ks.c) := q7k.cell 4
          have c0 := q7r.cell 0
          have f0 := q7r.frozen 0
          have c1 := q7r.cell 1
          have f1 := q7r.frozen 1
          have c2 := q7r.cell 2
          have f2 := q7r.frozen 2
          have c3 := q7r.cell 3
          have f3 := q7r.frozen 3
          have c4 := q7r.cell 4
          have f4 := q7r.frozen 4
          have Q7r := Lib.hid q7r
          clear q7k q7r
          obtain ⟨Z, hZ⟩ : ∃ z, (((((w7.setCell ⟨w.heap.size, 0, none⟩ (.int .i64 7)).setCell ⟨w.heap.size, 1, none⟩ (.int .i64 0)).setCell ⟨w.heap.size, 2, none⟩ (.slice none 0 0)).setCell ⟨w.heap.size, 3, none⟩ (.slice none 0 0)).setCell ⟨w.heap.size, 4, none⟩ (.slice (some ⟨w7.heap.size, 0, none⟩) 1 1)) = z := ⟨_, rfl⟩
          have hZs : Only (fun k => k = w.heap.size) w7 Z := by rw [← hZ]; exact set5 _ _ _ _ _ _ _
          have v0r : Row Z (w.heap.size) 27 [.int .i64 7, .int .i64 0, .slice none 0 0, .slice none 0 0, .slice (some ⟨w7.heap.size, 0, none⟩) 1 1] := by rw [← hZ]; exact ((((Q7r.out.set 0 _).set 1 _).set 2 _).set 3 _).set 4 _
          have zs : Z.heap.size = w7.heap.size := by rw [← hZ]; simp [World.setCell]
          obtain ⟨V1, hV1⟩ : ∃ z, Z.alloc (.cells #[.int .i64 kf.kind, .int .i64 kf.table, .slice kf.es.A kf.es.n kf.es.c, .slice kf.cs.A kf.cs.n kf.cs.c, .slice kf.ks.A kf.ks.n kf.ks.c] 27) = z := ⟨_, rfl⟩
          have v1b : Below Z.heap.size Z V1 := by rw [← hV1]; exact balloc (Below.refl _ _) _
          have v1s : V1.heap.size = w7.heap.size + 1 := by rw [← hV1]; simp; omega
          have v1r := v0r.on v1b
          have HV1 := Lib.hid hV1
          have HZ := Lib.hid hZ
          have e0 := v1r.cell 0
          have e1 := v1r.cell 1
          have e2 := v1r.cell 2
          have e3 := v1r.cell 3
          have e4 := v1r.cell 4
          have VR := Lib.hid v1r
          have FA := Lib.hid (And.intro hZs (And.intro zs ((And.intro v1b (And.intro v1s trivial)))))
          clear hZ hZs zs hV1 v1b v1s v1r v0r
          go_wp2
          rw [HZ.out, HV1.out]
          obtain ⟨hZs, zs, v1b, v1s, -⟩ := FA.out
          have hx7 := HS7.out.kid
          have hr7 : w.heap.size < w7.heap.size := HS7.out.2.1.lt
          have Y1 := pls_lit1 (hx7.keep (by omega) fun k hk hl => hZs.block k hl (show ¬ k = w.heap.size by omega)) #[.int .i64 kf.kind, .int .i64 kf.table, .slice kf.es.A kf.es.n kf.es.c, .slice kf.cs.A kf.cs.n kf.cs.c, .slice kf.ks.A kf.ks.n kf.ks.c] rfl (show w.heap.size < Z.heap.size by omega) 27
          rw [HV1.out, zs] at Y1
          have hm := PlT.make (S := fun k => w.heap.size < k) (k := 7) (t := 0) (es := ⟨none, 0, 0⟩) (cs := ⟨none, 0, 0⟩) (ks := ⟨some ⟨w7.heap.size, 0, none⟩, 1, 1⟩) (xs := []) (cols := []) (ps := [kx]) SVok.nil SVok.nil (SVok.lit (n := 1) (by decide)) ExsT.nil SlS.nil Y1
          refine bodyPost_ret (v := fpV ⟨7, 0, ⟨none, 0, 0⟩, ⟨none, 0, 0⟩, ⟨some ⟨w7.heap.size, 0, none⟩, 1, 1⟩⟩) (by simp [results, Try.results60, go_sem, feV, fpV, e0, e1, e2, e3, e4]) rfl ?_
          obtain ⟨_, _, _, _, pg, _, po⟩ := HS7.out
          exact ⟨_, _, _, _, rfl, hm.mono fun k _ hk => Nat.le_of_lt hk, rootOk_lit (by simp) (by simp) rfl rfl, (po.step hZs fun i (hi : i = w.heap.size) => .inr (by omega)).below v1b, ((HR7.out.apart hZs fun i (hi : i = w.heap.size) => by omega).on v1b).mono (by have := Hq7.out; have := Hpl.out; omega), (pg.only hZs (show ¬ gb = w.heap.size by omega)).on v1b, HJ4.out.1, HJ4.out.2, by (try have h1 := HXN.out); (try have h2 := HZN.out); have h3 := HKN.out; (try have h4 := HON.out); (try have h6 := HEN.out); have h5 := HDD.out; (try simp only [plN, plsN, exN, exsN]); omega⟩
        · by_cases hw1 : 1 < wd
          · go_upto_region 36 with fail
            have HSb := Lib.hid (fun (z : World) (hz : But b w7 z) => HS7.out.but hz)
            have Ru0 : Hid (Rd w7.drew b (q7)) := Lib.hid (HR7.out.on (Below.refl _ _).drew)
            have SB := Lib.hid (fun (z : World) (hz : But b w7 z) => show z.cell? ⟨kb, 0, none⟩ = some (.int .i64 kf.kind) ∧ z.cell? ⟨kb, 1, none⟩ = some (.int .i64 kf.table) ∧ z.cell? ⟨kb, 2, none⟩ = some (.slice kf.es.A kf.es.n kf.es.c) ∧ z.cell? ⟨kb, 3, none⟩ = some (.slice kf.cs.A kf.cs.n kf.cs.c) ∧ z.cell? ⟨kb, 4, none⟩ = some (.slice kf.ks.A kf.ks.n kf.ks.c) from
              have h := (HS7.out.but hz).2.2.1
              ⟨h.cell 0, h.cell 1, h.cell 2, h.cell 3, h.cell 4⟩)
            obtain ⟨u0, hu0⟩ : ∃ z, w7.drew = z := ⟨_, rfl⟩
            have Bu0 := Lib.hid (show But b w7 u0 from hu0 ▸ (Only.refl _).drew)
            have Hu0 := Lib.hid hu0
            clear hu0
            rw [Hu0.out] at Ru0
            refine wp_region_g 7 (fun z => z.cell? ⟨kb, 0, none⟩ = some (.int .i64 kf.kind) ∧ z.cell? ⟨kb, 1, none⟩ = some (.int .i64 kf.table) ∧ z.cell? ⟨kb, 2, none⟩ = some (.slice kf.es.A kf.es.n kf.es.c) ∧ z.cell? ⟨kb, 3, none⟩ = some (.slice kf.cs.A kf.cs.n kf.cs.c) ∧ z.cell? ⟨kb, 4, none⟩ = some (.slice kf.ks.A kf.ks.n kf.ks.c)) (by kernel_rfl) ?_ (fun hHeld => ?_)
            · exact SB.out _ (Only.refl _).drew
            rw [Hu0.out] at hHeld ⊢
            refine takeG (i := 0) (v := ?v19) rfl (by kernel_rfl) (by kernel_rfl) (by kernel_rfl) (by kernel_rfl) (fun _ _ _ h => h) (Or.inl ⟨by rfl, ?hy19⟩) (by assumption) ?_
            case hy19 => ((intro w' hSw; (try dsimp only at hSw); go_simp) <;> with_reducible rfl)
            try simp only [Act.put, List.setIfInBounds_toArray, List.set_cons_zero, List.set_cons_succ]
            refine takeG (i := 1) (v := ?v20) rfl (by kernel_rfl) (by kernel_rfl) (by kernel_rfl) (by kernel_rfl) (fun _ _ _ h => h) (Or.inl ⟨by rfl, ?hy20⟩) (by assumption) ?_
            case hy20 => ((intro w' hSw; (try dsimp only at hSw); go_simp) <;> with_reducible rfl)
            try simp only [Act.put, List.setIfInBounds_toArray, List.set_cons_zero, List.set_cons_succ]
            refine takeG (i := 4) (v := ?v21) rfl (by kernel_rfl) (by kernel_rfl) (by kernel_rfl) (by kernel_rfl) (fun _ _ _ h => h) (Or.inl ⟨by rfl, ?hy21⟩) (by assumption) ?_
            case hy21 => ((intro w' hSw; (try dsimp only at hSw); go_simp) <;> with_reducible rfl)
            try simp only [Act.put, List.setIfInBounds_toArray, List.set_cons_zero, List.set_cons_succ]
            refine wpAnyG_ready (rs := [2, 5]) (by kernel_rfl) (by simp) ?_
            refine readyG rfl (fun K hK => ?_) (readyG rfl (fun K hK => ?_) AllReadyG.nil)
            · skip
              go_simp
              go_at_call 14
              refine (HP.out u0 _ wd Ru0.out (by have := Hq7.out; have := Hpl.out; omega)).mono ?_
              rintro e x1 ⟨pk, rfl, _, hb, _, hR⟩
              have Bx1 := Lib.hid (Bu0.out.trans hb)
              have Rx1 := Lib.hid hR
              have hzl : w.heap.size < u0.heap.size := (HSb.out _ Bu0.out).2.1.lt
              clear hb hR hzl
              refine hK.out _ _ ?hS22 (fun hHeld => ?_)
              case hS22 => exact fun _ => SB.out _ Bx1.out
              replace hHeld := hHeld (by decide)
              clear hK K
              try simp only [Act.put, List.setIfInBounds_toArray, List.set_cons_zero, List.set_cons_succ]
              refine wpAnyG_ready (rs := [3, 5]) (by kernel_rfl) (by simp) ?_
              refine readyG rfl (fun K hK => ?_) (readyG rfl (fun K hK => ?_) AllReadyG.nil)
              · skip
                obtain ⟨x2, hx2⟩ : ∃ y, x1.alloc (.cells #[.int .i64 pk] 3) = y := ⟨_, rfl⟩
                have hb : Below x1.heap.size x1 x2 := by rw [← hx2]; exact balloc (Below.refl _ _) _
                have Bx2 := Lib.hid (Bx1.out.below hb)
                have Rx2 := Lib.hid (Rx1.out.on hb)
                have hzl : w.heap.size < x1.heap.size := (HSb.out _ Bx1.out).2.1.lt
                have Ix2 := Lib.hid (show SlS (fun k => w.heap.size < k) 1 intC x2 (some ⟨x1.heap.size, 0, none⟩) [pk] by rw [← hx2]; exact Row.slS (t := 3) intC_length ((Row.new _ _ _).of rfl) hzl)
                go_simp
                try rw [hx2]
                have Hx2 := Lib.hid hx2
                clear hx2 hb hzl
                refine hK.out _ _ ?hS23 (fun hHeld => ?_)
                case hS23 => exact fun _ => SB.out _ Bx2.out
                replace hHeld := hHeld (by decide)
                clear hK K
                try simp only [Act.put, List.setIfInBounds_toArray, List.set_cons_zero, List.set_cons_succ]
                refine wpAnyG_ready (rs := [5]) (by kernel_rfl) (by simp) ?_
                refine readyG rfl (fun K hK => ?_) AllReadyG.nil
                obtain ⟨x3, hx3⟩ : ∃ y, x2.alloc (.cells #[.int .i64 kf.kind, .int .i64 kf.table, .slice kf.es.A kf.es.n kf.es.c, .slice kf.cs.A kf.cs.n kf.cs.c, .slice kf.ks.A kf.ks.n kf.ks.c] 27) = y := ⟨_, rfl⟩
                have hb : Below x2.heap.size x2 x3 := by rw [← hx3]; exact balloc (Below.refl _ _) _
                have Bx3 := Lib.hid (Bx2.out.below hb)
                have Rx3 := Lib.hid (Rx2.out.on hb)
                have hzl : w.heap.size < x2.heap.size := (HSb.out _ Bx2.out).2.1.lt
                have Ix3 : Hid (SlS (fun k => w.heap.size < k) 1 intC x3 (some ⟨x1.heap.size, 0, none⟩) [pk]) := Lib.hid (Ix2.out.keep hb.size fun k _ hl => hb.block k hl)
                have y1 := pls_lit1 (HSb.out _ Bx2.out).kid #[.int .i64 kf.kind, .int .i64 kf.table, .slice kf.es.A kf.es.n kf.es.c, .slice kf.cs.A kf.cs.n kf.cs.c, .slice kf.ks.A kf.ks.n kf.ks.c] rfl hzl 27
                rw [hx3] at y1
                have Px3 := Lib.hid y1
                clear y1
                go_simp
                try rw [hx3]
                have Hx3 := Lib.hid hx3
                clear hx3 hb hzl
                refine hK.out _ _ ?hS24 (fun hHeld => ?_)
                case hS24 => exact fun _ => SB.out _ Bx3.out
                replace hHeld := hHeld (by decide)
                clear hK K
                try simp only [Act.put, List.setIfInBounds_toArray, List.set_cons_zero, List.set_cons_succ]
                refine takeG (i := 6) (v := ?v25) rfl (by kernel_rfl) (by kernel_rfl) (by kernel_rfl) (by kernel_rfl) (fun _ _ _ h => h) (Or.inl ⟨by rfl, ?hy25⟩) (by assumption) ?_
                case hy25 => ((intro w' hSw; (try dsimp only at hSw); go_simp) <;> with_reducible rfl)
                try simp only [Act.put, List.setIfInBounds_toArray, List.set_cons_zero, List.set_cons_succ]
                refine wpAnyG_ready (rs := [7]) (by kernel_rfl) (by simp) ?_
                refine readyG rfl (fun K hK => ?_) AllReadyG.nil
                have rr := (HSb.out x3 Bx3.out).2.1
                have hl := rr.lt
                have c0 := rr.cell 0
                have f0 := rr.frozen 0
                have c1 := rr.cell 1
                have f1 := rr.frozen 1
                have c2 := rr.cell 2
                have f2 := rr.frozen 2
                have c3 := rr.cell 3
                have f3 := rr.frozen 3
                have c4 := rr.cell 4
                have f4 := rr.frozen 4
                clear rr
                go_simp
                refine hK.out _ _ ?hS26 (fun hHeld => ?_)
                case hS26 => exact fun h => absurd rfl h
                clear hK K
                try simp only [Act.put, List.setIfInBounds_toArray, List.set_cons_zero, List.set_cons_succ]
                refine wpAnyG_done (by kernel_rfl) ?_ _
                go_wp2
                refine bodyPost_ret (v := fpV ⟨8, 0, ⟨none, 0, 0⟩, ⟨some ⟨x1.heap.size, 0, none⟩, 1, 1⟩, ⟨some ⟨x2.heap.size, 0, none⟩, 1, 1⟩⟩) (by simp [results, Try.results60, go_sem, fpV, c0, c1, c2, c3, c4]) rfl ?_
                obtain ⟨_, _, _, _, pg, _, po⟩ := HSb.out _ Bx3.out
                exact gotQ_of (PlT.make (k := 8) (t := 0) (es := ⟨none, 0, 0⟩) (xs := []) SVok.nil (SVok.lit (n := 1) (by decide)) (SVok.lit (n := 1) (by decide)) ExsT.nil Ix3.out Px3.out) (rootOk_lit (by simp) (by simp) rfl rfl) po (Rx3.out.mono (by have := Hq7.out; have := Hpl.out; omega)) pg HJ4.out.1 HJ4.out.2 hbg hgl _ _ _ _ _ rfl (by (try have h1 := HXN.out); (try have h2 := HZN.out); have h3 := HKN.out; (try have h4 := HON.out); (try have h6 := HEN.out); have h5 := HDD.out; (try simp only [plN, plsN, exN, exsN]); omega)
              · skip
                obtain ⟨x2, hx2⟩ : ∃ y, x1.alloc (.cells #[.int .i64 kf.kind, .int .i64 kf.table, .slice kf.es.A kf.es.n kf.es.c, .slice kf.cs.A kf.cs.n kf.cs.c, .slice kf.ks.A kf.ks.n kf.ks.c] 27) = y := ⟨_, rfl⟩
                have hb : Below x1.heap.size x1 x2 := by rw [← hx2]; exact balloc (Below.refl _ _) _
                have Bx2 := Lib.hid (Bx1.out.below hb)
                have Rx2 := Lib.hid (Rx1.out.on hb)
                have hzl : w.heap.size < x1.heap.size := (HSb.out _ Bx1.out).2.1.lt
                have y1 := pls_lit1 (HSb.out _ Bx1.out).kid #[.int .i64 kf.kind, .int .i64 kf.table, .slice kf.es.A kf.es.n kf.es.c, .slice kf.cs.A kf.cs.n kf.cs.c, .slice kf.ks.A kf.ks.n kf.ks.c] rfl hzl 27
                rw [hx2] at y1
                have Px2 := Lib.hid y1
                clear y1
                go_simp
                try rw [hx2]
                have Hx2 := Lib.hid hx2
                clear hx2 hb hzl
                refine hK.out _ _ ?hS27 (fun hHeld => ?_)
                case hS27 => exact fun _ => SB.out _ Bx2.out
                replace hHeld := hHeld (by decide)
                clear hK K
                try simp only [Act.put, List.setIfInBounds_toArray, List.set_cons_zero, List.set_cons_succ]
                refine wpAnyG_ready (rs := [3]) (by kernel_rfl) (by simp) ?_
                refine readyG rfl (fun K hK => ?_) AllReadyG.nil
                obtain ⟨x3, hx3⟩ : ∃ y, x2.alloc (.cells #[.int .i64 pk] 3) = y := ⟨_, rfl⟩
                have hb : Below x2.heap.size x2 x3 := by rw [← hx3]; exact balloc (Below.refl _ _) _
                have Bx3 := Lib.hid (Bx2.out.below hb)
                have Rx3 := Lib.hid (Rx2.out.on hb)
                have hzl : w.heap.size < x2.heap.size := (HSb.out _ Bx2.out).2.1.lt
                have Px3 : Hid (PlsT (fun k => w.heap.size < k) x3 (some ⟨x1.heap.size, 0, none⟩) [kx]) := Lib.hid (PlsT.keep Px2.out hb.size fun k _ hl => hb.block k hl)
                have Ix3 := Lib.hid (show SlS (fun k => w.heap.size < k) 1 intC x3 (some ⟨x2.heap.size, 0, none⟩) [pk] by rw [← hx3]; exact Row.slS (t := 3) intC_length ((Row.new _ _ _).of rfl) hzl)
                go_simp
                try rw [hx3]
                have Hx3 := Lib.hid hx3
                clear hx3 hb hzl
                refine hK.out _ _ ?hS28 (fun hHeld => ?_)
                case hS28 => exact fun _ => SB.out _ Bx3.out
                replace hHeld := hHeld (by decide)
                clear hK K
                try simp only [Act.put, List.setIfInBounds_toArray, List.set_cons_zero, List.set_cons_succ]
                refine takeG (i := 6) (v := ?v29) rfl (by kernel_rfl) (by kernel_rfl) (by kernel_rfl) (by kernel_rfl) (fun _ _ _ h => h) (Or.inl ⟨by rfl, ?hy29⟩) (by assumption) ?_
                case hy29 => ((intro w' hSw; (try dsimp only at hSw); go_simp) <;> with_reducible rfl)
                try simp only [Act.put, List.setIfInBounds_toArray, List.set_cons_zero, List.set_cons_succ]
                refine wpAnyG_ready (rs := [7]) (by kernel_rfl) (by simp) ?_
                refine readyG rfl (fun K hK => ?_) AllReadyG.nil
                have rr := (HSb.out x3 Bx3.out).2.1
                have hl := rr.lt
                have c0 := rr.cell 0
                have f0 := rr.frozen 0
                have c1 := rr.cell 1
                have f1 := rr.frozen 1
                have c2 := rr.cell 2
                have f2 := rr.frozen 2
                have c3 := rr.cell 3
                have f3 := rr.frozen 3
                have c4 := rr.cell 4
                have f4 := rr.frozen 4
                clear rr
                go_simp
                refine hK.out _ _ ?hS30 (fun hHeld => ?_)
                case hS30 => exact fun h => absurd rfl h
                clear hK K
                try simp only [Act.put, List.setIfInBounds_toArray, List.set_cons_zero, List.set_cons_succ]
                refine wpAnyG_done (by kernel_rfl) ?_ _
                go_wp2
                refine bodyPost_ret (v := fpV ⟨8, 0, ⟨none, 0, 0⟩, ⟨some ⟨x2.heap.size, 0, none⟩, 1, 1⟩, ⟨some ⟨x1.heap.size, 0, none⟩, 1, 1⟩⟩) (by simp [results, Try.results60, go_sem, fpV, c0, c1, c2, c3, c4]) rfl ?_
                obtain ⟨_, _, _, _, pg, _, po⟩ := HSb.out _ Bx3.out
                exact gotQ_of (PlT.make (k := 8) (t := 0) (es := ⟨none, 0, 0⟩) (xs := []) SVok.nil (SVok.lit (n := 1) (by decide)) (SVok.lit (n := 1) (by decide)) ExsT.nil Ix3.out Px3.out) (rootOk_lit (by simp) (by simp) rfl rfl) po (Rx3.out.mono (by have := Hq7.out; have := Hpl.out; omega)) pg HJ4.out.1 HJ4.out.2 hbg hgl _ _ _ _ _ rfl (by (try have h1 := HXN.out); (try have h2 := HZN.out); have h3 := HKN.out; (try have h4 := HON.out); (try have h6 := HEN.out); have h5 := HDD.out; (try simp only [plN, plsN, exN, exsN]); omega)
            · skip
              obtain ⟨x1, hx1⟩ : ∃ y, u0.alloc (.cells #[.int .i64 kf.kind, .int .i64 kf.table, .slice kf.es.A kf.es.n kf.es.c, .slice kf.cs.A kf.cs.n kf.cs.c, .slice kf.ks.A kf.ks.n kf.ks.c] 27) = y := ⟨_, rfl⟩
              have hb : Below u0.heap.size u0 x1 := by rw [← hx1]; exact balloc (Below.refl _ _) _
              have Bx1 := Lib.hid (Bu0.out.below hb)
              have Rx1 := Lib.hid (Ru0.out.on hb)
              have hzl : w.heap.size < u0.heap.size := (HSb.out _ Bu0.out).2.1.lt
              have y1 := pls_lit1 (HSb.out _ Bu0.out).kid #[.int .i64 kf.kind, .int .i64 kf.table, .slice kf.es.A kf.es.n kf.es.c, .slice kf.cs.A kf.cs.n kf.cs.c, .slice kf.ks.A kf.ks.n kf.ks.c] rfl hzl 27
              rw [hx1] at y1
              have Px1 := Lib.hid y1
              clear y1
              go_simp
              try rw [hx1]
              have Hx1 := Lib.hid hx1
              clear hx1 hb hzl
              refine hK.out _ _ ?hS31 (fun hHeld => ?_)
              case hS31 => exact fun _ => SB.out _ Bx1.out
              replace hHeld := hHeld (by decide)
              clear hK K
              try simp only [Act.put, List.setIfInBounds_toArray, List.set_cons_zero, List.set_cons_succ]
              refine wpAnyG_ready (rs := [2]) (by kernel_rfl) (by simp) ?_
              refine readyG rfl (fun K hK => ?_) AllReadyG.nil
              go_simp
              go_at_call 14
              refine (HP.out x1 _ wd Rx1.out (by have := Hq7.out; have := Hpl.out; omega)).mono ?_
              rintro e x2 ⟨pk, rfl, _, hb, _, hR⟩
              have Bx2 := Lib.hid (Bx1.out.trans hb)
              have Rx2 := Lib.hid hR
              have hzl : w.heap.size < x1.heap.size := (HSb.out _ Bx1.out).2.1.lt
              have Px2 : Hid (PlsT (fun k => w.heap.size < k) x2 (some ⟨u0.heap.size, 0, none⟩) [kx]) := Lib.hid (PlsT.keep Px1.out hb.size fun k hk hl => hb.block k hl (by omega))
              clear hb hR hzl
              refine hK.out _ _ ?hS32 (fun hHeld => ?_)
              case hS32 => exact fun _ => SB.out _ Bx2.out
              replace hHeld := hHeld (by decide)
              clear hK K
              try simp only [Act.put, List.setIfInBounds_toArray, List.set_cons_zero, List.set_cons_succ]
              refine wpAnyG_ready (rs := [3]) (by kernel_rfl) (by simp) ?_
              refine readyG rfl (fun K hK => ?_) AllReadyG.nil
              obtain ⟨x3, hx3⟩ : ∃ y, x2.alloc (.cells #[.int .i64 pk] 3) = y := ⟨_, rfl⟩
              have hb : Below x2.heap.size x2 x3 := by rw [← hx3]; exact balloc (Below.refl _ _) _
              have Bx3 := Lib.hid (Bx2.out.below hb)
              have Rx3 := Lib.hid (Rx2.out.on hb)
              have hzl : w.heap.size < x2.heap.size := (HSb.out _ Bx2.out).2.1.lt
              have Px3 : Hid (PlsT (fun k => w.heap.size < k) x3 (some ⟨u0.heap.size, 0, none⟩) [kx]) := Lib.hid (PlsT.keep Px2.out hb.size fun k _ hl => hb.block k hl)
              have Ix3 := Lib.hid (show SlS (fun k => w.heap.size < k) 1 intC x3 (some ⟨x2.heap.size, 0, none⟩) [pk] by rw [← hx3]; exact Row.slS (t := 3) intC_length ((Row.new _ _ _).of rfl) hzl)
              go_simp
              try rw [hx3]
              have Hx3 := Lib.hid hx3
              clear hx3 hb hzl
              refine hK.out _ _ ?hS33 (fun hHeld => ?_)
              case hS33 => exact fun _ => SB.out _ Bx3.out
              replace hHeld := hHeld (by decide)
              clear hK K
              try simp only [Act.put, List.setIfInBounds_toArray, List.set_cons_zero, List.set_cons_succ]
              refine takeG (i := 6) (v := ?v34) rfl (by kernel_rfl) (by kernel_rfl) (by kernel_rfl) (by kernel_rfl) (fun _ _ _ h => h) (Or.inl ⟨by rfl, ?hy34⟩) (by assumption) ?_
              case hy34 => ((intro w' hSw; (try dsimp only at hSw); go_simp) <;> with_reducible rfl)
              try simp only [Act.put, List.setIfInBounds_toArray, List.set_cons_zero, List.set_cons_succ]
              refine wpAnyG_ready (rs := [7]) (by kernel_rfl) (by simp) ?_
              refine readyG rfl (fun K hK => ?_) AllReadyG.nil
              have rr := (HSb.out x3 Bx3.out).2.1
              have hl := rr.lt
              have c0 := rr.cell 0
              have f0 := rr.frozen 0
              have c1 := rr.cell 1
              have f1 := rr.frozen 1
              have c2 := rr.cell 2
              have f2 := rr.frozen 2
              have c3 := rr.cell 3
              have f3 := rr.frozen 3
              have c4 := rr.cell 4
              have f4 := rr.frozen 4
              clear rr
              go_simp
              refine hK.out _ _ ?hS35 (fun hHeld => ?_)
              case hS35 => exact fun h => absurd rfl h
              clear hK K
              try simp only [Act.put, List.setIfInBounds_toArray, List.set_cons_zero, List.set_cons_succ]
              refine wpAnyG_done (by kernel_rfl) ?_ _
              go_wp2
              refine bodyPost_ret (v := fpV ⟨8, 0, ⟨none, 0, 0⟩, ⟨some ⟨x2.heap.size, 0, none⟩, 1, 1⟩, ⟨some ⟨u0.heap.size, 0, none⟩, 1, 1⟩⟩) (by simp [results, Try.results60, go_sem, fpV, c0, c1, c2, c3, c4]) rfl ?_
              obtain ⟨_, _, _, _, pg, _, po⟩ := HSb.out _ Bx3.out
              exact gotQ_of (PlT.make (k := 8) (t := 0) (es := ⟨none, 0, 0⟩) (xs := []) SVok.nil (SVok.lit (n := 1) (by decide)) (SVok.lit (n := 1) (by decide)) ExsT.nil Ix3.out Px3.out) (rootOk_lit (by simp) (by simp) rfl rfl) po (Rx3.out.mono (by have := Hq7.out; have := Hpl.out; omega)) pg HJ4.out.1 HJ4.out.2 hbg hgl _ _ _ _ _ rfl (by (try have h1 := HXN.out); (try have h2 := HZN.out); have h3 := HKN.out; (try have h4 := HON.out); (try have h6 := HEN.out); have h5 := HDD.out; (try simp only [plN, plsN, exN, exsN]); omega)
          · have q7k := HS7.out.2.2.1
            have q7r := HS7.out.2.1
            have hlk := q7k.lt
            have hlr := q7r.lt
            have kk0 : w7.cell? ⟨kb, 0, none⟩ = some (.int .i64 kf.kind) := q7k.cell 0
            have kk1 : w7.cell? ⟨kb, 1, none⟩ = some (.int .i64 kf.table) := q7k.cell 1
            have kk2 : w7.cell? ⟨kb, 2, none⟩ = some (.slice kf.es.A kf.es.n kf.es.c) := q7k.cell 2
            have kk3 : w7.cell? ⟨kb, 3, none⟩ = some (.slice kf.cs.A kf.cs.n kf.cs.c) := q7k.cell 3
            have kk4 : w7.cell? ⟨kb, 4, none⟩ = some (.slice kf.ks.A kf.ks.n kf.ks.c) := q7k.cell 4
            have c0 := q7r.cell 0
            have f0 := q7r.frozen 0
            have c1 := q7r.cell 1
            have f1 := q7r.frozen 1
            have c2 := q7r.cell 2
            have f2 := q7r.frozen 2
            have c3 := q7r.cell 3
            have f3 := q7r.frozen 3
            have c4 := q7r.cell 4
            have f4 := q7r.frozen 4
            have Q7r := Lib.hid q7r
            clear q7k q7r
            obtain ⟨Z, hZ⟩ : ∃ z, (((((w7.setCell ⟨w.heap.size, 0, none⟩ (.int .i64 8)).setCell ⟨w.heap.size, 1, none⟩ (.int .i64 0)).setCell ⟨w.heap.size, 2, none⟩ (.slice none 0 0)).setCell ⟨w.heap.size, 3, none⟩ (.slice none 0 0)).setCell ⟨w.heap.size, 4, none⟩ (.slice (some ⟨w7.heap.size, 0, none⟩) 1 1)) = z := ⟨_, rfl⟩
            have hZs : Only (fun k => k = w.heap.size) w7 Z := by rw [← hZ]; exact set5 _ _ _ _ _ _ _
            have v0r : Row Z (w.heap.size) 27 [.int .i64 8, .int .i64 0, .slice none 0 0, .slice none 0 0, .slice (some ⟨w7.heap.size, 0, none⟩) 1 1] := by rw [← hZ]; exact ((((Q7r.out.set 0 _).set 1 _).set 2 _).set 3 _).set 4 _
            have zs : Z.heap.size = w7.heap.size := by rw [← hZ]; simp [World.setCell]
            obtain ⟨V1, hV1⟩ : ∃ z, Z.alloc (.cells #[.int .i64 kf.kind, .int .i64 kf.table, .slice kf.es.A kf.es.n kf.es.c, .slice kf.cs.A kf.cs.n kf.cs.c, .slice kf.ks.A kf.ks.n kf.ks.c] 27) = z := ⟨_, rfl⟩
            have v1b : Below Z.heap.size Z V1 := by rw [← hV1]; exact balloc (Below.refl _ _) _
            have v1s : V1.heap.size = w7.heap.size + 1 := by rw [← hV1]; simp; omega
            have v1r := v0r.on v1b
            have HV1 := Lib.hid hV1
            have HZ := Lib.hid hZ
            have e0 := v1r.cell 0
            have e1 := v1r.cell 1
            have e2 := v1r.cell 2
            have e3 := v1r.cell 3
            have e4 := v1r.cell 4
            have VR := Lib.hid v1r
            have FA := Lib.hid (And.intro hZs (And.intro zs ((And.intro v1b (And.intro v1s trivial)))))
            clear hZ hZs zs hV1 v1b v1s v1r v0r
            go_wp2
            rw [HZ.out, HV1.out]
            obtain ⟨hZs, zs, v1b, v1s, -⟩ := FA.out
            have hx7 := HS7.out.kid
            have hr7 : w.heap.size < w7.heap.size := HS7.out.2.1.lt
            have Y1 := pls_lit1 (hx7.keep (by omega) fun k hk hl => hZs.block k hl (show ¬ k = w.heap.size by omega)) #[.int .i64 kf.kind, .int .i64 kf.table, .slice kf.es.A kf.es.n kf.es.c, .slice kf.cs.A kf.cs.n kf.cs.c, .slice kf.ks.A kf.ks.n kf.ks.c] rfl (show w.heap.size < Z.heap.size by omega) 27
            rw [HV1.out, zs] at Y1
            have hm := PlT.make (S := fun k => w.heap.size < k) (k := 8) (t := 0) (es := ⟨none, 0, 0⟩) (cs := ⟨none, 0, 0⟩) (ks := ⟨some ⟨w7.heap.size, 0, none⟩, 1, 1⟩) (xs := []) (cols := []) (ps := [kx]) SVok.nil SVok.nil (SVok.lit (n := 1) (by decide)) ExsT.nil SlS.nil Y1
            refine bodyPost_ret (v := fpV ⟨8, 0, ⟨none, 0, 0⟩, ⟨none, 0, 0⟩, ⟨some ⟨w7.heap.size, 0, none⟩, 1, 1⟩⟩) (by simp [results, Try.results60, go_sem, feV, fpV, e0, e1, e2, e3, e4]) rfl ?_
            obtain ⟨_, _, _, _, pg, _, po⟩ := HS7.out
            exact ⟨_, _, _, _, rfl, hm.mono fun k _ hk => Nat.le_of_lt hk, rootOk_lit (by simp) (by simp) rfl rfl, (po.step hZs fun i (hi : i = w.heap.size) => .inr (by omega)).below v1b, ((HR7.out.apart hZs fun i (hi : i = w.heap.size) => by omega).on v1b).mono (by have := Hq7.out; have := Hpl.out; omega), (pg.only hZs (show ¬ gb = w.heap.size by omega)).on v1b, HJ4.out.1, HJ4.out.2, by (try have h1 := HXN.out); (try have h2 := HZN.out); have h3 := HKN.out; (try have h4 := HON.out); (try have h6 := HEN.out); have h5 := HDD.out; (try simp only [plN, plsN, exN, exsN]); omega⟩
      case rest =>
        obtain ⟨j9, u9, hS9, hR9, hj9, hu9⟩ := hcut
        have HS9 := Lib.hid hS9
        have HR9 := Lib.hid hR9
        have HJ9 := Lib.hid (And.intro hj9 hu9)
        clear hS9 hR9 hj9 hu9
        go_upto_region 38 with fail
        have HSb := Lib.hid (fun (z : World) (hz : But b wc z) => HS9.out.but hz)
        have Ru0 : Hid (Rd wc.drew b (q7 + 900 * (J + 1))) := Lib.hid (HR9.out.on (Below.refl _ _).drew)
        have SB := Lib.hid (fun (z : World) (hz : But b wc z) => show z.cell? ⟨kb, 0, none⟩ = some (.int .i64 kf.kind) ∧ z.cell? ⟨kb, 1, none⟩ = some (.int .i64 kf.table) ∧ z.cell? ⟨kb, 2, none⟩ = some (.slice kf.es.A kf.es.n kf.es.c) ∧ z.cell? ⟨kb, 3, none⟩ = some (.slice kf.cs.A kf.cs.n kf.cs.c) ∧ z.cell? ⟨kb, 4, none⟩ = some (.slice kf.ks.A kf.ks.n kf.ks.c) from
          have h := (HS9.out.but hz).2.2.1
          ⟨h.cell 0, h.cell 1, h.cell 2, h.cell 3, h.cell 4⟩)
        obtain ⟨u0, hu0⟩ : ∃ z, wc.drew = z := ⟨_, rfl⟩
        have Bu0 := Lib.hid (show But b wc u0 from hu0 ▸ (Only.refl _).drew)
        have Hu0 := Lib.hid hu0
        clear hu0
        rw [Hu0.out] at Ru0
        refine wp_region_g 5 (fun z => z.cell? ⟨kb, 0, none⟩ = some (.int .i64 kf.kind) ∧ z.cell? ⟨kb, 1, none⟩ = some (.int .i64 kf.table) ∧ z.cell? ⟨kb, 2, none⟩ = some (.slice kf.es.A kf.es.n kf.es.c) ∧ z.cell? ⟨kb, 3, none⟩ = some (.slice kf.cs.A kf.cs.n kf.cs.c) ∧ z.cell? ⟨kb, 4, none⟩ = some (.slice kf.ks.A kf.ks.n kf.ks.c)) (by kernel_rfl) ?_ (fun hHeld => ?_)
        · exact SB.out _ (Only.refl _).drew
        rw [Hu0.out] at hHeld ⊢
        refine takeG (i := 0) (v := ?v114) rfl (by kernel_rfl) (by kernel_rfl) (by kernel_rfl) (by kernel_rfl) (fun _ _ _ h => h) (Or.inl ⟨by rfl, ?hy114⟩) (by assumption) ?_
        case hy114 => ((intro w' hSw; (try dsimp only at hSw); go_simp) <;> with_reducible rfl)
        try simp only [Act.put, List.setIfInBounds_toArray, List.set_cons_zero, List.set_cons_succ]
        refine takeG (i := 1) (v := ?v115) rfl (by kernel_rfl) (by kernel_rfl) (by kernel_rfl) (by kernel_rfl) (fun _ _ _ h => h) (Or.inl ⟨by rfl, ?hy115⟩) (by assumption) ?_
        case hy115 => ((intro w' hSw; (try dsimp only at hSw); go_simp) <;> with_reducible rfl)
        try simp only [Act.put, List.setIfInBounds_toArray, List.set_cons_zero, List.set_cons_succ]
        refine takeG (i := 3) (v := ?v116) rfl (by kernel_rfl) (by kernel_rfl) (by kernel_rfl) (by kernel_rfl) (fun _ _ _ h => h) (Or.inl ⟨by rfl, ?hy116⟩) (by assumption) ?_
        case hy116 => ((intro w' hSw; (try dsimp only at hSw); go_simp) <;> with_reducible rfl)
        try simp only [Act.put, List.setIfInBounds_toArray, List.set_cons_zero, List.set_cons_succ]
        refine wpAnyG_ready (rs := [2]) (by kernel_rfl) (by simp) ?_
        refine readyG rfl (fun K hK => ?_) AllReadyG.nil
        go_simp
        go_at_call 62
        refine (randomCondition_ok b _ wd u0 Ru0.out (by have := Hq7.out; have := Hpl.out; omega)).mono ?_
        rintro e x1 ⟨f, x, rfl, hx, hb, hR, hxn⟩
        have HXN := Lib.hid hxn
        clear hxn
        have Bx1 := Lib.hid (Bu0.out.trans hb)
        have Rx1 := Lib.hid hR
        have Xx1 := Lib.hid (show ExT (fun k => w.heap.size < k) x1 f x from hx.mono fun k _ hk => by have h1 := (HSb.out _ Bu0.out).2.1.lt; omega)
        unfold feV
        clear hb hR hx
        refine hK.out _ _ ?hS117 (fun hHeld => ?_)
        case hS117 => exact fun _ => SB.out _ Bx1.out
        replace hHeld := hHeld (by decide)
        clear hK K
        try simp only [Act.put, List.setIfInBounds_toArray, List.set_cons_zero, List.set_cons_succ]
        refine wpAnyG_ready (rs := [4]) (by kernel_rfl) (by simp) ?_
        refine readyG rfl (fun K hK => ?_) AllReadyG.nil
        have HF := Lib.hid (filterOf_ok (fun k => w.heap.size < k) f kf x kx x1 (fun k hk => by have h1 := (HSb.out _ Bx1.out).2.1.lt; omega) Xx1.out ((HSb.out _ Bx1.out).kid))
        unfold feV fpV at HF
        go_simp
        go_at_call 61
        refine HF.out.mono ?_
        rintro e x2 ⟨h, zt, rfl, hz, hb, hrt, hzn⟩
        have HZN := Lib.hid hzn
        clear hzn
        have Bx2 := Lib.hid (Bx1.out.below hb)
        have Rx2 := Lib.hid (Rx1.out.on hb)
        have Fx2 := Lib.hid hz
        have HRt := Lib.hid hrt
        clear hz hb HF hrt
        refine hK.out _ _ ?hS118 (fun hHeld => ?_)
        case hS118 => exact fun _ => SB.out _ Bx2.out
        replace hHeld := hHeld (by decide)
        clear hK K
        try simp only [Act.put, List.setIfInBounds_toArray, List.set_cons_zero, List.set_cons_succ]
        refine wpAnyG_ready (rs := [5]) (by kernel_rfl) (by simp) ?_
        refine readyG rfl (fun K hK => ?_) AllReadyG.nil
        have rr := (HSb.out x2 Bx2.out).2.1
        have hl := rr.lt
        have c0 := rr.cell 0
        have f0 := rr.frozen 0
        have c1 := rr.cell 1
        have f1 := rr.frozen 1
        have c2 := rr.cell 2
        have f2 := rr.frozen 2
        have c3 := rr.cell 3
        have f3 := rr.frozen 3
        have c4 := rr.cell 4
        have f4 := rr.frozen 4
        clear rr
        go_simp
        refine hK.out _ _ ?hS119 (fun hHeld => ?_)
        case hS119 => exact fun h => absurd rfl h
        clear hK K
        try simp only [Act.put, List.setIfInBounds_toArray, List.set_cons_zero, List.set_cons_succ]
        refine wpAnyG_done (by kernel_rfl) ?_ _
        go_wp2
        refine bodyPost_ret (v := fpV h) (by simp [results, Try.results60, go_sem, fpV, c0, c1, c2, c3, c4]) rfl ?_
        obtain ⟨_, _, _, _, pg, _, po⟩ := HSb.out _ Bx2.out
        exact gotQ_of (Fx2.out) (HRt.out _ _) po (Rx2.out.mono (by have := Hq7.out; have := Hpl.out; omega)) pg HJ9.out.1 HJ9.out.2 hbg hgl _ _ _ _ _ rfl (by (try have h1 := HXN.out); (try have h2 := HZN.out); have h3 := HKN.out; (try have h4 := HON.out); (try have h6 := HEN.out); have h5 := HDD.out; (try simp only [plN, plsN, exN, exsN]); omega)
theorem plan0_ok : ∀ d : Nat, d ≤ 8 → PLN 0 d := fun d => by
  induction d with
  | zero => exact fun h => plan_of 0 0 (by omega) h (fun d' e => by cases e) (fun J' e => by cases e)
  | succ d ih => exact fun h => plan_of 0 (d + 1) (by omega) h (fun d' e => by cases e; exact ih (by omega)) (fun J' e => by cases e)
theorem plan_ok : ∀ d : Nat, d ≤ 8 → PLN 1 d := fun d => by
  induction d with
  | zero => exact fun h => plan_of 1 0 (by omega) h (fun d' e => by cases e) (fun J' e d' hd' => by cases e; exact plan0_ok d' (by omega))
  | succ d ih => exact fun h => plan_of 1 (d + 1) (by omega) h (fun d' e => by cases e; exact ih (by omega)) (fun J' e d' hd' => by cases e; exact plan0_ok d' (by omega))
end Go.Proofs.Ytcbfbgngkdiijaa
