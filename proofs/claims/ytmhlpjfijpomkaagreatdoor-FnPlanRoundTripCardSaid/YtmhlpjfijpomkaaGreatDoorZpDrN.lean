/-
  Contract: DrawEncodePlan. (From XDrS.)
-/
import Derived.Test.YtmhlpjfijpomkaaGreatDoorProg
import Derived.Test.YtmhlpjfijpomkaaGreatDoorZpPaW
namespace Go.Proofs.YtmhlpjfijpomkaaGreatDoor
open Go.RowKit Go.Qo
set_option linter.unusedVariables false
set_option linter.unusedSimpArgs false

/-- The plan and the widths that are drawn, in memory of the call's own. -/
def DrPWn (lo : Nat) (w : World) (f : FP) (x : Pl) (v : Value) (ws : List Int) : Prop := PlT (fun k => lo ≤ k) w f x ∧ Ow lo 3 1 intC w v ws ∧ (2 ≤ ws.length ∧ ws.length ≤ 3) ∧ ∀ y ∈ ws, 0 ≤ y ∧ y ≤ 7
theorem DrPWn.only {lo b : Nat} {w w' : World} {f : FP} {x : Pl} {v : Value} {ws : List Int} {S : Nat → Prop} (h : DrPWn lo w f x v ws) (hb : Only S w w') (hS : ∀ k, S k → k < lo) : DrPWn lo w' f x v ws :=
  ⟨h.1.keep hb.size fun k hk hl => hb.block k hl fun e => by have := hS k e; omega, h.2.1.only hb fun k hk => .inl (hS k hk), h.2.2⟩
theorem DrPWn.low {lo lo' : Nat} {w : World} {f : FP} {x : Pl} {v : Value} {ws : List Int} (h : DrPWn lo w f x v ws) (hl : lo' ≤ lo) : DrPWn lo' w f x v ws := ⟨h.1.mono fun k _ hk => by omega, h.2.1.low hl, h.2.2⟩
theorem set5_belowN {lo g : Nat} {w wx : World} (h : Below lo w wx) (hg : lo ≤ g) (v0 v1 v2 v3 v4 : Value) : Below lo w (((((wx.setCell ⟨g, 0, none⟩ v0).setCell ⟨g, 1, none⟩ v1).setCell ⟨g, 2, none⟩ v2).setCell ⟨g, 3, none⟩ v3).setCell ⟨g, 4, none⟩ v4) :=
  ((((h.setCell (p := ⟨g, 0, none⟩) hg _).setCell (p := ⟨g, 1, none⟩) hg _).setCell (p := ⟨g, 2, none⟩) hg _).setCell (p := ⟨g, 3, none⟩) hg _).setCell (p := ⟨g, 4, none⟩) hg _
theorem pwC_leN : pwC ≤ 9000 := by decide

set_option maxRecDepth 20000 in
set_option maxHeartbeats 4000000 in
theorem drawEncodePlan_ok (A : Option Addr) (c : Nat) (xs : List Int) (w : World) (hn : xs.length ≤ c) (hc : c ≤ maxLen) (hg : ∀ x ∈ xs, 0 ≤ x ∧ x ≤ 255) (hs : Sl 1 byteC w w.heap.size A xs) :
    Calls Tryz.prog 20 #[.slice A xs.length c] w fun e w' => ∃ f x v ws, e = .returned (.tuple #[fpV f, v]) ∧ DrPWn w.heap.size w' f x v ws ∧ Below w.heap.size w w' := by
  obtain ⟨W0, hW0⟩ : ∃ z, w.alloc (.cells #[.int .i64 0, .int .i64 0, .slice none 0 0, .slice none 0 0, .slice none 0 0] 26) = z := ⟨_, rfl⟩
  have b0 : Below w.heap.size w W0 := by rw [← hW0]; exact balloc (Below.refl _ _) _
  have r0 : Row W0 w.heap.size 26 [.int .i64 0, .int .i64 0, .slice none 0 0, .slice none 0 0, .slice none 0 0] := by rw [← hW0]; exact Row.new _ _ _
  have hs0 : W0.heap.size = w.heap.size + 1 := by rw [← hW0]; simp
  obtain ⟨b, hb⟩ : ∃ b, W0.heap.size = b := ⟨_, rfl⟩
  have HN := Lib.hid (newReader_ok A c xs W0 hn hc hg (hs.on b0))
  rw [hb] at HN
  have hbw : w.heap.size + 1 = b := by omega
  have Hb := Lib.hid hb
  have Hr0 := Lib.hid r0
  have HB0 := Lib.hid b0
  have HW0 := Lib.hid hW0
  have Hpw := Lib.hid pwC_leN
  clear hn hc hg hs hW0 b0 r0 hb hs0
  go_enter Tryz.func20, Tryz.ntmps20
  go_upto_region 1 with fail
  rw [HW0.out]
  go_wp2_with fail
  refine HN.out.mono ?_
  rintro e w1 ⟨rfl, hb1, hR1⟩
  rw [← Hb.out] at hb1
  have HPW := Lib.hid (planAndWidths_ok b 0 w1 hR1 (by have := Hpw.out; omega))
  have HB1 := Lib.hid (bch HB0.out hb1)
  have Hr1 := Lib.hid (Hr0.out.on hb1)
  have hbl1 := hR1.lt
  clear hb1 hR1
  go_wp2_with fail
  refine HPW.out.mono ?_
  rintro e w2 ⟨pf, px, v2, ws, rfl, hx2, how2, hwl, hwr, hb2, hR2⟩
  unfold fpV
  have hrZ := Hr1.out.only hb2 (by omega)
  have hlr := (hrZ).lt
  have c0 := (hrZ).cell 0
  have f0 := (hrZ).frozen 0
  have c1 := (hrZ).cell 1
  have f1 := (hrZ).frozen 1
  have c2 := (hrZ).cell 2
  have f2 := (hrZ).frozen 2
  have c3 := (hrZ).cell 3
  have f3 := (hrZ).frozen 3
  have c4 := (hrZ).cell 4
  have f4 := (hrZ).frozen 4
  have HD := Lib.hid (show DrPWn w1.heap.size w2 pf px v2 ws from ⟨hx2, how2, hwl, hwr⟩)
  have HB2 := Lib.hid (Only.from_ HB1.out rfl hb2 fun i (hi : i = b) => by omega)
  have hzw := Hr1.out.lt
  clear hrZ hx2 how2 hwl hwr hb2 hR2
  go_wp2
  refine bodyPost_ret (v := .tuple #[fpV pf, v2]) (by simp [results, Tryz.results20, go_sem, fpV, c0, c1, c2, c3, c4]) rfl ?_
  have h5 := set5 w2 w.heap.size (.int .i64 pf.kind) (.int .i64 pf.table) (.slice pf.es.A pf.es.n pf.es.c) (.slice pf.cs.A pf.cs.n pf.cs.c) (.slice pf.ks.A pf.ks.n pf.ks.c)
  exact ⟨pf, px, _, ws, rfl, (DrPWn.only (b := b) HD.out h5 fun k (hk : k = w.heap.size) => by omega).low (by omega), set5_belowN HB2.out (Nat.le_refl _) _ _ _ _ _⟩
end Go.Proofs.YtmhlpjfijpomkaaGreatDoor
