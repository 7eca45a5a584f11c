/-
  Contracts of the functions that look whether the marks in plans are still held (heldPlanS, heldPlan).
-/
import Derived.Test.YtmhlpjfijpomkaaGreatDoorProg
import Derived.Test.YtmhlpjfijpomkaaGreatDoorZqMkP
namespace Go.Proofs.YtmhlpjfijpomkaaGreatDoor
open Go.RowKit Go.Qo
set_option linter.unusedVariables false
set_option linter.unusedSimpArgs false

def HdP (x : Pl) : Prop := ∀ (f : FP) (q : Pl) (c : Nat) (k : Int) (w : World), PlIn w w.heap.size f q → q.kids = (rePls k x.kids).1 → PlB x → 0 ≤ k → k + plsMk x.kids ≤ 1099511627776 →
  Calls Tryz.prog 37 #[.slice f.ks.A x.kids.length c, .int .i64 k] w fun e w' => e = .returned (.int .i64 (k + plsMk x.kids)) ∧ Below w.heap.size w w'

set_option maxRecDepth 20000 in
set_option maxHeartbeats 2000000 in
theorem heldPlanS_of (ps : List Pl) (he : ∀ x ∈ ps, HdP x) (hB : ∀ x ∈ ps, PlB x) (f : FP) (q : Pl) (c : Nat) (k : Int) (w : World) (h : PlIn w w.heap.size f q) (hq : q.kids = (rePls k ps).1) (hn : ps.length ≤ 1048576) (hk0 : 0 ≤ k) (hk : k + plsMk ps ≤ 1099511627776) :
    Calls Tryz.prog 37 #[.slice f.ks.A ps.length c, .int .i64 k] w fun e w' => e = .returned (.int .i64 (k + plsMk ps)) ∧ Below w.heap.size w w' := by
  obtain ⟨KA, hKA⟩ : ∃ a, f.ks.A = a := ⟨_, rfl⟩
  rw [hKA]
  have HKA := Lib.hid hKA
  have HE := Lib.hid he
  have HPB := Lib.hid hB
  have HH := Lib.hid h
  have HQ := Lib.hid hq
  clear he hB h hq hKA
  go_enter Tryz.func37, Tryz.ntmps37
  go_wp2
  go_loopg [1, 5] (ps.length) (fun g kv iv wr => ∃ (i : Nat) (kk : Int), i ≤ ps.length ∧ g = ps.length - i ∧ kk = (rePls k (ps.take i)).2 ∧ kv = .int .i64 kk ∧ iv = .int .i64 i ∧ Below w.heap.size w wr)
  case atStart => exact ⟨0, k, by omega, by omega, by rw [List.take_zero, rePls], rfl, rfl, Below.refl _ _⟩
  case round =>
    obtain ⟨i, kk, hi, rfl, hkk, rfl, rfl, hb⟩ := hrel
    have hke := rePls_end (ps.take i) k
    rw [← hkk] at hke
    have hsum0 := plsMk_append (ps.take i) (ps.drop i)
    rw [List.take_append_drop] at hsum0
    have hkk1 : 0 ≤ kk ∧ kk ≤ 1099511627776 := by omega
    have HKK := Lib.hid hkk
    have HB := Lib.hid hb
    clear hkk hb
    by_cases hlt : i < ps.length
    · obtain ⟨x, hx⟩ : ∃ x, ps[i]? = some x := ⟨_, List.getElem?_eq_getElem hlt⟩
      have hdr : ps.drop i = x :: ps.drop (i + 1) := by
        rw [List.drop_eq_getElem_cons hlt]
        rw [List.getElem?_eq_getElem hlt] at hx
        rw [Option.some.inj hx]
      have hmem : x ∈ ps := List.mem_of_getElem? hx
      have hil : i < q.kids.length := by rw [HQ.out, rePls_len]; exact hlt
      have hget := rePls_get ps k i x hx
      rw [← HKK.out, ← HQ.out, List.getElem?_eq_getElem hil] at hget
      obtain ⟨b, o, g, hA, hbB, hat, hin⟩ := (HH.out.on HB.out).kid hil
      rw [Option.some.inj hget, rePl_eq] at hin
      have hpb := HPB.out x hmem
      obtain ⟨⟨b1, b2, b3⟩, hexb, _⟩ := hpb.all
      have hcx := plMk_eq x
      rw [hdr, plsMk] at hsum0
      obtain ⟨k1, hk1⟩ : ∃ k1 : Int, kk + 2 + 4 * ((x.exprs.length : Int) + (exKids x.exprs : Int)) = k1 := ⟨_, rfl⟩
      obtain ⟨k2, hk2⟩ : ∃ k2 : Int, k1 + (x.cols.length : Int) = k2 := ⟨_, rfl⟩
      obtain ⟨k3, hk3⟩ : ∃ k3 : Int, k2 + (plsMk x.kids : Int) = k3 := ⟨_, rfl⟩
      rw [hk1, hk2] at hin
      have hkb : k3 ≤ 1099511627776 ∧ k3 = kk + plMk x := by omega
      obtain ⟨h1, h2, ⟨h3, _, _⟩, ⟨h4, _, _⟩, ⟨h5, _, _⟩, h6, h7⟩ := hin.flat
      change g.kind = kk at h1
      change g.table = kk + 1 at h2
      change g.es.n = (reKids (kk + 2) x.exprs).1.length at h3
      change g.cs.n = (markI k1 x.cols.length).length at h4
      change g.ks.n = (rePls k2 x.kids).1.length at h5
      change ExsIn wr wr.heap.size g.es.A (reKids (kk + 2) x.exprs).1 at h6
      change Sl 1 intC wr wr.heap.size g.cs.A (markI k1 x.cols.length) at h7
      rw [reKids_len] at h3
      rw [markI_length] at h4
      rw [rePls_len] at h5
      have ME := Lib.hid (heldExprS_of x.exprs (fun y hy => heldExprS_ok y (hexb y hy)) (fun y hy => (hexb y hy).len) g.es.A g.es.c (kk + 2) wr b1 h6 (by omega) (by omega))
      rw [reKids_end, hk1] at ME
      have MI := Lib.hid (fun (z : World) (hz : Below wr.heap.size wr z) => heldIntS_ok g.cs.A g.cs.c x.cols.length k1 z (by omega) (by omega) b2 (h7.on hz))
      rw [hk2] at MI
      have MP := Lib.hid (fun (z : World) (hz : Below wr.heap.size wr z) => HE.out x hmem g _ g.ks.c k2 z (hin.on hz) rfl hpb (by omega) (by omega))
      rw [hk3] at MP
      obtain ⟨c0, c1, c2, c3, c4⟩ := hat
      rw [h1] at c0
      rw [h2] at c1
      rw [h3] at c2
      rw [h4] at c3
      rw [h5] at c4
      have CX := Lib.hid (fun (z : World) (hz : Below wr.heap.size wr z) => show _ ∧ _ from And.intro ((hz.cell hbB).trans c3) ((hz.cell hbB).trans c4))
      have HRE := Lib.hid (And.intro hx hkb.2)
      rw [HKA.out] at hA
      subst hA
      have hn1 : ¬ k1 < 0 := by omega
      have hn2 : ¬ k2 < 0 := by omega
      have hn3 : ¬ k3 < 0 := by omega
      have w1 : IntKind.i64.wrap (kk + 1) = kk + 1 := IntWalk.i64_in _ (by omega)
      have w2 : IntKind.i64.wrap (kk + 1 + 1) = kk + 2 := by rw [show kk + 1 + 1 = kk + 2 by omega]; exact IntWalk.i64_in _ (by omega)
      clear h1 h2 h3 h4 h5 h6 h7 hin hget hdr hsum0 hcx hk1 hk2 hk3 hkb hke hx hpb hexb
      go_wp2_with fail
      refine ME.out.mono ?_
      rintro e w5 ⟨rfl, hb5⟩
      have HB5 := Lib.hid hb5
      obtain ⟨q3, q4⟩ := CX.out w5 hb5
      clear hb5 c0 c1 c2 c3 c4
      go_wp2_with fail
      refine (MI.out w5 HB5.out).mono ?_
      rintro e w6 ⟨rfl, rfl⟩
      go_wp2_with fail
      refine (MP.out w5 HB5.out).mono ?_
      rintro e w7 ⟨rfl, hb7⟩
      have HB7 := Lib.hid (bch HB.out (bch HB5.out hb7))
      clear hb7 q3 q4
      go_wp2
      go_roundg (ps.length - (i + 1))
      case measure => omega
      case rel =>
        refine ⟨i + 1, k3, by omega, rfl, ?_, rfl, by go_num, HB7.out⟩
        rw [List.take_add_one, HRE.out.1]
        show _ = (rePls k (ps.take i ++ [x])).2
        rw [rePls_snoc, ← HKK.out]
        show k3 = (rePl kk x).2
        rw [rePl_cnt, HRE.out.2]
    · have hie : i = ps.length := by omega
      have HIE := Lib.hid hie
      go_wp2
      go_ret
      have hk2 := HKK.out
      rw [HIE.out, List.take_of_length_le (Nat.le_refl _), rePls_end] at hk2
      exact ⟨ret_int hk2, HB.out⟩
theorem heldPlanS_ok : ∀ x : Pl, HdP x := Pl.ind fun x ih f q c k w h hq hB h0 hk => heldPlanS_of x.kids ih (fun y hy => hB.all.2.2 y hy) f q c k w h hq hB.all.1.2.2 h0 hk

set_option maxHeartbeats 1000000 in
theorem heldPlan_ok (x : Pl) (f : FP) (k : Int) (w : World) (h : PlIn w w.heap.size f (rePT k x)) (hB : PlB x) (hk0 : 0 ≤ k) (hk : k + ptMk x ≤ 1099511627776) :
    Calls Tryz.prog 13 #[fpV f, .int .i64 k] w fun e w' => e = .returned (.int .i64 (k + ptMk x)) ∧ Below w.heap.size w w' := by
  obtain ⟨⟨b1, b2, b3⟩, hexb, _⟩ := hB.all
  have hpt : ptMk x = 4 * (x.exprs.length + exKids x.exprs) + x.cols.length + plsMk x.kids := rfl
  obtain ⟨W1, hW1⟩ : ∃ z, w.alloc (.cells #[.int .i64 f.kind, .int .i64 f.table, .slice f.es.A f.es.n f.es.c, .slice f.cs.A f.cs.n f.cs.c, .slice f.ks.A f.ks.n f.ks.c] 26) = z := ⟨_, rfl⟩
  have B1 : Below w.heap.size w W1 := by rw [← hW1]; exact balloc (Below.refl _ _) _
  have r1 : Row W1 w.heap.size 26 [.int .i64 f.kind, .int .i64 f.table, .slice f.es.A f.es.n f.es.c, .slice f.cs.A f.cs.n f.cs.c, .slice f.ks.A f.ks.n f.ks.c] := by rw [← hW1]; exact Row.new _ _ _
  obtain ⟨k1, hk1⟩ : ∃ k1 : Int, k + 4 * ((x.exprs.length : Int) + (exKids x.exprs : Int)) = k1 := ⟨_, rfl⟩
  obtain ⟨k2, hk2⟩ : ∃ k2 : Int, k1 + (x.cols.length : Int) = k2 := ⟨_, rfl⟩
  obtain ⟨k3, hk3⟩ : ∃ k3 : Int, k2 + (plsMk x.kids : Int) = k3 := ⟨_, rfl⟩
  have hkb : k3 = k + ptMk x := by omega
  rw [← hkb] at hk ⊢
  unfold rePT at h
  rw [hk1, hk2] at h
  have h0 := h.on B1
  obtain ⟨g1, g2, ⟨h3, _, _⟩, ⟨h4, _, _⟩, ⟨h5, _, _⟩, h6, h7⟩ := h0.flat
  clear g1 g2
  change f.es.n = (reKids k x.exprs).1.length at h3
  change f.cs.n = (markI k1 x.cols.length).length at h4
  change f.ks.n = (rePls k2 x.kids).1.length at h5
  change ExsIn W1 W1.heap.size f.es.A (reKids k x.exprs).1 at h6
  change Sl 1 intC W1 W1.heap.size f.cs.A (markI k1 x.cols.length) at h7
  rw [reKids_len] at h3
  rw [markI_length] at h4
  rw [rePls_len] at h5
  have ME := Lib.hid (heldExprS_of x.exprs (fun y hy => heldExprS_ok y (hexb y hy)) (fun y hy => (hexb y hy).len) f.es.A f.es.c k W1 b1 h6 hk0 (by omega))
  rw [reKids_end, hk1] at ME
  have MI := Lib.hid (fun (z : World) (hz : Below W1.heap.size W1 z) => heldIntS_ok f.cs.A f.cs.c x.cols.length k1 z (by omega) (by omega) b2 (h7.on hz))
  rw [hk2] at MI
  have MP := Lib.hid (fun (z : World) (hz : Below W1.heap.size W1 z) => heldPlanS_ok x f _ f.ks.c k2 z (h0.on hz) rfl hB (by omega) (by omega))
  rw [hk3] at MP
  rw [h3, h4, h5] at r1
  have CX := Lib.hid (fun (z : World) (hz : Below W1.heap.size W1 z) => show z.cell? ⟨w.heap.size, 3, none⟩ = some (.slice f.cs.A x.cols.length f.cs.c) ∧ z.cell? ⟨w.heap.size, 4, none⟩ = some (.slice f.ks.A x.kids.length f.ks.c) from ⟨(r1.on hz).cell 3, (r1.on hz).cell 4⟩)
  have c2 : W1.cell? ⟨w.heap.size, 2, none⟩ = some (.slice f.es.A x.exprs.length f.es.c) := r1.cell 2
  have HW1 := Lib.hid hW1
  have HB1 := Lib.hid B1
  have hn1 : ¬ k1 < 0 := by omega
  have hn2 : ¬ k2 < 0 := by omega
  have hn3 : ¬ k3 < 0 := by omega
  unfold fpV
  clear h h0 h3 h4 h5 h6 h7 hW1 B1 r1 hk1 hk2 hk3 hkb hpt hexb
  go_enter Tryz.func13, Tryz.ntmps13
  go_upto_region 1 with fail
  rw [HW1.out]
  go_wp2_with fail
  refine ME.out.mono ?_
  rintro e w5 ⟨rfl, hb5⟩
  have HB5 := Lib.hid hb5
  obtain ⟨q3, q4⟩ := CX.out w5 hb5
  clear hb5 c2
  go_wp2_with fail
  refine (MI.out w5 HB5.out).mono ?_
  rintro e w6 ⟨rfl, rfl⟩
  go_wp2_with fail
  refine (MP.out w5 HB5.out).mono ?_
  rintro e w7 ⟨rfl, hb7⟩
  go_wp2
  go_ret
  exact ⟨rfl, bch HB1.out (bch HB5.out hb7)⟩
end Go.Proofs.YtmhlpjfijpomkaaGreatDoor
