/-
  Contract: which columns of a plan's result may be null, as the reference says it (nullable). (Printed by wip/nuw.py.)
-/
import Derived.Test.YtcbfbgngkdiijaaProg
import Derived.Test.YtcbfbgngkdiijaaZnNuL
import Derived.Test.YtcbfbgngkdiijaaZnNuT
import Derived.Test.YtcbfbgngkdiijaaZnGc
import Derived.Test.YtcbfbgngkdiijaaZnPlS
import Derived.Test.YtcbfbgngkdiijaaZnPln
import Derived.Test.YtcbfbgngkdiijaaZnExW
namespace Go.Proofs.Ytcbfbgngkdiijaa
open Go.RowKit Go.Qo
set_option linter.unusedVariables false
set_option linter.unusedSimpArgs false

/-- A list of flags of the call's own. -/
def OwnB (xs : List Bool) (w : World) (e : Ending) (w' : World) : Prop := ∃ v, e = .returned v ∧ Ow w.heap.size 4 1 boolC w' v xs ∧ Below w.heap.size w w'
/-- What a loop that grows a list keeps: of what was there at W2 the list's first block alone may have changed. -/
def NuK (m : Nat) (W2 wr : World) (v : Value) : Prop := Only (fun k => k = m) W2 wr ∧ ∀ k, v.ownBlock = some k → k = m ∨ W2.heap.size ≤ k
theorem NuK.below {m : Nat} {W2 wr z : World} {v : Value} (h : NuK m W2 wr v) (k : Below wr.heap.size wr z) : NuK m W2 z v := ⟨h.1.below k, h.2⟩
theorem NuK.app {m : Nat} {W2 wr w' : World} {v v' : Value} (h : NuK m W2 wr v) (hgr : wr.grownBy w' v.ownBlock) (hob : v'.ownBlock = v.ownBlock ∨ v'.ownBlock = some wr.heap.size) : NuK m W2 w' v' :=
  ⟨h.1.grown hgr h.2, fun k hk => by
    rcases hob with e | e
    · exact h.2 k (by rw [← e]; exact hk)
    · rw [e] at hk; cases hk; exact .inr h.1.size⟩
theorem NuK.start {m : Nat} {W2 : World} {v : Value} (h : ∀ k, v.ownBlock = some k → k = m) : NuK m W2 W2 v := ⟨Only.refl _, fun k hk => .inl (h k hk)⟩
theorem NuK.sl {m : Nat} {W2 wr : World} {v : Value} (h : NuK m W2 wr v) {α : Type} {sz : Nat} {enc : α → List Value} {A : Option Addr} {xs : List α} (g : SlS (fun k => k ≠ m) sz enc W2 A xs) : Sl sz enc wr wr.heap.size A xs :=
  (g.keep h.1.size fun b hb hl => h.1.block b hl hb).sl
theorem NuK.from_ {m : Nat} {w W2 wr : World} {v : Value} (h : NuK m W2 wr v) (hb : Below w.heap.size w W2) (hm : w.heap.size ≤ m) : Below w.heap.size w wr := Only.from_ hb rfl h.1 fun i hi => by omega
theorem filN_take {e : Ex} {l : List Bool} {i : Nat} (h : i < l.length) : (filN e l).take (i + 1) = (filN e l).take i ++ [l[i] && Qo.has (outc ((stsOf l).set i 4) e) 2] := by
  unfold filN
  rw [List.take_add_one, List.getElem?_map, List.getElem?_range h]
  have e : l.getD i false = l[i] := by rw [List.getD_eq_getElem?_getD, List.getElem?_eq_getElem h]; rfl
  rw [← e]
  rfl
theorem filN_len {e : Ex} {l : List Bool} : (filN e l).length = l.length := by simp [filN]
theorem map_take {α β : Type} {f : α → β} {l : List α} {i : Nat} (h : i < l.length) : (l.map f).take (i + 1) = (l.map f).take i ++ [f l[i]] := by
  rw [List.take_add_one, List.getElem?_map, List.getElem?_eq_getElem h]; rfl
theorem rangeMap_take {β : Type} {f : Nat → β} {n i : Nat} (h : i < n) : ((List.range n).map f).take (i + 1) = ((List.range n).map f).take i ++ [f i] := by
  rw [List.take_add_one, List.getElem?_map, List.getElem?_range h]; rfl

theorem nkids_twoN {p : Pl} (ho : OnlyF p) (h : p.kind = 4 ∨ p.kind = 5 ∨ p.kind = 6) : p.kids.length = 2 := by
  have := ho.2.1
  unfold nkids at this
  rw [if_neg (by omega), if_pos h] at this
  omega
def NulS (flags : List (List Bool)) (p : Pl) : Prop := ∀ (f : FP) (ws : List Int) (A : Option Addr) (c d : Nat) (w : World), (∀ x ∈ ws, 1 ≤ x ∧ x ≤ 6) → FlOk ws flags → flags.length ≤ maxLen → PlIn w w.heap.size f p → plW ws d p ≠ 0 → FlIn w w.heap.size A flags →
  Calls Try.prog 19 #[fpV f, .slice A flags.length c] w (OwnB (nulP flags p) w)

set_option maxRecDepth 20000 in
set_option maxHeartbeats 16000000 in
theorem specNullable_ok (flags : List (List Bool)) : ∀ p : Pl, NulS flags p := Pl.ind fun p ih f ws A c d w hws hfo hfm h hv hfl => by
  obtain ⟨a1, a2, ⟨a3, a3', a3''⟩, ⟨a4, a4', a4''⟩, ⟨a5, a5', a5''⟩, a6, a7⟩ := h.flat
  obtain ⟨W0, hW0⟩ : ∃ z, w.alloc (.cells #[.int .i64 p.kind, .int .i64 p.table, .slice f.es.A p.exprs.length f.es.c, .slice f.cs.A p.cols.length f.cs.c, .slice f.ks.A p.kids.length f.ks.c] 27) = z := ⟨_, rfl⟩
  obtain ⟨W1, hW1⟩ : ∃ z, W0.alloc (.cells #[] 4) = z := ⟨_, rfl⟩
  have s0 : W0.heap.size = w.heap.size + 1 := by rw [← hW0]; simp
  have s1 : W1.heap.size = w.heap.size + 2 := by rw [← hW1]; simp [s0]
  have B0 : Below w.heap.size w W0 := by rw [← hW0]; exact balloc (Below.refl _ _) _
  have B01 : Below W0.heap.size W0 W1 := by rw [← hW1]; exact balloc (Below.refl _ _) _
  have B1 : Below w.heap.size w W1 := bch B0 B01
  have r0 : Row W0 w.heap.size 27 [.int .i64 p.kind, .int .i64 p.table, .slice f.es.A p.exprs.length f.es.c, .slice f.cs.A p.cols.length f.cs.c, .slice f.ks.A p.kids.length f.ks.c] := by rw [← hW0]; exact Row.new _ _ _
  have r1 := r0.on B01
  have HO1 := Lib.hid (show Ow w.heap.size 4 1 boolC W1 (.slice (some ⟨w.heap.size + 1, 0, none⟩) 0 0) ([] : List Bool) by rw [← hW1, ← s0]; exact Ow.lit (xs := ([] : List Bool)) rfl rfl (by omega) (by decide))
  have BX := Lib.hid (fun (z : World) (hz : Row z w.heap.size 27 [.int .i64 p.kind, .int .i64 p.table, .slice f.es.A p.exprs.length f.es.c, .slice f.cs.A p.cols.length f.cs.c, .slice f.ks.A p.kids.length f.ks.c]) => show z.cell? ⟨w.heap.size, 0, none⟩ = some (.int .i64 p.kind) ∧ z.cell? ⟨w.heap.size, 1, none⟩ = some (.int .i64 p.table) ∧ z.cell? ⟨w.heap.size, 2, none⟩ = some (.slice f.es.A p.exprs.length f.es.c) ∧ z.cell? ⟨w.heap.size, 3, none⟩ = some (.slice f.cs.A p.cols.length f.cs.c) ∧ z.cell? ⟨w.heap.size, 4, none⟩ = some (.slice f.ks.A p.kids.length f.ks.c) from ⟨hz.cell 0, hz.cell 1, hz.cell 2, hz.cell 3, hz.cell 4⟩)
  have HR1 := Lib.hid r1
  have HW1 := Lib.hid (show (w.alloc (.cells #[.int .i64 p.kind, .int .i64 p.table, .slice f.es.A p.exprs.length f.es.c, .slice f.cs.A p.cols.length f.cs.c, .slice f.ks.A p.kids.length f.ks.c] 27)).alloc (.cells #[] 4) = W1 by rw [hW0, hW1])
  have HK := Lib.hid (fun (z : World) (hz : Below w.heap.size w z) (i : Nat) (hi : i < p.kids.length) => (h.on hz).kid hi)
  have HE := Lib.hid (fun (z : World) (hz : Below w.heap.size w z) => a6.on hz)
  have HC := Lib.hid (fun (z : World) (hz : Below w.heap.size w z) => a7.on hz)
  have HF := Lib.hid (fun (z : World) (hz : Below w.heap.size w z) => hfl.on hz)
  have HB1 := Lib.hid B1
  have IH := Lib.hid ih
  have HV := Lib.hid hv
  have HWS := Lib.hid (And.intro hws hfo)
  have hof : OnlyF p := Classical.byContradiction fun hn => hv (plW_no hn)
  have Hof := Lib.hid hof
  have HNT := Lib.hid (nuTop hws hfo hv)
  have hkb : p.kids.length ≤ maxLen ∧ p.cols.length ≤ maxLen ∧ p.exprs.length ≤ maxLen := by omega
  have hfmm := hfm
  unfold maxLen at hkb hfmm
  obtain ⟨hkb1, hkb2, hkb3⟩ := hkb
  obtain ⟨R, hR⟩ : ∃ R, nulP flags p = R := ⟨_, rfl⟩
  have HR := Lib.hid (show R = _ from hR.symm.trans (nulP_top flags p))
  rw [hR]
  unfold fpV
  rw [a1, a2, a3, a4, a5]
  have hk8 := hof.1
  have HMX := Lib.hid hfm
  clear h hv hws hfo hfm hfl ih a1 a2 a3 a4 a5 a3' a3'' a4' a4'' a5' a5'' a6 a7 B0 B01 B1 hof r0 r1 hW0 hW1 s0 hR
  by_cases hk1 : p.kind = 1
  · have hsc := plW_scan HV.out hk1
    obtain ⟨j, hj⟩ := Int.eq_ofNat_of_zero_le hsc.1
    have hjl : j < flags.length := by have := HWS.out.2.1; omega
    have hjI : (j : Int) < (flags.length : Int) := by omega
    have hz := HR.out
    rw [if_pos hk1, hj, Int.toNat_natCast, List.getD_eq_getElem?_getD, List.getElem?_eq_getElem hjl] at hz
    have hz2 : R = flags[j] := hz
    have HZ := Lib.hid hz2
    obtain ⟨bs, os, s, hA, hBs, cc, hs1, hs2, hsl⟩ := (HF.out _ HB1.out).at_ hjl
    subst hA
    rw [← hz2] at cc hs1 hsl
    have hRl : R.length ≤ 6 := by
      have h1 := HWS.out.2.2 j flags[j] (ws[j]'(by rw [← HWS.out.2.1]; exact hjl)) (List.getElem?_eq_getElem hjl) (List.getElem?_eq_getElem _)
      have h2 := HWS.out.1 _ (List.getElem_mem (show j < ws.length by rw [← HWS.out.2.1]; exact hjl))
      rw [hz2]
      omega
    have HSL := Lib.hid hsl
    obtain ⟨c0, c1, c2, c3, c4⟩ := BX.out _ HR1.out
    rw [hk1] at c0
    rw [hj] at c1
    have hszW : w.heap.size ≤ W1.heap.size := HB1.out.size
    clear hsc hj hk1 hz hz2 hsl c2 c3 c4
    go_enter Try.func19, Try.ntmps19
    go_upto_region 2 with fail
    rw [HW1.out]
    go_wp2_with (at_builtin; refine wpList_app rfl (.tmp 19) (.tmp 24) 31 rfl w.heap.size 4 _ 1 1 boolC Try.underlying31 zeroBoolN rfl (by decide) (by decide) boolC_length boolC_one _ ([] : List Bool) rfl HO1.out s.A R.length s.c R rfl rfl HSL.out (by simp; omega) hszW ?_; intro v' w' hown hgr)
    go_ret
    exact ⟨_, rfl, hown, HB1.out.grown hgr hszW fun k hk => (HO1.out.ty k hk).1⟩
  have hk1' : (p.kind == 1) = false := by simpa using hk1
  have NT := Lib.hid (HNT.out hk1)
  have hkp : 0 < p.kids.length := by
    have := Hof.out.2.1
    unfold nkids at this
    rw [if_neg hk1] at this
    split at this <;> omega
  obtain ⟨_, e, rfl, hv0⟩ := plW_kids HV.out (List.getElem_mem hkp)
  obtain ⟨q0, o0, g, hA0, hq0, ⟨d0, d1, d2, d3, d4⟩, hg⟩ := HK.out _ HB1.out 0 hkp
  have HX0 := Lib.hid (IH.out _ (List.getElem_mem hkp) g ws A c e W1 HWS.out.1 HWS.out.2 HMX.out hg hv0 (HF.out _ HB1.out))
  rw [← kidN_at (flags := flags) hkp] at HX0
  have hxl := NT.out.len
  obtain ⟨xs, hxs⟩ : ∃ l, kidN flags p 0 = l := ⟨_, rfl⟩
  obtain ⟨ys, hys⟩ : ∃ l, kidN flags p 1 = l := ⟨_, rfl⟩
  have HXS := Lib.hid hxs
  have HYS := Lib.hid hys
  have HZ := Lib.hid (show R = if p.kind = 2 then filN (p.exprs.getD 0 (.mk 0 0 (false, 0) [])) xs else if p.kind = 3 then p.exprs.map fun e => Qo.has (outc (stsOf xs) e) 4 else if p.kind = 4 then xs ++ ys else if p.kind = 5 then xs ++ ys.map fun _ => true else if p.kind = 6 then (List.range xs.length).map fun i => xs.getD i false || ys.getD i false else if p.kind = 8 then (p.cols.map fun c => xs.getD c.toNat false) ++ [false] else xs by
    rw [HR.out, if_neg hk1, hxs, hys])
  rw [hxs] at HX0 hxl
  rw [hys] at hxl
  have hAk := Lib.hid hA0
  simp only [Nat.zero_mul, Nat.add_zero] at d0 d1 d2 d3 d4
  have hkpI : (0 : Int) < (p.kids.length : Int) := by omega
  unfold fpV at HX0
  obtain ⟨c0, c1, c2, c3, c4⟩ := BX.out _ HR1.out
  rw [hA0] at c4
  clear hv0 hg hA0 hk1 hxs hys
  go_enter Try.func19, Try.ntmps19
  go_upto_region 2 with fail
  rw [HW1.out]
  go_wp2_with fail
  refine HX0.out.mono ?_
  rintro e' w2 ⟨v2, rfl, how2, hb2⟩
  obtain ⟨A2, cc2, rfl, hc21, hc22, _⟩ := how2.shape boolC_length
  have HB2 := Lib.hid hb2
  have HB12 := Lib.hid (bch HB1.out hb2)
  have HR2 := Lib.hid (HR1.out.on hb2)
  have HO2 := Lib.hid (HO1.out.on hb2)
  have HSX := Lib.hid ((slS_ow boolC_length how2 (S := fun k => k ≠ w.heap.size + 1) fun k hk => by have := (how2.ty k hk).1; show k ≠ w.heap.size + 1; omega))
  have HOX := Lib.hid how2
  have hsz2 := hb2.size
  unfold maxLen at hc22
  clear how2 hb2 d0 d1 d2 d3 d4 c0 c1 c2 c3 c4
  have HNK := Lib.hid (show NuK (w.heap.size + 1) w2 w2 (.slice (some ⟨w.heap.size + 1, 0, none⟩) 0 0) from NuK.start fun k hk => by cases hk; rfl)
  have hszw2 : w.heap.size ≤ w2.heap.size := by omega
  by_cases hk2 : p.kind = 2
  · have hz := HZ.out
    rw [if_pos hk2] at hz
    obtain ⟨hex, hel, hel1⟩ := NT.out.ex (.inl hk2)
    have hel1 := hel1 hk2
    have hp0 : 0 < p.exprs.length := by omega
    rw [List.getD_eq_getElem?_getD, List.getElem?_eq_getElem hp0] at hz
    have hz2 : R = filN p.exprs[0] xs := hz
    have HZ2 := Lib.hid hz2
    have HEX := Lib.hid (show ExOk (xs.length : Int) 8 p.exprs[0] by rw [← HXS.out]; exact hex _ (List.getElem_mem hp0))
    have hpI : (0 : Int) < (p.exprs.length : Int) := by omega
    obtain ⟨c0, c1, c2, c3, c4⟩ := BX.out _ HR2.out
    rw [hk2] at c0
    have HBASE := Lib.hid HB12.out
    have HRBASE := Lib.hid HR2.out
    clear hz hz2 hex hel1 hk1' hk8 hk2
    go_wp2
    go_loopg [5, 7] xs.length (fun g v iv wr => ∃ i : Nat, i ≤ xs.length ∧ g = xs.length - i ∧ iv = .int .i64 i ∧ Ow w.heap.size 4 1 boolC wr v ((filN p.exprs[0] xs).take i) ∧ NuK (w.heap.size + 1) w2 wr v)
    case atStart => exact ⟨0, by omega, by omega, rfl, HO2.out, HNK.out⟩
    case round =>
      clear c0 c1 c2 c3 c4
      obtain ⟨i, hi, rfl, rfl, how, hnk⟩ := hrel
      have HO := Lib.hid how
      have HN := Lib.hid hnk
      have HBW := Lib.hid (hnk.from_ HBASE.out (by omega))
      have HRW := Lib.hid (HRBASE.out.only hnk.1 (by omega))
      clear how hnk
      by_cases hil : i < xs.length
      · have hiI : (i : Int) < (xs.length : Int) := by omega
        have HSW := Lib.hid (HN.out.sl HSX.out)
        obtain ⟨b0, o0', rfl, hB0, e0⟩ := Sl.at1 (f := fun x : Bool => Value.bool x) HSW.out hil
        have Hy := Lib.hid (show (filN p.exprs[0] xs).take (i + 1) = _ from filN_take hil)
        have htl : ((filN p.exprs[0] xs).take i).length ≤ 6 := by rw [List.length_take, filN_len]; omega
        obtain ⟨q, hq⟩ : ∃ q, xs[i] = q := ⟨_, rfl⟩
        rw [hq] at e0 Hy
        have hqq := Lib.hid hq
        clear hq
        go_wp2_with fail
        refine (specStatesOf_ok _ _ xs _ (by omega) HSW.out).mono ?_
        rintro e' w3 ⟨v3, rfl, hb3, how3⟩
        obtain ⟨A3, cc3, rfl, hc31, hc32, _⟩ := how3.shape intC_length
        obtain ⟨g3, hA3, _, hg3, hg3l, _, hfz, hcl⟩ := how3.head intC_length (by rw [stsI_len]; omega)
        subst hA3
        have hj3 : ((stsI xs).flatMap intC)[i]? = some (.int .i64 ((stsI xs)[i]'(by rw [stsI_len]; exact hil))) := by
          rw [show ((stsI xs).flatMap intC) = (stsI xs).map (Value.int .i64) from by induction (stsI xs) with | nil => rfl | cons a l ih => simp [intC, ih]]
          rw [List.getElem?_map, List.getElem?_eq_getElem]; rfl
        have e3 := hcl i _ hj3
        have f3 := hfz i
        obtain ⟨W4, hW4⟩ : ∃ z, w3.setCell ⟨g3, i, none⟩ (.int .i64 4) = z := ⟨_, rfl⟩
        have HO4 := Lib.hid (show Ow wr.heap.size 3 1 intC W4 (.slice (some ⟨g3, 0, none⟩) (stsI xs).length cc3) ((stsI xs).set i 4) by
          have h1 := Ow.put how3 i (.int .i64 4)
          rw [hW4, flat_setI] at h1
          show W4.ownsRow _ _ _ _ ((stsI xs).set i 4).length _
          rw [List.length_set]
          exact h1)
        have hb4 : Below wr.heap.size wr W4 := by rw [← hW4]; exact hb3.setCell (p := ⟨g3, i, none⟩) hg3 _
        have HB4 := Lib.hid hb4
        have HN4 := Lib.hid (HN.out.below hb4)
        have HO4b := Lib.hid (HO.out.on hb4)
        have HR4 := Lib.hid (HRW.out.on hb4)
        have hle : (stsI xs).length = xs.length := stsI_len xs
        rw [hle]
        rw [hle] at hc31
        have HSS := Lib.hid (show Sl 1 intC W4 W4.heap.size (some ⟨g3, 0, none⟩) (stI ((stsOf xs).set i 4)) by
          rw [stI_set, stI_of]
          exact (slS_ow intC_length HO4.out (S := fun _ => True) fun _ _ => trivial).sl)
        have HW4 := Lib.hid hW4
        unfold maxLen at hc32
        clear hb3 hb4 hW4 how3 hj3 hcl hfz hle
        go_upto_region 12 with fail
        rw [HW4.out]
        obtain ⟨c0, c1, c2, c3, c4⟩ := BX.out _ HR4.out
        have e4 : W4.cell? ⟨b0, o0' + i, none⟩ = some (.bool q) := by
          obtain ⟨bz, oz, hz, _, ez⟩ := Sl.at1 (f := fun x : Bool => Value.bool x) (HN4.out.sl HSX.out) hil
          cases hz
          rw [ez, hqq.out]
        clear e0 e3 f3
        cases q
        · skip
          clear c0 c1 c3 c4
          obtain ⟨U, hU⟩ : ∃ z, W4.alloc (.cells #[.bool false] 4) = z := ⟨_, rfl⟩
          have hub : Below W4.heap.size W4 U := by rw [← hU]; exact balloc (Below.refl _ _) _
          have HO5 := Lib.hid (HO4b.out.on hub)
          have HN5 := Lib.hid (HN4.out.below hub)
          have HS5 := Lib.hid (show Sl 1 boolC U U.heap.size (some ⟨W4.heap.size, 0, none⟩) [false] by rw [← hU]; exact Row.sl' (t := 4) boolC_length ((Row.new W4 _ _).of rfl))
          have hsz5 : w.heap.size ≤ U.heap.size := (HN5.out.from_ HBASE.out (by omega)).size
          have HU := Lib.hid hU
          clear hU hub
          go_wp2_with (at_builtin; rw [HU.out]; refine wpList_app2 rfl (.tmp 47) (.tmp 62) 31 rfl w.heap.size 4 _ 1 1 boolC Try.underlying31 zeroBoolN rfl (by decide) (by decide) boolC_length boolC_one _ ((filN p.exprs[0] xs).take i) rfl HO5.out (some ⟨W4.heap.size, 0, none⟩) 1 1 ([false]) rfl rfl HS5.out (by simp only [List.length_singleton]; omega) hsz5 ?_; intro v' w' hown hgr hob)
          go_roundg (xs.length - (i + 1))
          case measure => omega
          case rel => exact ⟨i + 1, by omega, rfl, by go_num, by rw [Hy.out]; exact hown, HN5.out.app hgr hob⟩
        · obtain ⟨bx, ox, gx, hAx, hBx, ⟨x0, x1, x2, x3, x4⟩, hx⟩ := (HE.out _ (HN4.out.from_ HBASE.out (by omega))).at_ hp0
          simp only [Nat.zero_mul, Nat.add_zero] at x0 x1 x2 x3 x4
          rw [hAx] at c2
          have hl6 : ((stsOf xs).set i 4).length = xs.length := by rw [List.length_set, stsOf_len]
          have HOC := Lib.hid (specOutcomes_ok p.exprs[0] gx ((stsOf xs).set i 4) (some ⟨g3, 0, none⟩) cc3 8 W4 hx (by rw [hl6]; exact HEX.out) (by rw [hl6]; omega) ((stsOf_8 xs).set i 4 (by decide)) HSS.out)
          have ho8 := ((stsOf_8 xs).set i 4 (by decide)).outc p.exprs[0]
          rw [hl6] at HOC
          unfold feV at HOC
          obtain ⟨oc, hoc⟩ : ∃ n, outc ((stsOf xs).set i 4) p.exprs[0] = n := ⟨_, rfl⟩
          rw [hoc] at HOC ho8 Hy
          have ha2 := and2 ho8
          obtain ⟨r, hr⟩ : ∃ r, Qo.has oc 2 = r := ⟨_, rfl⟩
          rw [hr] at ha2 Hy
          rw [Bool.true_and] at Hy
          clear hx hAx hl6 hoc hr
          go_wp2_with fail
          refine HOC.out.mono ?_
          rintro e' w6 ⟨rfl, hb6⟩
          have HN6 := Lib.hid (HN4.out.below hb6)
          have HO6 := Lib.hid (HO4b.out.on hb6)
          clear hb6 c0 c1 c2 c3 c4 x0 x1 x2 x3 x4
          obtain ⟨U, hU⟩ : ∃ z, w6.alloc (.cells #[.bool r] 4) = z := ⟨_, rfl⟩
          have hub : Below w6.heap.size w6 U := by rw [← hU]; exact balloc (Below.refl _ _) _
          have HO5 := Lib.hid (HO6.out.on hub)
          have HN5 := Lib.hid (HN6.out.below hub)
          have HS5 := Lib.hid (show Sl 1 boolC U U.heap.size (some ⟨w6.heap.size, 0, none⟩) [r] by rw [← hU]; exact Row.sl' (t := 4) boolC_length ((Row.new w6 _ _).of rfl))
          have hsz5 : w.heap.size ≤ U.heap.size := (HN5.out.from_ HBASE.out (by omega)).size
          have HU := Lib.hid hU
          clear hU hub
          go_wp2_with (at_builtin; rw [HU.out]; refine wpList_app2 rfl (.tmp 47) (.tmp 62) 31 rfl w.heap.size 4 _ 1 1 boolC Try.underlying31 zeroBoolN rfl (by decide) (by decide) boolC_length boolC_one _ ((filN p.exprs[0] xs).take i) rfl HO5.out (some ⟨w6.heap.size, 0, none⟩) 1 1 ([r]) rfl rfl HS5.out (by simp only [List.length_singleton]; omega) hsz5 ?_; intro v' w' hown hgr hob)
          go_roundg (xs.length - (i + 1))
          case measure => omega
          case rel => exact ⟨i + 1, by omega, rfl, by go_num, by rw [Hy.out]; exact hown, HN5.out.app hgr hob⟩
      · have hiI : ¬ (i : Int) < (xs.length : Int) := by omega
        have hte : (filN p.exprs[0] xs).take i = R := by rw [HZ2.out]; exact List.take_of_length_le (by rw [filN_len]; omega)
        rw [hte] at HO
        clear hte
        go_wp2
        go_ret
        exact ⟨_, rfl, HO.out, HBW.out⟩
  have hk2' : (p.kind == 2) = false := by simpa using hk2
  by_cases hk3 : p.kind = 3
  · have hz := HZ.out
    rw [if_neg hk2, if_pos hk3] at hz
    obtain ⟨hex, hel, _⟩ := NT.out.ex (.inr hk3)
    obtain ⟨L3, hL3⟩ : ∃ l, (p.exprs.map fun e => Qo.has (outc (stsOf xs) e) 4) = l := ⟨_, rfl⟩
    rw [hL3] at hz
    have HZ2 := Lib.hid hz
    have HL3 := Lib.hid hL3
    have HEL := Lib.hid (show ∀ e ∈ p.exprs, ExOk (xs.length : Int) 8 e by rw [← HXS.out]; exact hex)
    have hL3l : L3.length = p.exprs.length := by rw [← hL3]; simp
    have HL3l := Lib.hid hL3l
    obtain ⟨c0, c1, c2, c3, c4⟩ := BX.out _ HR2.out
    rw [hk3] at c0
    have HBASE := Lib.hid HB12.out
    have HRBASE := Lib.hid HR2.out
    have Hk3 := Lib.hid hk3
    clear hz hex hk1' hk8 hk2 hk2' hk3 hL3 hL3l
    go_wp2
    go_loopg [5, 9] p.exprs.length (fun g v iv wr => ∃ i : Nat, i ≤ p.exprs.length ∧ g = p.exprs.length - i ∧ iv = .int .i64 i ∧ Ow w.heap.size 4 1 boolC wr v (L3.take i) ∧ NuK (w.heap.size + 1) w2 wr v)
    case atStart => exact ⟨0, by omega, by omega, rfl, HO2.out, HNK.out⟩
    case round =>
      clear c0 c1 c2 c3 c4
      obtain ⟨i, hi, rfl, rfl, how, hnk⟩ := hrel
      have HO := Lib.hid how
      have HN := Lib.hid hnk
      have HBW := Lib.hid (hnk.from_ HBASE.out (by omega))
      have HRW := Lib.hid (HRBASE.out.only hnk.1 (by omega))
      clear how hnk
      obtain ⟨c0, c1, c2, c3, c4⟩ := BX.out _ HRW.out
      by_cases hil : i < p.exprs.length
      · have hiI : (i : Int) < (p.exprs.length : Int) := by omega
        obtain ⟨bx, ox, gx, hAx, hBx, hxat, hx⟩ := (HE.out _ (Below.refl _ _)).at_ hil
        rw [hAx] at c2
        have HXA := Lib.hid hAx
        have HXT := Lib.hid hxat
        have hbw : bx ≠ w.heap.size + 1 := by omega
        have Hy := Lib.hid (show L3.take (i + 1) = L3.take i ++ [Qo.has (outc (stsOf xs) p.exprs[i]) 4] by rw [← HL3.out]; exact map_take hil)
        have htl : (L3.take i).length ≤ 6 := by rw [List.length_take, HL3l.out]; omega
        have HEX := Lib.hid (HEL.out _ (List.getElem_mem hil))
        have ho8 := (stsOf_8 xs).outc p.exprs[i]
        obtain ⟨oc, hoc⟩ : ∃ n, outc (stsOf xs) p.exprs[i] = n := ⟨_, rfl⟩
        rw [hoc] at ho8 Hy
        have HOQ := Lib.hid hoc
        have ha4 := and4 ho8
        obtain ⟨r, hr⟩ : ∃ r, Qo.has oc 4 = r := ⟨_, rfl⟩
        rw [hr] at ha4 Hy
        have SB := Lib.hid (fun (z : World) (hz : Only (fun k => k = w.heap.size + 1) wr z) => show z.cell? ⟨w.heap.size, 2, none⟩ = some (.slice (some ⟨bx, ox, none⟩) p.exprs.length f.es.c) ∧ z.cell? ⟨bx, ox + i * 5, none⟩ = some (.int .i64 gx.kind) ∧ z.cell? ⟨bx, ox + i * 5 + 1, none⟩ = some (.int .i64 gx.col) ∧ z.cell? ⟨bx, ox + i * 5 + 2, none⟩ = some (.bool gx.val.1) ∧ z.cell? ⟨bx, ox + i * 5 + 3, none⟩ = some (.int .i64 gx.val.2) ∧ z.cell? ⟨bx, ox + i * 5 + 4, none⟩ = some (.slice gx.sv.A gx.sv.n gx.sv.c) from by
          obtain ⟨_, _, c2, _, _⟩ := BX.out z (HRW.out.only hz (by omega))
          rw [HXA.out] at c2
          obtain ⟨x0, x1, x2, x3, x4⟩ := feAt_belowI HXT.out (Only.from_ HBW.out rfl hz fun i hi => by have hi : i = w.heap.size + 1 := hi; omega) hBx
          exact ⟨c2, x0, x1, x2, x3, x4⟩)
        have SB2 := Lib.hid (fun (z : World) (hz : Only (fun k => k = w.heap.size + 1) w2 z) => show z.cell? ⟨w.heap.size, 2, none⟩ = some (.slice (some ⟨bx, ox, none⟩) p.exprs.length f.es.c) ∧ z.cell? ⟨bx, ox + i * 5, none⟩ = some (.int .i64 gx.kind) ∧ z.cell? ⟨bx, ox + i * 5 + 1, none⟩ = some (.int .i64 gx.col) ∧ z.cell? ⟨bx, ox + i * 5 + 2, none⟩ = some (.bool gx.val.1) ∧ z.cell? ⟨bx, ox + i * 5 + 3, none⟩ = some (.int .i64 gx.val.2) ∧ z.cell? ⟨bx, ox + i * 5 + 4, none⟩ = some (.slice gx.sv.A gx.sv.n gx.sv.c) from by
          obtain ⟨_, _, c2, _, _⟩ := BX.out z (HRBASE.out.only hz (by omega))
          rw [HXA.out] at c2
          obtain ⟨x0, x1, x2, x3, x4⟩ := feAt_belowI HXT.out (Only.from_ HBASE.out rfl hz fun i hi => by have hi : i = w.heap.size + 1 := hi; omega) hBx
          exact ⟨c2, x0, x1, x2, x3, x4⟩)
        obtain ⟨u0, hu0⟩ : ∃ z, wr.drew = z := ⟨_, rfl⟩
        have Bu0 := Lib.hid (show Below wr.heap.size wr u0 from hu0 ▸ (Below.refl _ _).drew)
        have Hu0 := Lib.hid hu0
        have HXI := Lib.hid (show ExIn wr wr.heap.size gx p.exprs[i] from hx.on HBW.out)
        have HSU := Lib.hid (show Sl 1 boolC u0 u0.heap.size A2 xs from (HN.out.below Bu0.out).sl HSX.out)
        clear hu0 hx hxat hAx hoc hr c0 c1 c3 c4
        go_upto_region 18 with fail
        refine wp_region_g 13 (fun z => z.cell? ⟨w.heap.size, 2, none⟩ = some (.slice (some ⟨bx, ox, none⟩) p.exprs.length f.es.c) ∧ z.cell? ⟨bx, ox + i * 5, none⟩ = some (.int .i64 gx.kind) ∧ z.cell? ⟨bx, ox + i * 5 + 1, none⟩ = some (.int .i64 gx.col) ∧ z.cell? ⟨bx, ox + i * 5 + 2, none⟩ = some (.bool gx.val.1) ∧ z.cell? ⟨bx, ox + i * 5 + 3, none⟩ = some (.int .i64 gx.val.2) ∧ z.cell? ⟨bx, ox + i * 5 + 4, none⟩ = some (.slice gx.sv.A gx.sv.n gx.sv.c)) (by kernel_rfl) ?_ (fun hHeld => ?_)
        · exact SB.out _ (Only.refl _ |>.below (Below.refl _ _).drew)
        rw [Hu0.out] at hHeld ⊢
        refine takeG (i := 0) (v := ?v1) rfl (by kernel_rfl) (by kernel_rfl) (by kernel_rfl) (by kernel_rfl) (fun _ _ _ h => h) (Or.inl ⟨by rfl, ?hy1⟩) (by assumption) ?_
        case hy1 => ((intro w' hSw; (try dsimp only at hSw); go_simp) <;> with_reducible rfl)
        try simp only [Act.put, List.setIfInBounds_toArray, List.set_cons_zero, List.set_cons_succ]
        refine takeG (i := 1) (v := ?v2) rfl (by kernel_rfl) (by kernel_rfl) (by kernel_rfl) (by kernel_rfl) (fun _ _ _ h => h) (Or.inl ⟨by rfl, ?hy2⟩) (by assumption) ?_
        case hy2 => ((intro w' hSw; (try dsimp only at hSw); go_simp) <;> with_reducible rfl)
        try simp only [Act.put, List.setIfInBounds_toArray, List.set_cons_zero, List.set_cons_succ]
        refine takeG (i := 2) (v := ?v3) rfl (by kernel_rfl) (by kernel_rfl) (by kernel_rfl) (by kernel_rfl) (fun _ _ _ h => h) (Or.inl ⟨by rfl, ?hy3⟩) (by assumption) ?_
        case hy3 => ((intro w' hSw; (try dsimp only at hSw); go_simp) <;> with_reducible rfl)
        try simp only [Act.put, List.setIfInBounds_toArray, List.set_cons_zero, List.set_cons_succ]
        refine takeG (i := 3) (v := ?v4) rfl (by kernel_rfl) (by kernel_rfl) (by kernel_rfl) (by kernel_rfl) (fun _ _ _ h => h) (Or.inl ⟨by rfl, ?hy4⟩) (by assumption) ?_
        case hy4 => ((intro w' hSw; (try dsimp only at hSw); go_simp) <;> with_reducible rfl)
        try simp only [Act.put, List.setIfInBounds_toArray, List.set_cons_zero, List.set_cons_succ]
        refine takeG (i := 4) (v := ?v5) rfl (by kernel_rfl) (by kernel_rfl) (by kernel_rfl) (by kernel_rfl) (fun _ _ _ h => h) (Or.inl ⟨by rfl, ?hy5⟩) (by assumption) ?_
        case hy5 => ((intro w' hSw; (try dsimp only at hSw); go_simp) <;> with_reducible rfl)
        try simp only [Act.put, List.setIfInBounds_toArray, List.set_cons_zero, List.set_cons_succ]
        refine takeG (i := 5) (v := ?v6) rfl (by kernel_rfl) (by kernel_rfl) (by kernel_rfl) (by kernel_rfl) (fun _ _ _ h => h) (Or.inl ⟨by rfl, ?hy6⟩) (by assumption) ?_
        case hy6 => ((intro w' hSw; (try dsimp only at hSw); go_simp) <;> with_reducible rfl)
        try simp only [Act.put, List.setIfInBounds_toArray, List.set_cons_zero, List.set_cons_succ]
        refine takeG (i := 6) (v := ?v7) rfl (by kernel_rfl) (by kernel_rfl) (by kernel_rfl) (by kernel_rfl) (fun _ _ _ h => h) (Or.inl ⟨by rfl, ?hy7⟩) (by assumption) ?_
        case hy7 => ((intro w' hSw; (try dsimp only at hSw); go_simp) <;> with_reducible rfl)
        try simp only [Act.put, List.setIfInBounds_toArray, List.set_cons_zero, List.set_cons_succ]
        refine wpAnyG_ready (rs := [7]) (by kernel_rfl) (by simp) ?_
        refine readyG rfl (fun K hK => ?_) AllReadyG.nil
        go_simp
        go_at_call 38
        refine (specStatesOf_ok _ _ xs u0 (by omega) HSU.out).mono ?_
        rintro e' y1 ⟨v3, rfl, hb, how3⟩
        obtain ⟨A3, cc3, rfl, hc31, hc32, _⟩ := how3.shape intC_length
        have hle : (stsI xs).length = xs.length := stsI_len xs
        have By1 := Lib.hid (bch Bu0.out hb)
        have HSS := Lib.hid (show Sl 1 intC y1 y1.heap.size A3 (stI (stsOf xs)) by rw [stI_of]; exact (slS_ow intC_length how3 (S := fun _ => True) fun _ _ => trivial).sl)
        have HOC := Lib.hid (specOutcomes_ok p.exprs[i] gx (stsOf xs) A3 cc3 8 y1 (HXI.out.on By1.out) (by rw [stsOf_len]; exact HEX.out) (by rw [stsOf_len]; omega) (stsOf_8 xs) HSS.out)
        rw [stsOf_len, HOQ.out] at HOC
        unfold feV at HOC
        rw [hle]
        unfold maxLen at hc32
        clear hb how3 hle hc31
        refine hK.out _ _ ?hS8 (fun hHeld => ?_)
        case hS8 => exact fun _ => SB.out _ (Only.refl _ |>.below By1.out)
        replace hHeld := hHeld (by decide)
        clear hK K
        try simp only [Act.put, List.setIfInBounds_toArray, List.set_cons_zero, List.set_cons_succ]
        refine wpAnyG_ready (rs := [8]) (by kernel_rfl) (by simp) ?_
        refine readyG rfl (fun K hK => ?_) AllReadyG.nil
        go_simp
        go_at_call 39
        refine HOC.out.mono ?_
        rintro e' y2 ⟨rfl, hb⟩
        have By2 := Lib.hid (bch By1.out hb)
        clear hb
        refine hK.out _ _ ?hS9 (fun hHeld => ?_)
        case hS9 => exact fun _ => SB.out _ (Only.refl _ |>.below By2.out)
        replace hHeld := hHeld (by decide)
        clear hK K
        try simp only [Act.put, List.setIfInBounds_toArray, List.set_cons_zero, List.set_cons_succ]
        refine takeG (i := 9) (v := ?v10) rfl (by kernel_rfl) (by kernel_rfl) (by kernel_rfl) (by kernel_rfl) (fun _ _ _ h => h) (Or.inl ⟨by rfl, ?hy10⟩) (by assumption) ?_
        case hy10 => ((intro w' hSw; (try dsimp only at hSw); go_simp) <;> with_reducible rfl)
        try simp only [Act.put, List.setIfInBounds_toArray, List.set_cons_zero, List.set_cons_succ]
        refine takeG (i := 10) (v := ?v11) rfl (by kernel_rfl) (by kernel_rfl) (by kernel_rfl) (by kernel_rfl) (fun _ _ _ h => h) (Or.inl ⟨by rfl, ?hy11⟩) (by assumption) ?_
        case hy11 => ((intro w' hSw; (try dsimp only at hSw); go_simp) <;> with_reducible rfl)
        try simp only [Act.put, List.setIfInBounds_toArray, List.set_cons_zero, List.set_cons_succ]
        refine wpAnyG_ready (rs := [11]) (by kernel_rfl) (by simp) ?_
        refine readyG rfl (fun K hK => ?_) AllReadyG.nil
        obtain ⟨U, hU⟩ : ∃ z, y2.alloc (.cells #[.bool r] 4) = z := ⟨_, rfl⟩
        have hub : Below y2.heap.size y2 U := by rw [← hU]; exact balloc (Below.refl _ _) _
        have HS5 := Lib.hid (show Sl 1 boolC U U.heap.size (some ⟨y2.heap.size, 0, none⟩) [r] by rw [← hU]; exact Row.sl' (t := 4) boolC_length ((Row.new y2 _ _).of rfl))
        have By3 := Lib.hid (bch By2.out hub)
        have HO5 := Lib.hid (HO.out.on By3.out)
        have HN5 := Lib.hid (HN.out.below By3.out)
        have hsz5 : w.heap.size ≤ U.heap.size := (HN5.out.from_ HBASE.out (by omega)).size
        go_simp
        try rw [hU]
        have HU := Lib.hid hU
        clear hU hub
        refine hK.out _ _ ?hS12 (fun hHeld => ?_)
        case hS12 => exact fun _ => SB.out _ (Only.refl _ |>.below By3.out)
        replace hHeld := hHeld (by decide)
        clear hK K
        try simp only [Act.put, List.setIfInBounds_toArray, List.set_cons_zero, List.set_cons_succ]
        refine wpAnyG_ready (rs := [12]) (by kernel_rfl) (by simp) ?_
        refine readyG rfl (fun K hK => ?_) AllReadyG.nil
        refine step_app2 rfl (.tmp 74) (.tmp 85) 31 rfl w.heap.size 4 _ 1 1 boolC Try.underlying31 zeroBoolN rfl (by decide) (by decide) boolC_length boolC_one _ (L3.take i) rfl HO5.out (some ⟨y2.heap.size, 0, none⟩) 1 1 [r] rfl rfl HS5.out (by simp only [List.length_singleton]; omega) hsz5 ?_
        intro v' w' hown hgr hob
        have HN6 := Lib.hid (HN5.out.app hgr hob)
        have HO6 := Lib.hid hown
        clear hown hgr hob
        refine hK.out _ _ ?hS13 (fun hHeld => ?_)
        case hS13 => exact fun _ => SB2.out _ HN6.out.1
        replace hHeld := hHeld (by decide)
        clear hK K
        try simp only [Act.put, List.setIfInBounds_toArray, List.set_cons_zero, List.set_cons_succ]
        refine wpAnyG_ready (rs := [13]) (by kernel_rfl) (by simp) ?_
        refine readyG rfl (fun K hK => ?_) AllReadyG.nil
        go_simp
        refine hK.out _ _ ?hS14 (fun hHeld => ?_)
        case hS14 => exact fun h => absurd rfl h
        clear hK K
        try simp only [Act.put, List.setIfInBounds_toArray, List.set_cons_zero, List.set_cons_succ]
        refine wpAnyG_done (by kernel_rfl) ?_ _
        go_wp2
        go_roundg (p.exprs.length - (i + 1))
        case measure => omega
        case rel => exact ⟨i + 1, by omega, rfl, by go_num, by rw [Hy.out]; exact HO6.out, HN6.out⟩
      · have hiI : ¬ (i : Int) < (p.exprs.length : Int) := by omega
        have hte : L3.take i = R := by rw [HZ2.out]; exact List.take_of_length_le (by rw [HL3l.out]; omega)
        rw [hte] at HO
        clear hte
        go_wp2
        go_ret
        exact ⟨_, rfl, HO.out, HBW.out⟩
  have hk3' : (p.kind == 3) = false := by simpa using hk3
  by_cases hk4 : p.kind = 4
  · skip
    have hz := HZ.out
    rw [if_neg hk2, if_neg hk3, if_pos hk4] at hz
    have Hk := Lib.hid (show p.kind = 4 ∨ p.kind = 5 ∨ p.kind = 6 by omega)
    obtain ⟨L, hL⟩ : ∃ l, (xs ++ ys) = l := ⟨_, rfl⟩
    rw [hL] at hz
    have HZ2 := Lib.hid hz
    have hLl : L.length = xs.length + ys.length := by rw [← hL]; simp
    have HLl := Lib.hid hLl
    have HLs := Lib.hid (show L.take xs.length = xs by rw [← hL]; simp)
    have HLy := Lib.hid (show ∀ i (hi : i < ys.length), L.take (xs.length + (i + 1)) = L.take (xs.length + i) ++ [ys[i]] by
      intro i hi
      rw [show xs.length + (i + 1) = xs.length + i + 1 by omega, List.take_add_one, ← hL, List.getElem?_append_right (by omega), show xs.length + i - xs.length = i by omega]
      rw [List.getElem?_eq_getElem hi]; rfl)
    have hk2 : 1 < p.kids.length := by rw [nkids_twoN Hof.out Hk.out]; omega
    have hk2I : (1 : Int) < (p.kids.length : Int) := by omega
    obtain ⟨_, e2, he2, hv1⟩ := plW_kids HV.out (List.getElem_mem hk2)
    obtain rfl : e2 = e := by omega
    obtain ⟨q1, o1, g1, hA1, hq1, ⟨k0, k1, k2, k3, k4⟩, hg1⟩ := HK.out w2 HB12.out 1 hk2
    rw [hAk.out] at hA1
    cases hA1
    have HX1 := Lib.hid (IH.out _ (List.getElem_mem hk2) g1 ws A c e2 w2 HWS.out.1 HWS.out.2 HMX.out hg1 hv1 (HF.out w2 HB12.out))
    rw [← kidN_at (flags := flags) hk2, HYS.out] at HX1
    simp only [Nat.one_mul] at k0 k1 k2 k3 k4
    unfold fpV at HX1
    obtain ⟨c0, c1, c2, c3, c4⟩ := BX.out _ HR2.out
    rw [hAk.out] at c4
    rw [hk4] at c0
    have HKk := Lib.hid hk4
    clear hz hL hLl hk1' hk8 he2 hv1 hg1
    go_wp2_with fail
    refine HX1.out.mono ?_
    rintro e' w3 ⟨v3, rfl, how3, hb3⟩
    obtain ⟨A3, cc3, rfl, hc31, hc32, _⟩ := how3.shape boolC_length
    have HB3 := Lib.hid hb3
    have HB13 := Lib.hid (bch HB12.out hb3)
    have HR3 := Lib.hid (HR2.out.on hb3)
    have HO3 := Lib.hid (HO2.out.on hb3)
    have HSX3 := Lib.hid (HSX.out.keep hb3.size fun b _ hl => hb3.block b hl)
    have HSY := Lib.hid ((slS_ow boolC_length how3 (S := fun k => k ≠ w.heap.size + 1) fun k hk => by have := (how3.ty k hk).1; show k ≠ w.heap.size + 1; omega))
    have hsz3 := hb3.size
    unfold maxLen at hc32
    clear how3 hb3 k0 k1 k2 k3 k4 c0 c1 c2 c3 c4
    have HNK3 := Lib.hid (show NuK (w.heap.size + 1) w3 w3 (.slice (some ⟨w.heap.size + 1, 0, none⟩) 0 0) from NuK.start fun k hk => by cases hk; rfl)
    have hszw3 : w.heap.size ≤ w3.heap.size := by omega
    have HBASE := Lib.hid HB13.out
    have HRBASE := Lib.hid HR3.out
    have HSXs := Lib.hid (NuK.sl HNK3.out HSX3.out)
    obtain ⟨c0, c1, c2, c3, c4⟩ := BX.out _ HR3.out
    rw [HKk.out] at c0
    go_upto_region 23 with fail
    go_wp2_with (at_builtin; refine wpList_app2 rfl (.tmp 97) (.tmp 98) 31 rfl w.heap.size 4 _ 1 1 boolC Try.underlying31 zeroBoolN rfl (by decide) (by decide) boolC_length boolC_one _ ([]) rfl HO3.out (A2) xs.length cc2 (xs) rfl rfl HSXs.out (by simp; omega) hszw3 ?_; intro v4 w4 hown hgr hob; have HN4 := Lib.hid (HNK3.out.app hgr hob); have HO4 := Lib.hid hown; clear hown hgr hob c0 c1 c2 c3 c4)
    go_loopg [5, 11] ys.length (fun g v iv wr => ∃ i : Nat, i ≤ ys.length ∧ g = ys.length - i ∧ iv = .int .i64 i ∧ Ow w.heap.size 4 1 boolC wr v (L.take (xs.length + i)) ∧ NuK (w.heap.size + 1) w3 wr v)
    case atStart => exact ⟨0, by omega, by omega, rfl, by rw [Nat.add_zero, HLs.out]; exact HO4.out, HN4.out⟩
    case round =>
      obtain ⟨i, hi, rfl, rfl, how, hnk⟩ := hrel
      have HO := Lib.hid how
      have HN := Lib.hid hnk
      have HBW := Lib.hid (hnk.from_ HBASE.out (by omega))
      have HRW := Lib.hid (HRBASE.out.only hnk.1 (by omega))
      clear how hnk
      obtain ⟨c0, c1, c2, c3, c4⟩ := BX.out _ HRW.out
      rw [HKk.out] at c0
      by_cases hil : i < ys.length
      · have hiI : (i : Int) < (ys.length : Int) := by omega
        have HSW := Lib.hid (HN.out.sl HSY.out)
        obtain ⟨b0, o0', rfl, hB0, e0⟩ := Sl.at1 (f := fun x : Bool => Value.bool x) HSW.out hil
        have Hy := Lib.hid (HLy.out i hil)
        have htl : (L.take (xs.length + i)).length ≤ 12 := by rw [List.length_take, HLl.out]; omega
        obtain ⟨q, hq⟩ : ∃ q, ys[i] = q := ⟨_, rfl⟩
        rw [hq] at e0 Hy
        clear hq
        cases q
        all_goals skip
        · skip
          obtain ⟨U, hU⟩ : ∃ z, wr.alloc (.cells #[.bool false] 4) = z := ⟨_, rfl⟩
          have hub : Below wr.heap.size wr U := by rw [← hU]; exact balloc (Below.refl _ _) _
          have HO5 := Lib.hid (HO.out.on hub)
          have HN5 := Lib.hid (HN.out.below hub)
          have HS5 := Lib.hid (show Sl 1 boolC U U.heap.size (some ⟨wr.heap.size, 0, none⟩) [false] by rw [← hU]; exact Row.sl' (t := 4) boolC_length ((Row.new wr _ _).of rfl))
          have hsz5 : w.heap.size ≤ U.heap.size := (HN5.out.from_ HBASE.out (by omega)).size
          have HU := Lib.hid hU
          clear hU hub
          go_wp2_with (at_builtin; rw [HU.out]; refine wpList_app2 rfl (.tmp 106) (.tmp 116) 31 rfl w.heap.size 4 _ 1 1 boolC Try.underlying31 zeroBoolN rfl (by decide) (by decide) boolC_length boolC_one _ (L.take (xs.length + i)) rfl HO5.out (some ⟨wr.heap.size, 0, none⟩) 1 1 ([false]) rfl rfl HS5.out (by simp only [List.length_singleton]; omega) hsz5 ?_; intro v' w' hown hgr hob)
          go_roundg (ys.length - (i + 1))
          case measure => omega
          case rel => exact ⟨i + 1, by omega, rfl, by go_num, by rw [Hy.out]; exact hown, HN5.out.app hgr hob⟩
        · skip
          obtain ⟨U, hU⟩ : ∃ z, wr.alloc (.cells #[.bool true] 4) = z := ⟨_, rfl⟩
          have hub : Below wr.heap.size wr U := by rw [← hU]; exact balloc (Below.refl _ _) _
          have HO5 := Lib.hid (HO.out.on hub)
          have HN5 := Lib.hid (HN.out.below hub)
          have HS5 := Lib.hid (show Sl 1 boolC U U.heap.size (some ⟨wr.heap.size, 0, none⟩) [true] by rw [← hU]; exact Row.sl' (t := 4) boolC_length ((Row.new wr _ _).of rfl))
          have hsz5 : w.heap.size ≤ U.heap.size := (HN5.out.from_ HBASE.out (by omega)).size
          have HU := Lib.hid hU
          clear hU hub
          go_wp2_with (at_builtin; rw [HU.out]; refine wpList_app2 rfl (.tmp 106) (.tmp 116) 31 rfl w.heap.size 4 _ 1 1 boolC Try.underlying31 zeroBoolN rfl (by decide) (by decide) boolC_length boolC_one _ (L.take (xs.length + i)) rfl HO5.out (some ⟨wr.heap.size, 0, none⟩) 1 1 ([true]) rfl rfl HS5.out (by simp only [List.length_singleton]; omega) hsz5 ?_; intro v' w' hown hgr hob)
          go_roundg (ys.length - (i + 1))
          case measure => omega
          case rel => exact ⟨i + 1, by omega, rfl, by go_num, by rw [Hy.out]; exact hown, HN5.out.app hgr hob⟩
      · have hiI : ¬ (i : Int) < (ys.length : Int) := by omega
        have hte : L.take (xs.length + i) = R := by rw [HZ2.out]; exact List.take_of_length_le (by rw [HLl.out]; omega)
        rw [hte] at HO
        clear hte
        go_wp2
        go_ret
        exact ⟨_, rfl, HO.out, HBW.out⟩
  have hk4' : (p.kind == 4) = false := by simpa using hk4
  by_cases hk5 : p.kind = 5
  · skip
    have hz := HZ.out
    rw [if_neg hk2, if_neg hk3, if_neg hk4, if_pos hk5] at hz
    have Hk := Lib.hid (show p.kind = 4 ∨ p.kind = 5 ∨ p.kind = 6 by omega)
    obtain ⟨L, hL⟩ : ∃ l, (xs ++ ys.map fun _ => true) = l := ⟨_, rfl⟩
    rw [hL] at hz
    have HZ2 := Lib.hid hz
    have hLl : L.length = xs.length + ys.length := by rw [← hL]; simp
    have HLl := Lib.hid hLl
    have HLs := Lib.hid (show L.take xs.length = xs by rw [← hL]; simp)
    have HLy := Lib.hid (show ∀ i (hi : i < ys.length), L.take (xs.length + (i + 1)) = L.take (xs.length + i) ++ [true] by
      intro i hi
      rw [show xs.length + (i + 1) = xs.length + i + 1 by omega, List.take_add_one, ← hL, List.getElem?_append_right (by omega), show xs.length + i - xs.length = i by omega]
      rw [List.getElem?_map, List.getElem?_eq_getElem hi]; rfl)
    have hk2 : 1 < p.kids.length := by rw [nkids_twoN Hof.out Hk.out]; omega
    have hk2I : (1 : Int) < (p.kids.length : Int) := by omega
    obtain ⟨_, e2, he2, hv1⟩ := plW_kids HV.out (List.getElem_mem hk2)
    obtain rfl : e2 = e := by omega
    obtain ⟨q1, o1, g1, hA1, hq1, ⟨k0, k1, k2, k3, k4⟩, hg1⟩ := HK.out w2 HB12.out 1 hk2
    rw [hAk.out] at hA1
    cases hA1
    have HX1 := Lib.hid (IH.out _ (List.getElem_mem hk2) g1 ws A c e2 w2 HWS.out.1 HWS.out.2 HMX.out hg1 hv1 (HF.out w2 HB12.out))
    rw [← kidN_at (flags := flags) hk2, HYS.out] at HX1
    simp only [Nat.one_mul] at k0 k1 k2 k3 k4
    unfold fpV at HX1
    obtain ⟨c0, c1, c2, c3, c4⟩ := BX.out _ HR2.out
    rw [hAk.out] at c4
    rw [hk5] at c0
    have HKk := Lib.hid hk5
    clear hz hL hLl hk1' hk8 he2 hv1 hg1
    go_wp2_with fail
    refine HX1.out.mono ?_
    rintro e' w3 ⟨v3, rfl, how3, hb3⟩
    obtain ⟨A3, cc3, rfl, hc31, hc32, _⟩ := how3.shape boolC_length
    have HB3 := Lib.hid hb3
    have HB13 := Lib.hid (bch HB12.out hb3)
    have HR3 := Lib.hid (HR2.out.on hb3)
    have HO3 := Lib.hid (HO2.out.on hb3)
    have HSX3 := Lib.hid (HSX.out.keep hb3.size fun b _ hl => hb3.block b hl)
    have HSY := Lib.hid ((slS_ow boolC_length how3 (S := fun k => k ≠ w.heap.size + 1) fun k hk => by have := (how3.ty k hk).1; show k ≠ w.heap.size + 1; omega))
    have hsz3 := hb3.size
    unfold maxLen at hc32
    clear how3 hb3 k0 k1 k2 k3 k4 c0 c1 c2 c3 c4
    have HNK3 := Lib.hid (show NuK (w.heap.size + 1) w3 w3 (.slice (some ⟨w.heap.size + 1, 0, none⟩) 0 0) from NuK.start fun k hk => by cases hk; rfl)
    have hszw3 : w.heap.size ≤ w3.heap.size := by omega
    have HBASE := Lib.hid HB13.out
    have HRBASE := Lib.hid HR3.out
    have HSXs := Lib.hid (NuK.sl HNK3.out HSX3.out)
    obtain ⟨c0, c1, c2, c3, c4⟩ := BX.out _ HR3.out
    rw [HKk.out] at c0
    go_upto_region 23 with fail
    go_wp2_with (at_builtin; refine wpList_app2 rfl (.tmp 97) (.tmp 98) 31 rfl w.heap.size 4 _ 1 1 boolC Try.underlying31 zeroBoolN rfl (by decide) (by decide) boolC_length boolC_one _ ([]) rfl HO3.out (A2) xs.length cc2 (xs) rfl rfl HSXs.out (by simp; omega) hszw3 ?_; intro v4 w4 hown hgr hob; have HN4 := Lib.hid (HNK3.out.app hgr hob); have HO4 := Lib.hid hown; clear hown hgr hob c0 c1 c2 c3 c4)
    go_loopg [5, 11] ys.length (fun g v iv wr => ∃ i : Nat, i ≤ ys.length ∧ g = ys.length - i ∧ iv = .int .i64 i ∧ Ow w.heap.size 4 1 boolC wr v (L.take (xs.length + i)) ∧ NuK (w.heap.size + 1) w3 wr v)
    case atStart => exact ⟨0, by omega, by omega, rfl, by rw [Nat.add_zero, HLs.out]; exact HO4.out, HN4.out⟩
    case round =>
      obtain ⟨i, hi, rfl, rfl, how, hnk⟩ := hrel
      have HO := Lib.hid how
      have HN := Lib.hid hnk
      have HBW := Lib.hid (hnk.from_ HBASE.out (by omega))
      have HRW := Lib.hid (HRBASE.out.only hnk.1 (by omega))
      clear how hnk
      obtain ⟨c0, c1, c2, c3, c4⟩ := BX.out _ HRW.out
      rw [HKk.out] at c0
      by_cases hil : i < ys.length
      · have hiI : (i : Int) < (ys.length : Int) := by omega
        have HSW := Lib.hid (HN.out.sl HSY.out)
        obtain ⟨b0, o0', rfl, hB0, e0⟩ := Sl.at1 (f := fun x : Bool => Value.bool x) HSW.out hil
        have Hy := Lib.hid (HLy.out i hil)
        have htl : (L.take (xs.length + i)).length ≤ 12 := by rw [List.length_take, HLl.out]; omega
        obtain ⟨q, hq⟩ : ∃ q, ys[i] = q := ⟨_, rfl⟩
        rw [hq] at e0
        clear hq
        cases q
        all_goals skip
        · skip
          obtain ⟨U, hU⟩ : ∃ z, wr.alloc (.cells #[.bool true] 4) = z := ⟨_, rfl⟩
          have hub : Below wr.heap.size wr U := by rw [← hU]; exact balloc (Below.refl _ _) _
          have HO5 := Lib.hid (HO.out.on hub)
          have HN5 := Lib.hid (HN.out.below hub)
          have HS5 := Lib.hid (show Sl 1 boolC U U.heap.size (some ⟨wr.heap.size, 0, none⟩) [true] by rw [← hU]; exact Row.sl' (t := 4) boolC_length ((Row.new wr _ _).of rfl))
          have hsz5 : w.heap.size ≤ U.heap.size := (HN5.out.from_ HBASE.out (by omega)).size
          have HU := Lib.hid hU
          clear hU hub
          go_wp2_with (at_builtin; rw [HU.out]; refine wpList_app2 rfl (.tmp 106) (.tmp 116) 31 rfl w.heap.size 4 _ 1 1 boolC Try.underlying31 zeroBoolN rfl (by decide) (by decide) boolC_length boolC_one _ (L.take (xs.length + i)) rfl HO5.out (some ⟨wr.heap.size, 0, none⟩) 1 1 ([true]) rfl rfl HS5.out (by simp only [List.length_singleton]; omega) hsz5 ?_; intro v' w' hown hgr hob)
          go_roundg (ys.length - (i + 1))
          case measure => omega
          case rel => exact ⟨i + 1, by omega, rfl, by go_num, by rw [Hy.out]; exact hown, HN5.out.app hgr hob⟩
        · skip
          obtain ⟨U, hU⟩ : ∃ z, wr.alloc (.cells #[.bool true] 4) = z := ⟨_, rfl⟩
          have hub : Below wr.heap.size wr U := by rw [← hU]; exact balloc (Below.refl _ _) _
          have HO5 := Lib.hid (HO.out.on hub)
          have HN5 := Lib.hid (HN.out.below hub)
          have HS5 := Lib.hid (show Sl 1 boolC U U.heap.size (some ⟨wr.heap.size, 0, none⟩) [true] by rw [← hU]; exact Row.sl' (t := 4) boolC_length ((Row.new wr _ _).of rfl))
          have hsz5 : w.heap.size ≤ U.heap.size := (HN5.out.from_ HBASE.out (by omega)).size
          have HU := Lib.hid hU
          clear hU hub
          go_wp2_with (at_builtin; rw [HU.out]; refine wpList_app2 rfl (.tmp 106) (.tmp 116) 31 rfl w.heap.size 4 _ 1 1 boolC Try.underlying31 zeroBoolN rfl (by decide) (by decide) boolC_length boolC_one _ (L.take (xs.length + i)) rfl HO5.out (some ⟨wr.heap.size, 0, none⟩) 1 1 ([true]) rfl rfl HS5.out (by simp only [List.length_singleton]; omega) hsz5 ?_; intro v' w' hown hgr hob)
          go_roundg (ys.length - (i + 1))
          case measure => omega
          case rel => exact ⟨i + 1, by omega, rfl, by go_num, by rw [Hy.out]; exact hown, HN5.out.app hgr hob⟩
      · have hiI : ¬ (i : Int) < (ys.length : Int) := by omega
        have hte : L.take (xs.length + i) = R := by rw [HZ2.out]; exact List.take_of_length_le (by rw [HLl.out]; omega)
        rw [hte] at HO
        clear hte
        go_wp2
        go_ret
        exact ⟨_, rfl, HO.out, HBW.out⟩
  have hk5' : (p.kind == 5) = false := by simpa using hk5
  by_cases hk6 : p.kind = 6
  · have hz := HZ.out
    rw [if_neg hk2, if_neg hk3, if_neg hk4, if_neg hk5, if_pos hk6] at hz
    have Hk := Lib.hid (show p.kind = 4 ∨ p.kind = 5 ∨ p.kind = 6 by omega)
    have hxy : ys.length = xs.length := by rw [← HXS.out, ← HYS.out]; exact NT.out.un hk6
    obtain ⟨L, hL⟩ : ∃ l, ((List.range xs.length).map fun i => xs.getD i false || ys.getD i false) = l := ⟨_, rfl⟩
    rw [hL] at hz
    have HZ2 := Lib.hid hz
    have hLl : L.length = xs.length := by rw [← hL]; simp
    have HLl := Lib.hid hLl
    have HXY := Lib.hid hxy
    have HLy := Lib.hid (show ∀ i (hi : i < xs.length), L.take (i + 1) = L.take i ++ [xs[i] || ys[i]'(by rw [HXY.out]; exact hi)] by
      intro i hi
      rw [← hL, rangeMap_take hi, List.getD_eq_getElem?_getD, List.getD_eq_getElem?_getD, List.getElem?_eq_getElem hi, List.getElem?_eq_getElem (show i < ys.length by rw [hxy]; exact hi)]
      rfl)
    have hk2 : 1 < p.kids.length := by rw [nkids_twoN Hof.out Hk.out]; omega
    have hk2I : (1 : Int) < (p.kids.length : Int) := by omega
    obtain ⟨_, e2, he2, hv1⟩ := plW_kids HV.out (List.getElem_mem hk2)
    obtain rfl : e2 = e := by omega
    obtain ⟨q1, o1, g1, hA1, hq1, ⟨k0, k1, k2, k3, k4⟩, hg1⟩ := HK.out w2 HB12.out 1 hk2
    rw [hAk.out] at hA1
    cases hA1
    have HX1 := Lib.hid (IH.out _ (List.getElem_mem hk2) g1 ws A c e2 w2 HWS.out.1 HWS.out.2 HMX.out hg1 hv1 (HF.out w2 HB12.out))
    rw [← kidN_at (flags := flags) hk2, HYS.out] at HX1
    simp only [Nat.one_mul] at k0 k1 k2 k3 k4
    unfold fpV at HX1
    obtain ⟨c0, c1, c2, c3, c4⟩ := BX.out _ HR2.out
    rw [hAk.out] at c4
    rw [hk6] at c0
    have HKk := Lib.hid hk6
    clear hz hL hLl hk1' hk8 he2 hv1 hg1 hxy
    go_wp2_with fail
    refine HX1.out.mono ?_
    rintro e' w3 ⟨v3, rfl, how3, hb3⟩
    obtain ⟨A3, cc3, rfl, hc31, hc32, _⟩ := how3.shape boolC_length
    have HB3 := Lib.hid hb3
    have HB13 := Lib.hid (bch HB12.out hb3)
    have HR3 := Lib.hid (HR2.out.on hb3)
    have HO3 := Lib.hid (HO2.out.on hb3)
    have HSX3 := Lib.hid (HSX.out.keep hb3.size fun b _ hl => hb3.block b hl)
    have HSY := Lib.hid ((slS_ow boolC_length how3 (S := fun k => k ≠ w.heap.size + 1) fun k hk => by have := (how3.ty k hk).1; show k ≠ w.heap.size + 1; omega))
    have hsz3 := hb3.size
    unfold maxLen at hc32
    clear how3 hb3 k0 k1 k2 k3 k4 c0 c1 c2 c3 c4
    have HNK3 := Lib.hid (show NuK (w.heap.size + 1) w3 w3 (.slice (some ⟨w.heap.size + 1, 0, none⟩) 0 0) from NuK.start fun k hk => by cases hk; rfl)
    have hszw3 : w.heap.size ≤ w3.heap.size := by omega
    have HBASE := Lib.hid HB13.out
    have HRBASE := Lib.hid HR3.out
    go_wp2
    go_loopg [5, 13] xs.length (fun g v iv wr => ∃ i : Nat, i ≤ xs.length ∧ g = xs.length - i ∧ iv = .int .i64 i ∧ Ow w.heap.size 4 1 boolC wr v (L.take i) ∧ NuK (w.heap.size + 1) w3 wr v)
    case atStart => exact ⟨0, by omega, by omega, rfl, HO3.out, HNK3.out⟩
    case round =>
      obtain ⟨i, hi, rfl, rfl, how, hnk⟩ := hrel
      have HO := Lib.hid how
      have HN := Lib.hid hnk
      have HBW := Lib.hid (hnk.from_ HBASE.out (by omega))
      have HRW := Lib.hid (HRBASE.out.only hnk.1 (by omega))
      clear how hnk
      by_cases hil : i < xs.length
      · have hiI : (i : Int) < (xs.length : Int) := by omega
        have hiy : i < ys.length := by rw [HXY.out]; exact hil
        have hiIy : (i : Int) < (ys.length : Int) := by omega
        have HSW := Lib.hid (HN.out.sl HSX3.out)
        have HSV := Lib.hid (HN.out.sl HSY.out)
        obtain ⟨b0, o0', rfl, hB0, e0⟩ := Sl.at1 (f := fun x : Bool => Value.bool x) HSW.out hil
        obtain ⟨b1, o1', rfl, hB1, e1⟩ := Sl.at1 (f := fun x : Bool => Value.bool x) HSV.out hiy
        have Hy := Lib.hid (HLy.out i hil)
        have htl : (L.take i).length ≤ 6 := by rw [List.length_take, HLl.out]; omega
        obtain ⟨q, hq⟩ : ∃ q, xs[i] = q := ⟨_, rfl⟩
        obtain ⟨q', hq'⟩ : ∃ q, ys[i] = q := ⟨_, rfl⟩
        rw [hq] at e0 Hy
        rw [hq'] at e1 Hy
        clear hq hq'
        cases q <;> cases q'
        · skip
          obtain ⟨U, hU⟩ : ∃ z, wr.alloc (.cells #[.bool false] 4) = z := ⟨_, rfl⟩
          have hub : Below wr.heap.size wr U := by rw [← hU]; exact balloc (Below.refl _ _) _
          have HO5 := Lib.hid (HO.out.on hub)
          have HN5 := Lib.hid (HN.out.below hub)
          have HS5 := Lib.hid (show Sl 1 boolC U U.heap.size (some ⟨wr.heap.size, 0, none⟩) [false] by rw [← hU]; exact Row.sl' (t := 4) boolC_length ((Row.new wr _ _).of rfl))
          have hsz5 : w.heap.size ≤ U.heap.size := (HN5.out.from_ HBASE.out (by omega)).size
          have HU := Lib.hid hU
          clear hU hub
          go_wp2_with (at_builtin; rw [HU.out]; refine wpList_app2 rfl (.tmp 133) (.tmp 144) 31 rfl w.heap.size 4 _ 1 1 boolC Try.underlying31 zeroBoolN rfl (by decide) (by decide) boolC_length boolC_one _ (L.take i) rfl HO5.out (some ⟨wr.heap.size, 0, none⟩) 1 1 ([false]) rfl rfl HS5.out (by simp only [List.length_singleton]; omega) hsz5 ?_; intro v' w' hown hgr hob)
          go_roundg (xs.length - (i + 1))
          case measure => omega
          case rel => exact ⟨i + 1, by omega, rfl, by go_num, by rw [Hy.out]; exact hown, HN5.out.app hgr hob⟩
        · skip
          obtain ⟨U, hU⟩ : ∃ z, wr.alloc (.cells #[.bool true] 4) = z := ⟨_, rfl⟩
          have hub : Below wr.heap.size wr U := by rw [← hU]; exact balloc (Below.refl _ _) _
          have HO5 := Lib.hid (HO.out.on hub)
          have HN5 := Lib.hid (HN.out.below hub)
          have HS5 := Lib.hid (show Sl 1 boolC U U.heap.size (some ⟨wr.heap.size, 0, none⟩) [true] by rw [← hU]; exact Row.sl' (t := 4) boolC_length ((Row.new wr _ _).of rfl))
          have hsz5 : w.heap.size ≤ U.heap.size := (HN5.out.from_ HBASE.out (by omega)).size
          have HU := Lib.hid hU
          clear hU hub
          go_wp2_with (at_builtin; rw [HU.out]; refine wpList_app2 rfl (.tmp 133) (.tmp 144) 31 rfl w.heap.size 4 _ 1 1 boolC Try.underlying31 zeroBoolN rfl (by decide) (by decide) boolC_length boolC_one _ (L.take i) rfl HO5.out (some ⟨wr.heap.size, 0, none⟩) 1 1 ([true]) rfl rfl HS5.out (by simp only [List.length_singleton]; omega) hsz5 ?_; intro v' w' hown hgr hob)
          go_roundg (xs.length - (i + 1))
          case measure => omega
          case rel => exact ⟨i + 1, by omega, rfl, by go_num, by rw [Hy.out]; exact hown, HN5.out.app hgr hob⟩
        · skip
          obtain ⟨U, hU⟩ : ∃ z, wr.alloc (.cells #[.bool true] 4) = z := ⟨_, rfl⟩
          have hub : Below wr.heap.size wr U := by rw [← hU]; exact balloc (Below.refl _ _) _
          have HO5 := Lib.hid (HO.out.on hub)
          have HN5 := Lib.hid (HN.out.below hub)
          have HS5 := Lib.hid (show Sl 1 boolC U U.heap.size (some ⟨wr.heap.size, 0, none⟩) [true] by rw [← hU]; exact Row.sl' (t := 4) boolC_length ((Row.new wr _ _).of rfl))
          have hsz5 : w.heap.size ≤ U.heap.size := (HN5.out.from_ HBASE.out (by omega)).size
          have HU := Lib.hid hU
          clear hU hub
          go_wp2_with (at_builtin; rw [HU.out]; refine wpList_app2 rfl (.tmp 133) (.tmp 144) 31 rfl w.heap.size 4 _ 1 1 boolC Try.underlying31 zeroBoolN rfl (by decide) (by decide) boolC_length boolC_one _ (L.take i) rfl HO5.out (some ⟨wr.heap.size, 0, none⟩) 1 1 ([true]) rfl rfl HS5.out (by simp only [List.length_singleton]; omega) hsz5 ?_; intro v' w' hown hgr hob)
          go_roundg (xs.length - (i + 1))
          case measure => omega
          case rel => exact ⟨i + 1, by omega, rfl, by go_num, by rw [Hy.out]; exact hown, HN5.out.app hgr hob⟩
        · skip
          obtain ⟨U, hU⟩ : ∃ z, wr.alloc (.cells #[.bool true] 4) = z := ⟨_, rfl⟩
          have hub : Below wr.heap.size wr U := by rw [← hU]; exact balloc (Below.refl _ _) _
          have HO5 := Lib.hid (HO.out.on hub)
          have HN5 := Lib.hid (HN.out.below hub)
          have HS5 := Lib.hid (show Sl 1 boolC U U.heap.size (some ⟨wr.heap.size, 0, none⟩) [true] by rw [← hU]; exact Row.sl' (t := 4) boolC_length ((Row.new wr _ _).of rfl))
          have hsz5 : w.heap.size ≤ U.heap.size := (HN5.out.from_ HBASE.out (by omega)).size
          have HU := Lib.hid hU
          clear hU hub
          go_wp2_with (at_builtin; rw [HU.out]; refine wpList_app2 rfl (.tmp 133) (.tmp 144) 31 rfl w.heap.size 4 _ 1 1 boolC Try.underlying31 zeroBoolN rfl (by decide) (by decide) boolC_length boolC_one _ (L.take i) rfl HO5.out (some ⟨wr.heap.size, 0, none⟩) 1 1 ([true]) rfl rfl HS5.out (by simp only [List.length_singleton]; omega) hsz5 ?_; intro v' w' hown hgr hob)
          go_roundg (xs.length - (i + 1))
          case measure => omega
          case rel => exact ⟨i + 1, by omega, rfl, by go_num, by rw [Hy.out]; exact hown, HN5.out.app hgr hob⟩
      · have hiI : ¬ (i : Int) < (xs.length : Int) := by omega
        have hte : L.take i = R := by rw [HZ2.out]; exact List.take_of_length_le (by rw [HLl.out]; omega)
        rw [hte] at HO
        clear hte
        go_wp2
        go_ret
        exact ⟨_, rfl, HO.out, HBW.out⟩
  have hk6' : (p.kind == 6) = false := by simpa using hk6
  obtain ⟨c0, c1, c2, c3, c4⟩ := BX.out _ HR2.out
  by_cases hk8e : p.kind = 8
  · have hz := HZ.out
    rw [if_neg hk2, if_neg hk3, if_neg hk4, if_neg hk5, if_neg hk6, if_pos hk8e] at hz
    obtain ⟨hcl, hcb⟩ := NT.out.gr hk8e
    rw [HXS.out] at hcb
    obtain ⟨L, hL⟩ : ∃ l, (p.cols.map fun c => xs.getD c.toNat false) = l := ⟨_, rfl⟩
    rw [hL] at hz
    have HZ2 := Lib.hid hz
    have HL := Lib.hid hL
    have hLl : L.length = p.cols.length := by rw [← hL]; simp
    have HLl := Lib.hid hLl
    have HCB := Lib.hid hcb
    rw [hk8e] at c0
    have HBASE := Lib.hid HB12.out
    have HRBASE := Lib.hid HR2.out
    clear hz hL hLl hcb hk1' hk8 hk2 hk2' hk3 hk3' hk4 hk4' hk5 hk5' hk6 hk6' hk8e
    go_wp2
    go_loopg [5, 14] p.cols.length (fun g v iv wr => ∃ i : Nat, i ≤ p.cols.length ∧ g = p.cols.length - i ∧ iv = .int .i64 i ∧ Ow w.heap.size 4 1 boolC wr v (L.take i) ∧ NuK (w.heap.size + 1) w2 wr v)
    case atStart => exact ⟨0, by omega, by omega, rfl, HO2.out, HNK.out⟩
    case round =>
      clear c0 c1 c2 c3 c4
      obtain ⟨i, hi, rfl, rfl, how, hnk⟩ := hrel
      have HO := Lib.hid how
      have HN := Lib.hid hnk
      have HBW := Lib.hid (hnk.from_ HBASE.out (by omega))
      have HRW := Lib.hid (HRBASE.out.only hnk.1 (by omega))
      clear how hnk
      obtain ⟨c0, c1, c2, c3, c4⟩ := BX.out _ HRW.out
      by_cases hil : i < p.cols.length
      · have hiI : (i : Int) < (p.cols.length : Int) := by omega
        have hcb := HCB.out _ (List.getElem_mem hil)
        obtain ⟨b1, o1', hA1, hB1, e1⟩ := Ints.at_ (HC.out _ HBW.out) hil
        rw [hA1] at c3
        obtain ⟨j, hj⟩ := Int.eq_ofNat_of_zero_le hcb.1
        have hjl : j < xs.length := by omega
        have hjI : (j : Int) < (xs.length : Int) := by omega
        have HSW := Lib.hid (HN.out.sl HSX.out)
        obtain ⟨b0, o0', rfl, hB0, e0⟩ := Sl.at1 (f := fun x : Bool => Value.bool x) HSW.out hjl
        have Hy := Lib.hid (show L.take (i + 1) = L.take i ++ [xs[j]] by
          rw [← HL.out, map_take hil, hj, Int.toNat_natCast, List.getD_eq_getElem?_getD, List.getElem?_eq_getElem hjl]; rfl)
        have htl : (L.take i).length ≤ 6 := by rw [List.length_take, HLl.out]; omega
        rw [hj] at e1
        obtain ⟨q, hq⟩ : ∃ q, xs[j] = q := ⟨_, rfl⟩
        rw [hq] at e0 Hy
        clear hq hj hA1 hcb
        obtain ⟨U, hU⟩ : ∃ z, wr.alloc (.cells #[.bool q] 4) = z := ⟨_, rfl⟩
        have hub : Below wr.heap.size wr U := by rw [← hU]; exact balloc (Below.refl _ _) _
        have HO5 := Lib.hid (HO.out.on hub)
        have HN5 := Lib.hid (HN.out.below hub)
        have HS5 := Lib.hid (show Sl 1 boolC U U.heap.size (some ⟨wr.heap.size, 0, none⟩) [q] by rw [← hU]; exact Row.sl' (t := 4) boolC_length ((Row.new wr _ _).of rfl))
        have hsz5 : w.heap.size ≤ U.heap.size := (HN5.out.from_ HBASE.out (by omega)).size
        have HU := Lib.hid hU
        clear hU hub
        go_wp2_with (at_builtin; rw [HU.out]; refine wpList_app2 rfl (.tmp 156) (.tmp 165) 31 rfl w.heap.size 4 _ 1 1 boolC Try.underlying31 zeroBoolN rfl (by decide) (by decide) boolC_length boolC_one _ (L.take i) rfl HO5.out (some ⟨wr.heap.size, 0, none⟩) 1 1 ([q]) rfl rfl HS5.out (by simp only [List.length_singleton]; omega) hsz5 ?_; intro v' w' hown hgr hob)
        go_roundg (p.cols.length - (i + 1))
        case measure => omega
        case rel => exact ⟨i + 1, by omega, rfl, by go_num, by rw [Hy.out]; exact hown, HN5.out.app hgr hob⟩
      · have hiI : ¬ (i : Int) < (p.cols.length : Int) := by omega
        have hte : L.take i = L := List.take_of_length_le (by rw [HLl.out]; omega)
        rw [hte] at HO
        have hLl6 : L.length ≤ 6 := by rw [HLl.out]; exact hcl
        obtain ⟨U, hU⟩ : ∃ z, wr.alloc (.cells #[.bool false] 4) = z := ⟨_, rfl⟩
        have hub : Below wr.heap.size wr U := by rw [← hU]; exact balloc (Below.refl _ _) _
        have HO5 := Lib.hid (HO.out.on hub)
        have HN5 := Lib.hid (HN.out.below hub)
        have HS5 := Lib.hid (show Sl 1 boolC U U.heap.size (some ⟨wr.heap.size, 0, none⟩) [false] by rw [← hU]; exact Row.sl' (t := 4) boolC_length ((Row.new wr _ _).of rfl))
        have hsz5 : w.heap.size ≤ U.heap.size := (HN5.out.from_ HBASE.out (by omega)).size
        have HU := Lib.hid hU
        clear hU hub hte
        go_wp2_with (at_builtin; rw [HU.out]; refine wpList_app2 rfl (.tmp 167) (.tmp 168) 31 rfl w.heap.size 4 _ 1 1 boolC Try.underlying31 zeroBoolN rfl (by decide) (by decide) boolC_length boolC_one _ (L) rfl HO5.out (some ⟨wr.heap.size, 0, none⟩) 1 1 ([false]) rfl rfl HS5.out (by simp only [List.length_singleton]; omega) hsz5 ?_; intro v' w' hown hgr hob)
        go_ret
        exact ⟨_, rfl, by rw [HZ2.out]; exact hown, (HN5.out.app hgr hob).from_ HBASE.out (by omega)⟩
  have hk8' : (p.kind == 8) = false := by simpa using hk8e
  have HZ2 := Lib.hid (show R = xs by rw [HZ.out, if_neg hk2, if_neg hk3, if_neg hk4, if_neg hk5, if_neg hk6, if_neg hk8e])
  clear hk2 hk3 hk4 hk5 hk6 hk8e hk8
  go_wp2
  go_ret
  exact ⟨_, rfl, by rw [HZ2.out]; exact HOX.out.low (by omega), HB12.out⟩
end Go.Proofs.Ytcbfbgngkdiijaa
