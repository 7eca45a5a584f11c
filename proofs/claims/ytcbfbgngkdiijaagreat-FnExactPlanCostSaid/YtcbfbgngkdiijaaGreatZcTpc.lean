import Derived.Test.YtcbfbgngkdiijaaGreatProg
import Derived.Test.YtcbfbgngkdiijaaGreatZcTev
import Derived.Test.YtcbfbgngkdiijaaGreatZcEvr
import Derived.Test.YtcbfbgngkdiijaaGreatZcPls
namespace Go.Proofs.YtcbfbgngkdiijaaGreat
open Go.RowKit Go.Qo
set_option linter.unusedVariables false
set_option linter.unusedSimpArgs false

open Classical in
noncomputable def wdS (db : List Tb) : List Int := if DbOk db then wsDb db else []
theorem wdS_len (db : List Tb) : (wdS db).length ≤ db.length := by
 unfold wdS
 split
 ·unfold wsDb; rw [List.length_map]; exact Nat.le_refl _
 ·simp
theorem wdS_width (db : List Tb) (p : Pl) : (DbV db ∧ plW (wsDb db) 8 p ≠ 0 → widthP (wdS db) p = plW (wsDb db) 8 p) ∧ (¬ (DbV db ∧ plW (wsDb db) 8 p ≠ 0) → widthP (wdS db) p = 0) := by
 refine ⟨fun h => ?_, fun h => ?_⟩
 ·unfold wdS
  rw [if_pos h.1.2]
  exact widthP_okW (dbV_ws h.1)
 ·unfold wdS
  by_cases hd : DbOk db
  ·rw [if_pos hd]
   unfold widthP
   by_cases hw : WsOk (wsDb db)
   ·rw [if_pos hw]
    apply Classical.byContradiction
    intro hn
    have hl := hw.1
    unfold wsDb at hl
    rw [List.length_map] at hl
    exact h ⟨⟨hl, hd⟩, hn⟩
   ·rw [if_neg hw]
  ·rw [if_neg hd]
   unfold widthP
   rw [if_neg]
   intro hw
   have := hw.1.1
   simp at this
set_option maxRecDepth 20000 in
set_option maxHeartbeats 4000000 in
theorem specWidthsOf_ok (db : List Tb) (A : Option Addr) (c : Nat) (w : World) (hdl : db.length ≤ 1048576) (hdt : DbT w A db) :
  Calls Tryz.prog 25 #[.slice A db.length c] w fun e w' => ∃ v, e = .returned v ∧ Below w.heap.size w w' ∧ Ow w.heap.size 3 1 intC w' v (wdS db) := by
 obtain ⟨W4, hW4⟩ : ∃ z, w.alloc (.cells #[] 3) = z := ⟨_, rfl⟩
 have b4 : Below w.heap.size w W4 := by rw [← hW4]; exact balloc (Below.refl _ _) _
 have HO4 := Lib.hid (show Ow w.heap.size 3 1 intC W4 (.slice (some ⟨w.heap.size, 0, none⟩) 0 0) ([] : List Int) by rw [← hW4]; exact Ow.lit (xs := ([] : List Int)) rfl rfl (Nat.le_refl _) (by decide))
 have HB4 := Lib.hid b4
 have HW4 := Lib.hid hW4
 have HD := Lib.hid (fun (z : World) (hz : Below w.heap.size w z) => hdt.on hz)
 obtain ⟨R, hR⟩ : ∃ l, wdS db = l := ⟨_, rfl⟩
 rw [hR]
 have HR := Lib.hid hR
 clear hW4 b4 hdt hR
 go_enter Tryz.func25, Tryz.ntmps25
 go_upto_region 2 with fail
 rw [HW4.out]
 go_wp2
 go_loopg [3, 4] db.length (fun g v iv wr => ∃ (i : Nat), i ≤ db.length ∧ g = db.length - i ∧ iv = .int .i64 i ∧ Ow w.heap.size 3 1 intC wr v ((wsDb db).take i) ∧ Below w.heap.size w wr ∧ ∀ j (hj : j < db.length), j < i → TabOk db[j].1 db[j].2)
 case atStart => exact ⟨0, by omega, by omega, rfl, HO4.out, HB4.out, fun j hj h => by omega⟩
 case round =>
  obtain ⟨i, hi, rfl, rfl, how, hb, hall⟩ := hrel
  have HO := Lib.hid how
  have HB := Lib.hid hb
  have HA := Lib.hid hall
  have hsz := hb.size
  clear how hb hall
  by_cases hil : i < db.length
  ·have hiI : (i : Int) < (db.length : Int) := by omega
   obtain ⟨bs, os, At, ct, rfl, hBs, e0, e1, hc1, hc2, hin⟩ := (HD.out _ HB.out).at_ hil
   obtain ⟨q, hq⟩ := bool_of (P := TabOk db[i].1 db[i].2)
   have HVT := Lib.hid (specValidTable_ok db[i].1 At ct db[i].2 wr (by omega) hin.rws q hq)
   have Hy := Lib.hid (show (wsDb db).take (i + 1) = (wsDb db).take i ++ [db[i].1] by unfold wsDb; exact mapR_take hil)
   have HQ := Lib.hid hq
   have HNV := Lib.hid (fun (hf : q = false) => show R = [] from by
    rw [← HR.out]
    unfold wdS
    rw [if_neg]
    intro hd
    have := HQ.out.2 (hd _ (List.getElem_mem hil))
    rw [hf] at this; cases this)
   have HYV := Lib.hid (fun (ht : q = true) => show TabOk db[i].1 db[i].2 from HQ.out.1 ht)
   obtain ⟨W, hW⟩ : ∃ x, db[i].1 = x := ⟨_, rfl⟩
   obtain ⟨n, hn⟩ : ∃ x, db[i].2.length = x := ⟨_, rfl⟩
   rw [hW] at e0 HVT Hy
   rw [hn] at e1 HVT
   have HBS := Lib.hid (And.intro hBs e0)
   have htl : ((wsDb db).take i).length ≤ 1048576 := by rw [List.length_take]; omega
   have hR0 : R.length ≤ 1048576 := by rw [← HR.out]; exact Nat.le_trans (wdS_len db) hdl
   unfold maxLen at hc2
   clear hq hW hn hin hBs hc1
   go_wp2_with fail
   refine HVT.out.mono ?_
   rintro e w3 ⟨rfl, hb3⟩
   have HB3 := Lib.hid (bch HB.out hb3)
   have HO3 := Lib.hid (HO.out.on hb3)
   have e0' : w3.cell? ⟨bs, os + i * 2, none⟩ = some (.int .i64 W) := (hb3.cell (p := ⟨_, _, none⟩) HBS.out.1).trans HBS.out.2
   clear hb3 e0 e1
   cases q
   ·have hr := HNV.out rfl
    subst hr
    go_wp2
    go_ret
    exact ⟨_, rfl, bch HB3.out (balloc (Below.refl _ _) _), Ow.lit (xs := ([] : List Int)) rfl rfl HB3.out.size (by decide)⟩
   ·have HYT := Lib.hid (HYV.out rfl)
    obtain ⟨U, hU⟩ : ∃ z, w3.alloc (.cells #[.int .i64 W] 3) = z := ⟨_, rfl⟩
    have hub : Below w3.heap.size w3 U := by rw [← hU]; exact balloc (Below.refl _ _) _
    have HB5 := Lib.hid (bch HB3.out hub)
    have HO5 := Lib.hid (HO3.out.on hub)
    have HS5 := Lib.hid (show Sl 1 intC U U.heap.size (some ⟨w3.heap.size, 0, none⟩) [W] by rw [← hU]; exact Row.sl' (t := 3) intC_length ((Row.new w3 _ _).of rfl))
    have hsz6 : w.heap.size ≤ U.heap.size := HB5.out.size
    have HU := Lib.hid hU
    clear hU hub
    go_wp2_with (at_builtin; rw [HU.out]; refine wpList_app rfl (.tmp 19) (.tmp 25) 23 rfl w.heap.size 3 _ 1 8 intC Tryz.underlying23 zeroIntJ rfl (by decide) (by decide) intC_length intC_one _ ((wsDb db).take i) rfl HO5.out (some ⟨w3.heap.size, 0, none⟩) 1 1 [W] rfl rfl HS5.out (by simp only [List.length_singleton]; omega) hsz6 ?_; intro v' w' hown hgr)
    go_roundg (db.length - (i + 1))
    case measure => omega
    case rel =>
     refine ⟨i + 1, by omega, rfl, by go_num, by rw [Hy.out]; exact hown, HB5.out.grown hgr hsz6 fun k hk => (HO5.out.ty k hk).1, fun j hj hji => ?_⟩
     by_cases h : j = i
     ·subst h; exact HYT.out
     ·exact HA.out j hj (by omega)
  ·have hiI : ¬ (i : Int) < (db.length : Int) := by omega
   have HF := Lib.hid (show R = wsDb db by
    rw [← HR.out]
    unfold wdS
    rw [if_pos]
    intro t ht
    obtain ⟨j, hj, rfl⟩ := List.getElem_of_mem ht
    exact HA.out j hj (by omega))
   have hte : (wsDb db).take i = wsDb db := List.take_of_length_le (by unfold wsDb; rw [List.length_map]; omega)
   rw [hte] at HO
   clear hte
   go_wp2
   go_ret
   exact ⟨_, rfl, HB.out, by rw [HF.out]; exact HO.out⟩

def PcS (db : List Tb) (p : Pl) : Prop := ∀ (f : FP) (A : Option Addr) (c d : Nat) (w : World), PlIn w w.heap.size f p → plW (wsDb db) d p ≠ 0 → d ≤ 8 → DbT w A db → DbOk db → db.length ≤ maxLen →
 Calls Tryz.prog 41 #[fpV f, .slice A db.length c] w fun e w' => e = .returned (.int .i64 (plCo db (d + 1) p)) ∧ Below w.heap.size w w'
theorem pow3_le {d : Nat} (h : d ≤ 8) : (400 : Int) * 3 ^ (d + 1) ≤ 7873200 := by
 have : d = 0 ∨ d = 1 ∨ d = 2 ∨ d = 3 ∨ d = 4 ∨ d = 5 ∨ d = 6 ∨ d = 7 ∨ d = 8 := by omega
 rcases this with rfl | rfl | rfl | rfl | rfl | rfl | rfl | rfl | rfl
 all_goals decide
set_option maxRecDepth 20000 in
set_option maxHeartbeats 8000000 in
theorem specPlanCost_ok' (db : List Tb) : ∀ p : Pl, PcS db p := Pl.ind fun p ih f A c d w h hv hd8 hdt hdb hdl => by
 obtain ⟨a1, a2, ⟨a3, a3', a3''⟩, ⟨a4, a4', a4''⟩, ⟨a5, a5', a5''⟩, a6, a7⟩ := h.flat
 obtain ⟨W0, hW0⟩ : ∃ z, w.alloc (.cells #[.int .i64 f.kind, .int .i64 f.table, .slice f.es.A f.es.n f.es.c, .slice f.cs.A f.cs.n f.cs.c, .slice f.ks.A f.ks.n f.ks.c] 38) = z := ⟨_, rfl⟩
 have B0 : Below w.heap.size w W0 := by rw [← hW0]; exact balloc (Below.refl _ _) _
 have r0 : Row W0 w.heap.size 38 [.int .i64 f.kind, .int .i64 f.table, .slice f.es.A f.es.n f.es.c, .slice f.cs.A f.cs.n f.cs.c, .slice f.ks.A f.ks.n f.ks.c] := by rw [← hW0]; exact Row.new _ _ _
 have HE := Lib.hid (specEvalPlan_ok' db p f A c d W0 (h.on B0) hv (hdt.on B0) hdb hdl)
 unfold fpV at HE
 have HW0 := Lib.hid hW0
 have HB0 := Lib.hid B0
 have HRw := Lib.hid r0
 have HK := Lib.hid (fun (z : World) (hz : Below w.heap.size w z) (i : Nat) (hi : i < p.kids.length) => (h.on hz).kid hi)
 have HD := Lib.hid (fun (z : World) (hz : Below w.heap.size w z) => hdt.on hz)
 have HDB := Lib.hid (And.intro hdb hdl)
 have IH := Lib.hid ih
 have HV := Lib.hid hv
 have hof : OnlyF p := Classical.byContradiction fun hn => hv (plW_no hn)
 have hkl := hof.kids_le
 have hrg := plCo_range hdb d p hv
 have hp3 := pow3_le hd8
 have ht4 : (plT db (d + 1) p).2.length ≤ 400 := (plT_ok hdb d p hv).2.tab.2.2.1
 obtain ⟨R, hR⟩ : ∃ R, plCo db (d + 1) p = R := ⟨_, rfl⟩
 have HR := Lib.hid (show R = ((plT db (d + 1) p).2.length : Int) + kidC (plCo db d) p 0 + kidC (plCo db d) p 1 from hR.symm)
 have HKC := Lib.hid (fun i => show 0 ≤ kidC (plCo db d) p i ∧ kidC (plCo db d) p i ≤ 7873200 from by
  unfold kidC
  split
  ·rename_i x hx
   obtain ⟨_, e, rfl, he⟩ := plW_kids hv (List.mem_of_getElem? hx)
   have h1 := plCo_range hdb e x he
   have h2 := pow3_le (d := e) (by omega)
   omega
  ·omega)
 rw [hR]
 rw [hR] at hrg
 obtain ⟨RR, hRR⟩ : ∃ t, (plT db (d + 1) p).2 = t := ⟨_, rfl⟩
 rw [hRR] at HE HR ht4
 have hfd : ∀ (W : Int) (v : Value) (z : World), (Instr.field 32 (.agg #[.int .i64 W, v]) 1).run Tryz.prog z = .ok v z := fun _ _ _ => by kernel_rfl
 have c0 := r0.cell 0
 have c1 := r0.cell 1
 have c2 := r0.cell 2
 have c3 := r0.cell 3
 have c4 := r0.cell 4
 have HD8 := Lib.hid hd8
 have HKN := Lib.hid a5
 unfold maxLen at hdl
 unfold fpV
 clear h hv hdt hdb ih a1 a2 a3 a4 a3' a3'' a4' a4'' a5' a5'' a6 a7 B0 r0 hW0 hR hRR hof a5 hd8
 go_enter Tryz.func41, Tryz.ntmps41
 go_upto_region 1 with fail
 rw [HW0.out]
 go_wp2_with fail
 refine HE.out.mono ?_
 rintro e w2 ⟨A2, cc2, rfl, hc21, hc22, hin2, hb2⟩
 have HB2 := Lib.hid hb2
 have hf1 := hfd (plT db (d + 1) p).1 (.slice A2 RR.length cc2) w2
 have r2 := HRw.out.on hb2
 unfold maxLen at hc22
 clear hfd c0 c1 c2 c3 c4 hin2 hb2
 have c4 : w2.cell? ⟨w.heap.size, 4, none⟩ = some (.slice f.ks.A p.kids.length f.ks.c) := by rw [← HKN.out]; exact r2.cell 4
 clear r2
 go_wp2
 go_loopg [5, 6] p.kids.length (fun g nv iv wr => ∃ (i : Nat) (n : Int), i ≤ p.kids.length ∧ g = p.kids.length - i ∧ iv = .int .i64 i ∧ nv = .int .i64 n ∧ n = (RR.length : Int) + (if 0 < i then kidC (plCo db d) p 0 else 0) + (if 1 < i then kidC (plCo db d) p 1 else 0) ∧ Below w2.heap.size w2 wr)
 case atStart => exact ⟨0, _, by omega, by omega, rfl, rfl, by simp, Below.refl _ _⟩
 case round =>
  obtain ⟨i, n, hi, rfl, rfl, rfl, hn, hb⟩ := hrel
  have HN := Lib.hid hn
  have HB := Lib.hid hb
  have HBw := Lib.hid (bch HB0.out (bch HB2.out hb))
  have hnr : 0 ≤ n ∧ n ≤ 20000000 := by
   have h0 := HKC.out 0
   have h1 := HKC.out 1
   rw [hn]
   split <;> split <;> omega
  have r2 := HRw.out.on (bch HB2.out hb)
  clear hn c4 hf1
  have c4 : wr.cell? ⟨w.heap.size, 4, none⟩ = some (.slice f.ks.A p.kids.length f.ks.c) := by rw [← HKN.out]; exact r2.cell 4
  clear r2 hb
  by_cases hil : i < p.kids.length
  ·have hiI : (i : Int) < (p.kids.length : Int) := by omega
   obtain ⟨_, e, hde, hv1⟩ := plW_kids HV.out (List.getElem_mem hil)
   obtain ⟨q1, o1, g, hA1, hq1, ⟨k0, k1, k2, k3, k4⟩, hg⟩ := HK.out _ HBw.out i hil
   rw [hA1] at c4
   have HX := Lib.hid (IH.out _ (List.getElem_mem hil) g A c e wr hg hv1 (by have := HD8.out; omega) (HD.out _ HBw.out) HDB.out.1 HDB.out.2)
   unfold fpV at HX
   have hkc : plCo db (e + 1) p.kids[i] = kidC (plCo db d) p i := by unfold kidC; rw [List.getElem?_eq_getElem hil, hde]
   rw [hkc] at HX
   obtain ⟨m, hm⟩ : ∃ m, kidC (plCo db d) p i = m := ⟨_, rfl⟩
   have hmr := HKC.out i
   rw [hm] at HX hmr
   have HM := Lib.hid hm
   clear hkc hm hde hv1 hg hA1
   go_wp2_with fail
   refine HX.out.mono ?_
   rintro e' w4 ⟨rfl, hb4⟩
   have HB4 := Lib.hid (bch HB.out hb4)
   clear hb4 k0 k1 k2 k3 k4 c4
   go_wp2
   go_roundg (p.kids.length - (i + 1))
   case measure => omega
   case rel =>
    refine ⟨i + 1, n + m, by omega, rfl, by go_num, rfl, ?_, HB4.out⟩
    rw [HN.out, ← HM.out]
    have : i = 0 ∨ i = 1 := by omega
    rcases this with rfl | rfl
    ·simp
    ·simp
  ·have hiI : ¬ (i : Int) < (p.kids.length : Int) := by omega
   have HF := Lib.hid (show n = R by
    rw [HN.out, HR.out]
    have hk0 : ∀ j, p.kids.length ≤ j → kidC (plCo db d) p j = 0 := fun j hj => by unfold kidC; rw [List.getElem?_eq_none hj]
    have h3 : p.kids.length = 0 ∨ p.kids.length = 1 ∨ p.kids.length = 2 := by omega
    have hie : i = p.kids.length := by omega
    rcases h3 with h | h | h
    ·rw [hk0 0 (by omega), hk0 1 (by omega), if_neg (by omega), if_neg (by omega)]
    ·rw [hk0 1 (by omega), if_pos (by omega), if_neg (by omega)]
    ·rw [if_pos (by omega), if_pos (by omega)])
   go_wp2
   go_ret
   exact ⟨ret_int HF.out, HBw.out⟩

set_option maxRecDepth 20000 in
set_option maxHeartbeats 4000000 in
theorem specPlanCost_ok (p : Pl) (f : FP) (db : List Tb) (A : Option Addr) (c : Nat) (w : World) (h : PlIn w w.heap.size f p) (hdl : db.length ≤ 1048576) (hdt : DbT w A db) (R : Int) (hq : (DbV db ∧ plW (wsDb db) 8 p ≠ 0 → R = plCo db 9 p) ∧ (¬ (DbV db ∧ plW (wsDb db) 8 p ≠ 0) → R = -1)) :
  Calls Tryz.prog 18 #[fpV f, .slice A db.length c] w fun e w' => e = .returned (.int .i64 R) ∧ Below w.heap.size w w' := by
 obtain ⟨W0, hW0⟩ : ∃ z, w.alloc (.cells #[.int .i64 f.kind, .int .i64 f.table, .slice f.es.A f.es.n f.es.c, .slice f.cs.A f.cs.n f.cs.c, .slice f.ks.A f.ks.n f.ks.c] 38) = z := ⟨_, rfl⟩
 have B0 : Below w.heap.size w W0 := by rw [← hW0]; exact balloc (Below.refl _ _) _
 have r0 : Row W0 w.heap.size 38 [.int .i64 f.kind, .int .i64 f.table, .slice f.es.A f.es.n f.es.c, .slice f.cs.A f.cs.n f.cs.c, .slice f.ks.A f.ks.n f.ks.c] := by rw [← hW0]; exact Row.new _ _ _

 obtain ⟨wd, hwd⟩ : ∃ x, widthP (wdS db) p = x := ⟨_, rfl⟩
 have Hwd := Lib.hid hwd
 have hww := wdS_width db p
 rw [hwd] at hww
 have HWW := Lib.hid hww
 have HP := Lib.hid (fun (z : World) (hz : Below w.heap.size w z) => h.on hz)
 have HD := Lib.hid (fun (z : World) (hz : Below w.heap.size w z) => hdt.on hz)
 have HW0 := Lib.hid hW0
 have HB0 := Lib.hid B0
 have SB := Lib.hid (fun (z : World) (hz : Below W0.heap.size W0 z) => show z.cell? ⟨w.heap.size, 0, none⟩ = some (.int .i64 f.kind) ∧ z.cell? ⟨w.heap.size, 1, none⟩ = some (.int .i64 f.table) ∧ z.cell? ⟨w.heap.size, 2, none⟩ = some (.slice f.es.A f.es.n f.es.c) ∧ z.cell? ⟨w.heap.size, 3, none⟩ = some (.slice f.cs.A f.cs.n f.cs.c) ∧ z.cell? ⟨w.heap.size, 4, none⟩ = some (.slice f.ks.A f.ks.n f.ks.c) from ⟨(r0.on hz).cell 0, (r0.on hz).cell 1, (r0.on hz).cell 2, (r0.on hz).cell 3, (r0.on hz).cell 4⟩)

 obtain ⟨u0, hu0⟩ : ∃ z, W0.drew = z := ⟨_, rfl⟩
 have Bu0 := Lib.hid (show Below W0.heap.size W0 u0 from hu0 ▸ (Below.refl _ _).drew)
 have Hu0 := Lib.hid hu0
 unfold fpV
 clear hu0 h hdt B0 r0 hW0 hwd hww
 have HQ := Lib.hid hq
 clear hq
 by_cases hv : DbV db ∧ plW (wsDb db) 8 p ≠ 0
 ·have hR : plCo db 9 p = R := (HQ.out.1 hv).symm
  have hwd : wd = plW (wsDb db) 8 p := HWW.out.1 hv
  have hw0 : (wd == 0) = false := by rw [hwd]; simpa using hv.2
  have HPC := Lib.hid (fun (z : World) (hz : Below w.heap.size w z) => specPlanCost_ok' db p f A c 8 z (HP.out _ hz) hv.2 (by omega) (HD.out _ hz) hv.1.2 (by unfold maxLen; omega))
  rw [hR] at HPC
  unfold fpV at HPC
  clear hR hwd hv
  go_enter Tryz.func18, Tryz.ntmps18
  go_upto_region 1 with fail
  rw [HW0.out]
  refine wp_region_g 4 (fun z => z.cell? ⟨w.heap.size, 0, none⟩ = some (.int .i64 f.kind) ∧ z.cell? ⟨w.heap.size, 1, none⟩ = some (.int .i64 f.table) ∧ z.cell? ⟨w.heap.size, 2, none⟩ = some (.slice f.es.A f.es.n f.es.c) ∧ z.cell? ⟨w.heap.size, 3, none⟩ = some (.slice f.cs.A f.cs.n f.cs.c) ∧ z.cell? ⟨w.heap.size, 4, none⟩ = some (.slice f.ks.A f.ks.n f.ks.c)) (by kernel_rfl) ?_ (fun hHeld => ?_)
  ·exact SB.out _ (Below.refl _ _).drew
  rw [Hu0.out] at hHeld ⊢
  refine wpAnyG_ready (rs := [0, 1]) (by kernel_rfl) (by simp) ?_
  refine readyG rfl (fun K hK => ?_) (readyG rfl (fun K hK => ?_) AllReadyG.nil)
  ·skip
   go_simp
   refine hK.out _ _ ?hS1 (fun hHeld => ?_)
   case hS1 => exact fun _ => SB.out _ Bu0.out
   replace hHeld := hHeld (by decide)
   clear hK K
   try simp only [Act.put, sTA, sC0, sCS]
   refine rdG (i := 1) (by kernel_rfl) rfl (fun K hK => ?_)
   go_simp
   refine hK.out _ _ ?hS2 (fun hHeld => ?_)
   case hS2 => exact fun _ => SB.out _ Bu0.out
   replace hHeld := hHeld (by decide)
   clear hK K
   try simp only [Act.put, sTA, sC0, sCS]
   refine rdG (i := 2) (by kernel_rfl) rfl (fun K hK => ?_)
   go_simp
   go_at_call 25
   refine (specWidthsOf_ok db A c u0 hdl (HD.out _ (bch HB0.out Bu0.out))).mono ?_
   rintro e y1 ⟨v7, rfl, hb, how7⟩
   obtain ⟨A7, c7, rfl, hc71, hc72, hsl7⟩ := how7.shape intC_length
   have By1 := Lib.hid (bch Bu0.out hb)
   have HWI := Lib.hid (fun (z : World) (hz : Below y1.heap.size y1 z) => widthOf_ok p f (wdS db) A7 c7 z wd (HP.out _ (bch HB0.out (bch By1.out hz))) (Nat.le_trans (wdS_len db) (by unfold maxLen; omega)) (hsl7.sl.on hz) Hwd.out)
   unfold fpV at HWI
   clear hb how7 hsl7 hc71 hc72
   refine hK.out _ _ ?hS3 (fun hHeld => ?_)
   case hS3 => exact fun _ => SB.out _ By1.out
   replace hHeld := hHeld (by decide)
   clear hK K
   try simp only [Act.put, sTA, sC0, sCS]
   refine rdG (i := 3) (by kernel_rfl) rfl (fun K hK => ?_)
   go_simp
   go_at_call 24
   refine (HWI.out _ (Below.refl _ _)).mono ?_
   rintro e y2 ⟨rfl, hb⟩
   have By2 := Lib.hid (bch By1.out hb)
   clear hb
   refine hK.out _ _ ?hS4 (fun hHeld => ?_)
   case hS4 => exact fun _ => SB.out _ By2.out
   replace hHeld := hHeld (by decide)
   clear hK K
   try simp only [Act.put, sTA, sC0, sCS]
   refine rdG (i := 4) (by kernel_rfl) rfl (fun K hK => ?_)
   go_simp
   refine hK.out _ _ ?hS5 (fun hHeld => ?_)
   case hS5 => exact fun h => absurd rfl h
   clear hK K
   try simp only [Act.put, sTA, sC0, sCS]
   refine wpAnyG_done (by kernel_rfl) ?_ _
   obtain ⟨c0, c1, c2, c3, c4⟩ := SB.out _ By2.out
   go_wp2_with fail
   refine (HPC.out _ (bch HB0.out By2.out)).mono ?_
   rintro e y3 ⟨rfl, hb⟩
   have By3 := Lib.hid (bch By2.out hb)
   clear hb
   go_wp2
   go_ret
   exact ⟨rfl, bch HB0.out By3.out⟩
  ·skip
   go_simp
   refine hK.out _ _ ?hS6 (fun hHeld => ?_)
   case hS6 => exact fun _ => SB.out _ Bu0.out
   replace hHeld := hHeld (by decide)
   clear hK K
   try simp only [Act.put, sTA, sC0, sCS]
   refine wpAnyG_ready (rs := [0, 2]) (by kernel_rfl) (by simp) ?_
   refine readyG rfl (fun K hK => ?_) (readyG rfl (fun K hK => ?_) AllReadyG.nil)
   ·skip
    go_simp
    refine hK.out _ _ ?hS7 (fun hHeld => ?_)
    case hS7 => exact fun _ => SB.out _ Bu0.out
    replace hHeld := hHeld (by decide)
    clear hK K
    try simp only [Act.put, sTA, sC0, sCS]
    refine rdG (i := 2) (by kernel_rfl) rfl (fun K hK => ?_)
    go_simp
    go_at_call 25
    refine (specWidthsOf_ok db A c u0 hdl (HD.out _ (bch HB0.out Bu0.out))).mono ?_
    rintro e y1 ⟨v7, rfl, hb, how7⟩
    obtain ⟨A7, c7, rfl, hc71, hc72, hsl7⟩ := how7.shape intC_length
    have By1 := Lib.hid (bch Bu0.out hb)
    have HWI := Lib.hid (fun (z : World) (hz : Below y1.heap.size y1 z) => widthOf_ok p f (wdS db) A7 c7 z wd (HP.out _ (bch HB0.out (bch By1.out hz))) (Nat.le_trans (wdS_len db) (by unfold maxLen; omega)) (hsl7.sl.on hz) Hwd.out)
    unfold fpV at HWI
    clear hb how7 hsl7 hc71 hc72
    refine hK.out _ _ ?hS8 (fun hHeld => ?_)
    case hS8 => exact fun _ => SB.out _ By1.out
    replace hHeld := hHeld (by decide)
    clear hK K
    try simp only [Act.put, sTA, sC0, sCS]
    refine rdG (i := 3) (by kernel_rfl) rfl (fun K hK => ?_)
    go_simp
    go_at_call 24
    refine (HWI.out _ (Below.refl _ _)).mono ?_
    rintro e y2 ⟨rfl, hb⟩
    have By2 := Lib.hid (bch By1.out hb)
    clear hb
    refine hK.out _ _ ?hS9 (fun hHeld => ?_)
    case hS9 => exact fun _ => SB.out _ By2.out
    replace hHeld := hHeld (by decide)
    clear hK K
    try simp only [Act.put, sTA, sC0, sCS]
    refine rdG (i := 4) (by kernel_rfl) rfl (fun K hK => ?_)
    go_simp
    refine hK.out _ _ ?hS10 (fun hHeld => ?_)
    case hS10 => exact fun h => absurd rfl h
    clear hK K
    try simp only [Act.put, sTA, sC0, sCS]
    refine wpAnyG_done (by kernel_rfl) ?_ _
    obtain ⟨c0, c1, c2, c3, c4⟩ := SB.out _ By2.out
    go_wp2_with fail
    refine (HPC.out _ (bch HB0.out By2.out)).mono ?_
    rintro e y3 ⟨rfl, hb⟩
    have By3 := Lib.hid (bch By2.out hb)
    clear hb
    go_wp2
    go_ret
    exact ⟨rfl, bch HB0.out By3.out⟩
   ·skip
    go_simp
    go_at_call 25
    refine (specWidthsOf_ok db A c u0 hdl (HD.out _ (bch HB0.out Bu0.out))).mono ?_
    rintro e y1 ⟨v7, rfl, hb, how7⟩
    obtain ⟨A7, c7, rfl, hc71, hc72, hsl7⟩ := how7.shape intC_length
    have By1 := Lib.hid (bch Bu0.out hb)
    have HWI := Lib.hid (fun (z : World) (hz : Below y1.heap.size y1 z) => widthOf_ok p f (wdS db) A7 c7 z wd (HP.out _ (bch HB0.out (bch By1.out hz))) (Nat.le_trans (wdS_len db) (by unfold maxLen; omega)) (hsl7.sl.on hz) Hwd.out)
    unfold fpV at HWI
    clear hb how7 hsl7 hc71 hc72
    refine hK.out _ _ ?hS11 (fun hHeld => ?_)
    case hS11 => exact fun _ => SB.out _ By1.out
    replace hHeld := hHeld (by decide)
    clear hK K
    try simp only [Act.put, sTA, sC0, sCS]
    refine rdG (i := 0) (by kernel_rfl) rfl (fun K hK => ?_)
    go_simp
    refine hK.out _ _ ?hS12 (fun hHeld => ?_)
    case hS12 => exact fun _ => SB.out _ By1.out
    replace hHeld := hHeld (by decide)
    clear hK K
    try simp only [Act.put, sTA, sC0, sCS]
    refine rdG (i := 3) (by kernel_rfl) rfl (fun K hK => ?_)
    go_simp
    go_at_call 24
    refine (HWI.out _ (Below.refl _ _)).mono ?_
    rintro e y2 ⟨rfl, hb⟩
    have By2 := Lib.hid (bch By1.out hb)
    clear hb
    refine hK.out _ _ ?hS13 (fun hHeld => ?_)
    case hS13 => exact fun _ => SB.out _ By2.out
    replace hHeld := hHeld (by decide)
    clear hK K
    try simp only [Act.put, sTA, sC0, sCS]
    refine rdG (i := 4) (by kernel_rfl) rfl (fun K hK => ?_)
    go_simp
    refine hK.out _ _ ?hS14 (fun hHeld => ?_)
    case hS14 => exact fun h => absurd rfl h
    clear hK K
    try simp only [Act.put, sTA, sC0, sCS]
    refine wpAnyG_done (by kernel_rfl) ?_ _
    obtain ⟨c0, c1, c2, c3, c4⟩ := SB.out _ By2.out
    go_wp2_with fail
    refine (HPC.out _ (bch HB0.out By2.out)).mono ?_
    rintro e y3 ⟨rfl, hb⟩
    have By3 := Lib.hid (bch By2.out hb)
    clear hb
    go_wp2
    go_ret
    exact ⟨rfl, bch HB0.out By3.out⟩
 ·have hR : R = -1 := HQ.out.2 hv
  have hwd : wd = 0 := HWW.out.2 hv
  subst hR
  have hw0 : (wd == 0) = true := by rw [hwd]; rfl
  clear hwd hv
  go_enter Tryz.func18, Tryz.ntmps18
  go_upto_region 1 with fail
  rw [HW0.out]
  refine wp_region_g 4 (fun z => z.cell? ⟨w.heap.size, 0, none⟩ = some (.int .i64 f.kind) ∧ z.cell? ⟨w.heap.size, 1, none⟩ = some (.int .i64 f.table) ∧ z.cell? ⟨w.heap.size, 2, none⟩ = some (.slice f.es.A f.es.n f.es.c) ∧ z.cell? ⟨w.heap.size, 3, none⟩ = some (.slice f.cs.A f.cs.n f.cs.c) ∧ z.cell? ⟨w.heap.size, 4, none⟩ = some (.slice f.ks.A f.ks.n f.ks.c)) (by kernel_rfl) ?_ (fun hHeld => ?_)
  ·exact SB.out _ (Below.refl _ _).drew
  rw [Hu0.out] at hHeld ⊢
  refine wpAnyG_ready (rs := [0, 1]) (by kernel_rfl) (by simp) ?_
  refine readyG rfl (fun K hK => ?_) (readyG rfl (fun K hK => ?_) AllReadyG.nil)
  ·skip
   go_simp
   refine hK.out _ _ ?hS15 (fun hHeld => ?_)
   case hS15 => exact fun _ => SB.out _ Bu0.out
   replace hHeld := hHeld (by decide)
   clear hK K
   try simp only [Act.put, sTA, sC0, sCS]
   refine rdG (i := 1) (by kernel_rfl) rfl (fun K hK => ?_)
   go_simp
   refine hK.out _ _ ?hS16 (fun hHeld => ?_)
   case hS16 => exact fun _ => SB.out _ Bu0.out
   replace hHeld := hHeld (by decide)
   clear hK K
   try simp only [Act.put, sTA, sC0, sCS]
   refine rdG (i := 2) (by kernel_rfl) rfl (fun K hK => ?_)
   go_simp
   go_at_call 25
   refine (specWidthsOf_ok db A c u0 hdl (HD.out _ (bch HB0.out Bu0.out))).mono ?_
   rintro e y1 ⟨v7, rfl, hb, how7⟩
   obtain ⟨A7, c7, rfl, hc71, hc72, hsl7⟩ := how7.shape intC_length
   have By1 := Lib.hid (bch Bu0.out hb)
   have HWI := Lib.hid (fun (z : World) (hz : Below y1.heap.size y1 z) => widthOf_ok p f (wdS db) A7 c7 z wd (HP.out _ (bch HB0.out (bch By1.out hz))) (Nat.le_trans (wdS_len db) (by unfold maxLen; omega)) (hsl7.sl.on hz) Hwd.out)
   unfold fpV at HWI
   clear hb how7 hsl7 hc71 hc72
   refine hK.out _ _ ?hS17 (fun hHeld => ?_)
   case hS17 => exact fun _ => SB.out _ By1.out
   replace hHeld := hHeld (by decide)
   clear hK K
   try simp only [Act.put, sTA, sC0, sCS]
   refine rdG (i := 3) (by kernel_rfl) rfl (fun K hK => ?_)
   go_simp
   go_at_call 24
   refine (HWI.out _ (Below.refl _ _)).mono ?_
   rintro e y2 ⟨rfl, hb⟩
   have By2 := Lib.hid (bch By1.out hb)
   clear hb
   refine hK.out _ _ ?hS18 (fun hHeld => ?_)
   case hS18 => exact fun _ => SB.out _ By2.out
   replace hHeld := hHeld (by decide)
   clear hK K
   try simp only [Act.put, sTA, sC0, sCS]
   refine rdG (i := 4) (by kernel_rfl) rfl (fun K hK => ?_)
   go_simp
   refine hK.out _ _ ?hS19 (fun hHeld => ?_)
   case hS19 => exact fun h => absurd rfl h
   clear hK K
   try simp only [Act.put, sTA, sC0, sCS]
   refine wpAnyG_done (by kernel_rfl) ?_ _
   go_wp2
   go_ret
   exact ⟨rfl, bch HB0.out By2.out⟩
  ·skip
   go_simp
   refine hK.out _ _ ?hS20 (fun hHeld => ?_)
   case hS20 => exact fun _ => SB.out _ Bu0.out
   replace hHeld := hHeld (by decide)
   clear hK K
   try simp only [Act.put, sTA, sC0, sCS]
   refine wpAnyG_ready (rs := [0, 2]) (by kernel_rfl) (by simp) ?_
   refine readyG rfl (fun K hK => ?_) (readyG rfl (fun K hK => ?_) AllReadyG.nil)
   ·skip
    go_simp
    refine hK.out _ _ ?hS21 (fun hHeld => ?_)
    case hS21 => exact fun _ => SB.out _ Bu0.out
    replace hHeld := hHeld (by decide)
    clear hK K
    try simp only [Act.put, sTA, sC0, sCS]
    refine rdG (i := 2) (by kernel_rfl) rfl (fun K hK => ?_)
    go_simp
    go_at_call 25
    refine (specWidthsOf_ok db A c u0 hdl (HD.out _ (bch HB0.out Bu0.out))).mono ?_
    rintro e y1 ⟨v7, rfl, hb, how7⟩
    obtain ⟨A7, c7, rfl, hc71, hc72, hsl7⟩ := how7.shape intC_length
    have By1 := Lib.hid (bch Bu0.out hb)
    have HWI := Lib.hid (fun (z : World) (hz : Below y1.heap.size y1 z) => widthOf_ok p f (wdS db) A7 c7 z wd (HP.out _ (bch HB0.out (bch By1.out hz))) (Nat.le_trans (wdS_len db) (by unfold maxLen; omega)) (hsl7.sl.on hz) Hwd.out)
    unfold fpV at HWI
    clear hb how7 hsl7 hc71 hc72
    refine hK.out _ _ ?hS22 (fun hHeld => ?_)
    case hS22 => exact fun _ => SB.out _ By1.out
    replace hHeld := hHeld (by decide)
    clear hK K
    try simp only [Act.put, sTA, sC0, sCS]
    refine rdG (i := 3) (by kernel_rfl) rfl (fun K hK => ?_)
    go_simp
    go_at_call 24
    refine (HWI.out _ (Below.refl _ _)).mono ?_
    rintro e y2 ⟨rfl, hb⟩
    have By2 := Lib.hid (bch By1.out hb)
    clear hb
    refine hK.out _ _ ?hS23 (fun hHeld => ?_)
    case hS23 => exact fun _ => SB.out _ By2.out
    replace hHeld := hHeld (by decide)
    clear hK K
    try simp only [Act.put, sTA, sC0, sCS]
    refine rdG (i := 4) (by kernel_rfl) rfl (fun K hK => ?_)
    go_simp
    refine hK.out _ _ ?hS24 (fun hHeld => ?_)
    case hS24 => exact fun h => absurd rfl h
    clear hK K
    try simp only [Act.put, sTA, sC0, sCS]
    refine wpAnyG_done (by kernel_rfl) ?_ _
    go_wp2
    go_ret
    exact ⟨rfl, bch HB0.out By2.out⟩
   ·skip
    go_simp
    go_at_call 25
    refine (specWidthsOf_ok db A c u0 hdl (HD.out _ (bch HB0.out Bu0.out))).mono ?_
    rintro e y1 ⟨v7, rfl, hb, how7⟩
    obtain ⟨A7, c7, rfl, hc71, hc72, hsl7⟩ := how7.shape intC_length
    have By1 := Lib.hid (bch Bu0.out hb)
    have HWI := Lib.hid (fun (z : World) (hz : Below y1.heap.size y1 z) => widthOf_ok p f (wdS db) A7 c7 z wd (HP.out _ (bch HB0.out (bch By1.out hz))) (Nat.le_trans (wdS_len db) (by unfold maxLen; omega)) (hsl7.sl.on hz) Hwd.out)
    unfold fpV at HWI
    clear hb how7 hsl7 hc71 hc72
    refine hK.out _ _ ?hS25 (fun hHeld => ?_)
    case hS25 => exact fun _ => SB.out _ By1.out
    replace hHeld := hHeld (by decide)
    clear hK K
    try simp only [Act.put, sTA, sC0, sCS]
    refine rdG (i := 0) (by kernel_rfl) rfl (fun K hK => ?_)
    go_simp
    refine hK.out _ _ ?hS26 (fun hHeld => ?_)
    case hS26 => exact fun _ => SB.out _ By1.out
    replace hHeld := hHeld (by decide)
    clear hK K
    try simp only [Act.put, sTA, sC0, sCS]
    refine rdG (i := 3) (by kernel_rfl) rfl (fun K hK => ?_)
    go_simp
    go_at_call 24
    refine (HWI.out _ (Below.refl _ _)).mono ?_
    rintro e y2 ⟨rfl, hb⟩
    have By2 := Lib.hid (bch By1.out hb)
    clear hb
    refine hK.out _ _ ?hS27 (fun hHeld => ?_)
    case hS27 => exact fun _ => SB.out _ By2.out
    replace hHeld := hHeld (by decide)
    clear hK K
    try simp only [Act.put, sTA, sC0, sCS]
    refine rdG (i := 4) (by kernel_rfl) rfl (fun K hK => ?_)
    go_simp
    refine hK.out _ _ ?hS28 (fun hHeld => ?_)
    case hS28 => exact fun h => absurd rfl h
    clear hK K
    try simp only [Act.put, sTA, sC0, sCS]
    refine wpAnyG_done (by kernel_rfl) ?_ _
    go_wp2
    go_ret
    exact ⟨rfl, bch HB0.out By2.out⟩
end Go.Proofs.YtcbfbgngkdiijaaGreat
