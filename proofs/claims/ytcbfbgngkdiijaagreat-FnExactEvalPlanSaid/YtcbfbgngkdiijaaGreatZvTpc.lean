import Derived.Test.YtcbfbgngkdiijaaGreatProg
import Derived.Test.YtcbfbgngkdiijaaGreatZvTev
import Derived.Test.YtcbfbgngkdiijaaGreatZvEvr
import Derived.Test.YtcbfbgngkdiijaaGreatZvPls
namespace Go.Proofs.YtcbfbgngkdiijaaGreat
open Go.RowKit Go.Qo
set_option linter.unusedVariables false
set_option linter.unusedSimpArgs false

open Classical in
noncomputable def wdS (db:List Tb):List Int:=if DbOk db then wsDb db else []
theorem wdS_len (db:List Tb):(wdS db).length ≤ db.length:=by
 unfold wdS
 split
 ·unfold wsDb;rw [List.length_map];exact Nat.le_refl _
 ·simp
theorem wdS_width (db:List Tb) (p:Pl):(DbV db ∧ plW (wsDb db) 8 p ≠ 0 → widthP (wdS db) p=plW (wsDb db) 8 p) ∧ (¬ (DbV db ∧ plW (wsDb db) 8 p ≠ 0) → widthP (wdS db) p=0):=by
 refine ⟨fun h=>?_,fun h=>?_⟩
 ·unfold wdS
  rw [if_pos h.1.2]
  exact widthP_okW (dbV_ws h.1)
 ·unfold wdS
  by_cases hd:DbOk db
  ·rw [if_pos hd]
   unfold widthP
   by_cases hw:WsOk (wsDb db)
   ·rw [if_pos hw]
    apply Classical.byContradiction
    intro hn
    have hl:=hw.1
    unfold wsDb at hl
    rw [List.length_map] at hl
    exact h ⟨⟨hl,hd⟩,hn⟩
   ·rw [if_neg hw]
  ·rw [if_neg hd]
   unfold widthP
   rw [if_neg]
   intro hw
   have:=hw.1.1
   simp at this
set_option maxRecDepth 20000 in
set_option maxHeartbeats 4000000 in
theorem specWidthsOf_ok (db:List Tb) (A:Option Addr) (c:Nat) (w:World) (hdl:db.length ≤ 1048576) (hdt:DbT w A db) :
 Calls Tryz.prog 25 #[.slice A db.length c] w fun e w'=>∃ v,e=.returned v ∧ Below w.heap.size w w' ∧ Ow w.heap.size 3 1 intC w' v (wdS db):=by
 obtain ⟨W4,hW4⟩:∃ z,w.alloc (.cells #[] 3)=z:=⟨_,rfl⟩
 have b4:Below w.heap.size w W4:=by rw [← hW4];exact balloc (Below.refl _ _) _
 have HO4:=Lib.hid (show Ow w.heap.size 3 1 intC W4 (.slice (some ⟨w.heap.size,0,none⟩) 0 0) ([]:List Int) by rw [← hW4];exact Ow.lit (xs:=([]:List Int)) rfl rfl (Nat.le_refl _) (by decide))
 have HB4:=Lib.hid b4
 have HW4:=Lib.hid hW4
 have HD:=Lib.hid (fun (z:World) (hz:Below w.heap.size w z)=>hdt.on hz)
 obtain ⟨R,hR⟩:∃ l,wdS db=l:=⟨_,rfl⟩
 rw [hR]
 have HR:=Lib.hid hR
 clear hW4 b4 hdt hR
 go_enter Tryz.func25,Tryz.ntmps25
 go_upto_region 2 with fail
 rw [HW4.out]
 go_wp2
 go_loopg [3,4] db.length (fun g v iv wr=>∃ (i:Nat),i ≤ db.length ∧ g=db.length - i ∧ iv=.int .i64 i ∧ Ow w.heap.size 3 1 intC wr v ((wsDb db).take i) ∧ Below w.heap.size w wr ∧ ∀ j (hj:j < db.length),j < i → TabOk db[j].1 db[j].2)
 case atStart=>exact ⟨0,by omega,by omega,rfl,HO4.out,HB4.out,fun j hj h=>by omega⟩
 case round=>
  obtain ⟨i,hi,rfl,rfl,how,hb,hall⟩:=hrel
  have HO:=Lib.hid how
  have HB:=Lib.hid hb
  have HA:=Lib.hid hall
  have hsz:=hb.size
  clear how hb hall
  by_cases hil:i < db.length
  ·have hiI:(i:Int) < (db.length:Int):=by omega
   obtain ⟨bs,os,At,ct,rfl,hBs,e0,e1,hc1,hc2,hin⟩:=(HD.out _ HB.out).at_ hil
   obtain ⟨q,hq⟩:=bool_of (P:=TabOk db[i].1 db[i].2)
   have HVT:=Lib.hid (specValidTable_ok db[i].1 At ct db[i].2 wr (by omega) hin.rws q hq)
   have Hy:=Lib.hid (show (wsDb db).take (i + 1)=(wsDb db).take i ++ [db[i].1] by unfold wsDb;exact mapR_take hil)
   have HQ:=Lib.hid hq
   have HNV:=Lib.hid (fun (hf:q=false)=>show R=[] from by
    rw [← HR.out]
    unfold wdS
    rw [if_neg]
    intro hd
    have:=HQ.out.2 (hd _ (List.getElem_mem hil))
    rw [hf] at this;cases this)
   have HYV:=Lib.hid (fun (ht:q=true)=>show TabOk db[i].1 db[i].2 from HQ.out.1 ht)
   obtain ⟨W,hW⟩:∃ x,db[i].1=x:=⟨_,rfl⟩
   obtain ⟨n,hn⟩:∃ x,db[i].2.length=x:=⟨_,rfl⟩
   rw [hW] at e0 HVT Hy
   rw [hn] at e1 HVT
   have HBS:=Lib.hid (And.intro hBs e0)
   have htl:((wsDb db).take i).length ≤ 1048576:=by rw [List.length_take];omega
   have hR0:R.length ≤ 1048576:=by rw [← HR.out];exact Nat.le_trans (wdS_len db) hdl
   unfold maxLen at hc2
   clear hq hW hn hin hBs hc1
   go_wp2_with fail
   refine HVT.out.mono ?_
   rintro e w3 ⟨rfl,hb3⟩
   have HB3:=Lib.hid (bch HB.out hb3)
   have HO3:=Lib.hid (HO.out.on hb3)
   have e0':w3.cell? ⟨bs,os + i * 2,none⟩=some (.int .i64 W):=(hb3.cell (p:=⟨_,_,none⟩) HBS.out.1).trans HBS.out.2
   clear hb3 e0 e1
   cases q
   ·have hr:=HNV.out rfl
    subst hr
    go_wp2
    go_ret
    exact ⟨_,rfl,bch HB3.out (balloc (Below.refl _ _) _),Ow.lit (xs:=([]:List Int)) rfl rfl HB3.out.size (by decide)⟩
   ·have HYT:=Lib.hid (HYV.out rfl)
    obtain ⟨U,hU⟩:∃ z,w3.alloc (.cells #[.int .i64 W] 3)=z:=⟨_,rfl⟩
    have hub:Below w3.heap.size w3 U:=by rw [← hU];exact balloc (Below.refl _ _) _
    have HB5:=Lib.hid (bch HB3.out hub)
    have HO5:=Lib.hid (HO3.out.on hub)
    have HS5:=Lib.hid (show Sl 1 intC U U.heap.size (some ⟨w3.heap.size,0,none⟩) [W] by rw [← hU];exact Row.sl' (t:=3) intC_length ((Row.new w3 _ _).of rfl))
    have hsz6:w.heap.size ≤ U.heap.size:=HB5.out.size
    have HU:=Lib.hid hU
    clear hU hub
    go_wp2_with (at_builtin;rw [HU.out];refine wpList_app rfl (.tmp 19) (.tmp 25) 23 rfl w.heap.size 3 _ 1 8 intC Tryz.underlying23 zeroIntJ rfl (by decide) (by decide) intC_length intC_one _ ((wsDb db).take i) rfl HO5.out (some ⟨w3.heap.size,0,none⟩) 1 1 [W] rfl rfl HS5.out (by simp only [List.length_singleton];omega) hsz6 ?_;intro v' w' hown hgr)
    go_roundg (db.length - (i + 1))
    case measure=>omega
    case rel=>
     refine ⟨i + 1,by omega,rfl,by go_num,by rw [Hy.out];exact hown,HB5.out.grown hgr hsz6 fun k hk=>(HO5.out.ty k hk).1,fun j hj hji=>?_⟩
     by_cases h:j=i
     ·subst h;exact HYT.out
     ·exact HA.out j hj (by omega)
  ·have hiI:¬ (i:Int) < (db.length:Int):=by omega
   have HF:=Lib.hid (show R=wsDb db by
    rw [← HR.out]
    unfold wdS
    rw [if_pos]
    intro t ht
    obtain ⟨j,hj,rfl⟩:=List.getElem_of_mem ht
    exact HA.out j hj (by omega))
   have hte:(wsDb db).take i=wsDb db:=List.take_of_length_le (by unfold wsDb;rw [List.length_map];omega)
   rw [hte] at HO
   clear hte
   go_wp2
   go_ret
   exact ⟨_,rfl,HB.out,by rw [HF.out];exact HO.out⟩

def EvRS (db:List Tb) (p:Pl) (q:Bool) (w:World) (e:Ending) (w':World):Prop:=∃ (W:Int) (A:Option Addr) (c:Nat) (rows:List Row1),e=.returned (.tuple #[.agg #[.int .i64 W,.slice A rows.length c],.bool q]) ∧ InT w' A rows ∧ rows.length ≤ c ∧ c ≤ maxLen ∧ (q=true → W=(plT db 9 p).1 ∧ rows=(plT db 9 p).2) ∧ (q=false → W=0 ∧ rows=[]) ∧ Below w.heap.size w w'
theorem resEvalPlanS {b:Nat} {v0 v1:Value} {q:Bool} (tmps:Array Value) (hp:tmps.getD 4 undef=.pointer (some ⟨b,0,none⟩)) (hq:tmps.getD 5 undef=.bool q) (w:World) (c0:w.cell? ⟨b,0,none⟩=some v0) (c1:w.cell? ⟨b,1,none⟩=some v1) :
 (results Tryz.f7 tmps).run Tryz.prog w=.ok (.tuple #[.agg #[v0,v1],.bool q]) w:=by
 simp only [Array.getD_eq_getD_getElem?] at hp hq
 simp [results,Tryz.results7,go_sem,hp,hq,c0,c1]
set_option maxRecDepth 20000 in
set_option maxHeartbeats 4000000 in
theorem specEvalPlan_ok (p:Pl) (f:FP) (db:List Tb) (A:Option Addr) (c:Nat) (w:World) (h:PlIn w w.heap.size f p) (hdl:db.length ≤ 1048576) (hdt:DbT w A db) (q:Bool) (hq:q=true ↔ DbV db ∧ plW (wsDb db) 8 p ≠ 0) :
 Calls Tryz.prog 7 #[fpV f,.slice A db.length c] w (EvRS db p q w):=by
 obtain ⟨W0,hW0⟩:∃ z,(w.alloc (.cells #[.int .i64 f.kind,.int .i64 f.table,.slice f.es.A f.es.n f.es.c,.slice f.cs.A f.cs.n f.cs.c,.slice f.ks.A f.ks.n f.ks.c] 38)).alloc (.cells #[.int .i64 0,.slice none 0 0] 32)=z:=⟨_,rfl⟩
 have B0:Below w.heap.size w W0:=by rw [← hW0];exact balloc (balloc (Below.refl _ _) _) _
 have r0:Row W0 w.heap.size 38 [.int .i64 f.kind,.int .i64 f.table,.slice f.es.A f.es.n f.es.c,.slice f.cs.A f.cs.n f.cs.c,.slice f.ks.A f.ks.n f.ks.c]:=by rw [← hW0];exact (Row.new _ _ _).alloc _
 have r1:Row W0 (w.heap.size + 1) 32 [.int .i64 0,.slice none 0 0]:=by rw [← hW0];exact Row.second _ _ _ _
 obtain ⟨wd,hwd⟩:∃ x,widthP (wdS db) p=x:=⟨_,rfl⟩
 have Hwd:=Lib.hid hwd
 have hww:=wdS_width db p
 rw [hwd] at hww
 have HWW:=Lib.hid hww
 have HP:=Lib.hid (fun (z:World) (hz:Below w.heap.size w z)=>h.on hz)
 have HD:=Lib.hid (fun (z:World) (hz:Below w.heap.size w z)=>hdt.on hz)
 have HW0:=Lib.hid hW0
 have HB0:=Lib.hid B0
 have SB:=Lib.hid (fun (z:World) (hz:Below W0.heap.size W0 z)=>show z.cell? ⟨w.heap.size,0,none⟩=some (.int .i64 f.kind) ∧ z.cell? ⟨w.heap.size,1,none⟩=some (.int .i64 f.table) ∧ z.cell? ⟨w.heap.size,2,none⟩=some (.slice f.es.A f.es.n f.es.c) ∧ z.cell? ⟨w.heap.size,3,none⟩=some (.slice f.cs.A f.cs.n f.cs.c) ∧ z.cell? ⟨w.heap.size,4,none⟩=some (.slice f.ks.A f.ks.n f.ks.c) from ⟨(r0.on hz).cell 0,(r0.on hz).cell 1,(r0.on hz).cell 2,(r0.on hz).cell 3,(r0.on hz).cell 4⟩)
 have RB:=Lib.hid (fun (z:World) (hz:Below W0.heap.size W0 z)=>r1.on hz)
 obtain ⟨u0,hu0⟩:∃ z,W0.drew=z:=⟨_,rfl⟩
 have Bu0:=Lib.hid (show Below W0.heap.size W0 u0 from hu0 ▸ (Below.refl _ _).drew)
 have Hu0:=Lib.hid hu0
 unfold fpV
 clear hu0 h hdt B0 r0 r1 hW0 hwd hww
 cases q
 ·have hv:¬ (DbV db ∧ plW (wsDb db) 8 p ≠ 0):=fun h=>by have:=hq.2 h;cases this
  have hwd:wd=0:=HWW.out.2 hv
  have hw0:(wd == 0)=true:=by rw [hwd];rfl
  clear hwd hv hq
  go_enter Tryz.func7,Tryz.ntmps7
  go_upto_region 1 with fail
  rw [HW0.out]
  refine wp_region_g 4 (fun z=>z.cell? ⟨w.heap.size,0,none⟩=some (.int .i64 f.kind) ∧ z.cell? ⟨w.heap.size,1,none⟩=some (.int .i64 f.table) ∧ z.cell? ⟨w.heap.size,2,none⟩=some (.slice f.es.A f.es.n f.es.c) ∧ z.cell? ⟨w.heap.size,3,none⟩=some (.slice f.cs.A f.cs.n f.cs.c) ∧ z.cell? ⟨w.heap.size,4,none⟩=some (.slice f.ks.A f.ks.n f.ks.c)) (by kernel_rfl) ?_ (fun hHeld=>?_)
  ·exact SB.out _ (Below.refl _ _).drew
  rw [Hu0.out] at hHeld ⊢
  refine wpAnyG_ready (rs:=[0,1]) (by kernel_rfl) (by simp) ?_
  refine readyG rfl (fun K hK=>?_) (readyG rfl (fun K hK=>?_) AllReadyG.nil)
  ·skip
   go_simp
   refine hK.out _ _ ?hS29 (fun hHeld=>?_)
   case hS29=>exact fun _=>SB.out _ Bu0.out
   replace hHeld:=hHeld (by decide)
   clear hK K
   try simp only [Act.put,sTA,sC0,sCS]
   refine rdG (i:=1) (by kernel_rfl) rfl (fun K hK=>?_)
   go_simp
   refine hK.out _ _ ?hS30 (fun hHeld=>?_)
   case hS30=>exact fun _=>SB.out _ Bu0.out
   replace hHeld:=hHeld (by decide)
   clear hK K
   try simp only [Act.put,sTA,sC0,sCS]
   refine rdG (i:=2) (by kernel_rfl) rfl (fun K hK=>?_)
   go_simp
   go_at_call 25
   refine (specWidthsOf_ok db A c u0 hdl (HD.out _ (bch HB0.out Bu0.out))).mono ?_
   rintro e y1 ⟨v7,rfl,hb,how7⟩
   obtain ⟨A7,c7,rfl,hc71,hc72,hsl7⟩:=how7.shape intC_length
   have By1:=Lib.hid (bch Bu0.out hb)
   have HWI:=Lib.hid (fun (z:World) (hz:Below y1.heap.size y1 z)=>widthOf_ok p f (wdS db) A7 c7 z wd (HP.out _ (bch HB0.out (bch By1.out hz))) (Nat.le_trans (wdS_len db) (by unfold maxLen;omega)) (hsl7.sl.on hz) Hwd.out)
   unfold fpV at HWI
   clear hb how7 hsl7 hc71 hc72
   refine hK.out _ _ ?hS31 (fun hHeld=>?_)
   case hS31=>exact fun _=>SB.out _ By1.out
   replace hHeld:=hHeld (by decide)
   clear hK K
   try simp only [Act.put,sTA,sC0,sCS]
   refine rdG (i:=3) (by kernel_rfl) rfl (fun K hK=>?_)
   go_simp
   go_at_call 24
   refine (HWI.out _ (Below.refl _ _)).mono ?_
   rintro e y2 ⟨rfl,hb⟩
   have By2:=Lib.hid (bch By1.out hb)
   clear hb
   refine hK.out _ _ ?hS32 (fun hHeld=>?_)
   case hS32=>exact fun _=>SB.out _ By2.out
   replace hHeld:=hHeld (by decide)
   clear hK K
   try simp only [Act.put,sTA,sC0,sCS]
   refine rdG (i:=4) (by kernel_rfl) rfl (fun K hK=>?_)
   go_simp
   refine hK.out _ _ ?hS33 (fun hHeld=>?_)
   case hS33=>exact fun h=>absurd rfl h
   clear hK K
   try simp only [Act.put,sTA,sC0,sCS]
   refine wpAnyG_done (by kernel_rfl) ?_ _
   obtain ⟨q0,q1,q2,q3,q4⟩:=tbox (RB.out _ By2.out)
   go_wp2
   refine bodyPost_ret (resEvalPlanS (b:=w.heap.size + 1) (q:=false) _ rfl rfl _ (v0:=.int .i64 0) (v1:=.slice none 0 0) (by simp [go_sem,q3,q4,q0]) (by simp [go_sem,q3,q4,q0])) rfl ?_
   exact ⟨0,none,0,[],rfl,InT.nil,Nat.le_refl _,by decide,(fun h=>by cases h),fun _=>⟨rfl,rfl⟩,below_put (bch HB0.out By2.out) (by omega) _ _⟩
  ·skip
   go_simp
   refine hK.out _ _ ?hS34 (fun hHeld=>?_)
   case hS34=>exact fun _=>SB.out _ Bu0.out
   replace hHeld:=hHeld (by decide)
   clear hK K
   try simp only [Act.put,sTA,sC0,sCS]
   refine wpAnyG_ready (rs:=[0,2]) (by kernel_rfl) (by simp) ?_
   refine readyG rfl (fun K hK=>?_) (readyG rfl (fun K hK=>?_) AllReadyG.nil)
   ·skip
    go_simp
    refine hK.out _ _ ?hS35 (fun hHeld=>?_)
    case hS35=>exact fun _=>SB.out _ Bu0.out
    replace hHeld:=hHeld (by decide)
    clear hK K
    try simp only [Act.put,sTA,sC0,sCS]
    refine rdG (i:=2) (by kernel_rfl) rfl (fun K hK=>?_)
    go_simp
    go_at_call 25
    refine (specWidthsOf_ok db A c u0 hdl (HD.out _ (bch HB0.out Bu0.out))).mono ?_
    rintro e y1 ⟨v7,rfl,hb,how7⟩
    obtain ⟨A7,c7,rfl,hc71,hc72,hsl7⟩:=how7.shape intC_length
    have By1:=Lib.hid (bch Bu0.out hb)
    have HWI:=Lib.hid (fun (z:World) (hz:Below y1.heap.size y1 z)=>widthOf_ok p f (wdS db) A7 c7 z wd (HP.out _ (bch HB0.out (bch By1.out hz))) (Nat.le_trans (wdS_len db) (by unfold maxLen;omega)) (hsl7.sl.on hz) Hwd.out)
    unfold fpV at HWI
    clear hb how7 hsl7 hc71 hc72
    refine hK.out _ _ ?hS36 (fun hHeld=>?_)
    case hS36=>exact fun _=>SB.out _ By1.out
    replace hHeld:=hHeld (by decide)
    clear hK K
    try simp only [Act.put,sTA,sC0,sCS]
    refine rdG (i:=3) (by kernel_rfl) rfl (fun K hK=>?_)
    go_simp
    go_at_call 24
    refine (HWI.out _ (Below.refl _ _)).mono ?_
    rintro e y2 ⟨rfl,hb⟩
    have By2:=Lib.hid (bch By1.out hb)
    clear hb
    refine hK.out _ _ ?hS37 (fun hHeld=>?_)
    case hS37=>exact fun _=>SB.out _ By2.out
    replace hHeld:=hHeld (by decide)
    clear hK K
    try simp only [Act.put,sTA,sC0,sCS]
    refine rdG (i:=4) (by kernel_rfl) rfl (fun K hK=>?_)
    go_simp
    refine hK.out _ _ ?hS38 (fun hHeld=>?_)
    case hS38=>exact fun h=>absurd rfl h
    clear hK K
    try simp only [Act.put,sTA,sC0,sCS]
    refine wpAnyG_done (by kernel_rfl) ?_ _
    obtain ⟨q0,q1,q2,q3,q4⟩:=tbox (RB.out _ By2.out)
    go_wp2
    refine bodyPost_ret (resEvalPlanS (b:=w.heap.size + 1) (q:=false) _ rfl rfl _ (v0:=.int .i64 0) (v1:=.slice none 0 0) (by simp [go_sem,q3,q4,q0]) (by simp [go_sem,q3,q4,q0])) rfl ?_
    exact ⟨0,none,0,[],rfl,InT.nil,Nat.le_refl _,by decide,(fun h=>by cases h),fun _=>⟨rfl,rfl⟩,below_put (bch HB0.out By2.out) (by omega) _ _⟩
   ·skip
    go_simp
    go_at_call 25
    refine (specWidthsOf_ok db A c u0 hdl (HD.out _ (bch HB0.out Bu0.out))).mono ?_
    rintro e y1 ⟨v7,rfl,hb,how7⟩
    obtain ⟨A7,c7,rfl,hc71,hc72,hsl7⟩:=how7.shape intC_length
    have By1:=Lib.hid (bch Bu0.out hb)
    have HWI:=Lib.hid (fun (z:World) (hz:Below y1.heap.size y1 z)=>widthOf_ok p f (wdS db) A7 c7 z wd (HP.out _ (bch HB0.out (bch By1.out hz))) (Nat.le_trans (wdS_len db) (by unfold maxLen;omega)) (hsl7.sl.on hz) Hwd.out)
    unfold fpV at HWI
    clear hb how7 hsl7 hc71 hc72
    refine hK.out _ _ ?hS39 (fun hHeld=>?_)
    case hS39=>exact fun _=>SB.out _ By1.out
    replace hHeld:=hHeld (by decide)
    clear hK K
    try simp only [Act.put,sTA,sC0,sCS]
    refine rdG (i:=0) (by kernel_rfl) rfl (fun K hK=>?_)
    go_simp
    refine hK.out _ _ ?hS40 (fun hHeld=>?_)
    case hS40=>exact fun _=>SB.out _ By1.out
    replace hHeld:=hHeld (by decide)
    clear hK K
    try simp only [Act.put,sTA,sC0,sCS]
    refine rdG (i:=3) (by kernel_rfl) rfl (fun K hK=>?_)
    go_simp
    go_at_call 24
    refine (HWI.out _ (Below.refl _ _)).mono ?_
    rintro e y2 ⟨rfl,hb⟩
    have By2:=Lib.hid (bch By1.out hb)
    clear hb
    refine hK.out _ _ ?hS41 (fun hHeld=>?_)
    case hS41=>exact fun _=>SB.out _ By2.out
    replace hHeld:=hHeld (by decide)
    clear hK K
    try simp only [Act.put,sTA,sC0,sCS]
    refine rdG (i:=4) (by kernel_rfl) rfl (fun K hK=>?_)
    go_simp
    refine hK.out _ _ ?hS42 (fun hHeld=>?_)
    case hS42=>exact fun h=>absurd rfl h
    clear hK K
    try simp only [Act.put,sTA,sC0,sCS]
    refine wpAnyG_done (by kernel_rfl) ?_ _
    obtain ⟨q0,q1,q2,q3,q4⟩:=tbox (RB.out _ By2.out)
    go_wp2
    refine bodyPost_ret (resEvalPlanS (b:=w.heap.size + 1) (q:=false) _ rfl rfl _ (v0:=.int .i64 0) (v1:=.slice none 0 0) (by simp [go_sem,q3,q4,q0]) (by simp [go_sem,q3,q4,q0])) rfl ?_
    exact ⟨0,none,0,[],rfl,InT.nil,Nat.le_refl _,by decide,(fun h=>by cases h),fun _=>⟨rfl,rfl⟩,below_put (bch HB0.out By2.out) (by omega) _ _⟩
 ·have hv:=hq.1 rfl
  have hwd:wd=plW (wsDb db) 8 p:=HWW.out.1 hv
  have hw0:(wd == 0)=false:=by rw [hwd];simpa using hv.2
  have HPC:=Lib.hid (fun (z:World) (hz:Below w.heap.size w z)=>specEvalPlan_ok' db p f A c 8 z (HP.out _ hz) hv.2 (HD.out _ hz) hv.1.2 (by unfold maxLen;omega))
  unfold fpV at HPC
  clear hwd hv hq
  go_enter Tryz.func7,Tryz.ntmps7
  go_upto_region 1 with fail
  rw [HW0.out]
  refine wp_region_g 4 (fun z=>z.cell? ⟨w.heap.size,0,none⟩=some (.int .i64 f.kind) ∧ z.cell? ⟨w.heap.size,1,none⟩=some (.int .i64 f.table) ∧ z.cell? ⟨w.heap.size,2,none⟩=some (.slice f.es.A f.es.n f.es.c) ∧ z.cell? ⟨w.heap.size,3,none⟩=some (.slice f.cs.A f.cs.n f.cs.c) ∧ z.cell? ⟨w.heap.size,4,none⟩=some (.slice f.ks.A f.ks.n f.ks.c)) (by kernel_rfl) ?_ (fun hHeld=>?_)
  ·exact SB.out _ (Below.refl _ _).drew
  rw [Hu0.out] at hHeld ⊢
  refine wpAnyG_ready (rs:=[0,1]) (by kernel_rfl) (by simp) ?_
  refine readyG rfl (fun K hK=>?_) (readyG rfl (fun K hK=>?_) AllReadyG.nil)
  ·skip
   go_simp
   refine hK.out _ _ ?hS43 (fun hHeld=>?_)
   case hS43=>exact fun _=>SB.out _ Bu0.out
   replace hHeld:=hHeld (by decide)
   clear hK K
   try simp only [Act.put,sTA,sC0,sCS]
   refine rdG (i:=1) (by kernel_rfl) rfl (fun K hK=>?_)
   go_simp
   refine hK.out _ _ ?hS44 (fun hHeld=>?_)
   case hS44=>exact fun _=>SB.out _ Bu0.out
   replace hHeld:=hHeld (by decide)
   clear hK K
   try simp only [Act.put,sTA,sC0,sCS]
   refine rdG (i:=2) (by kernel_rfl) rfl (fun K hK=>?_)
   go_simp
   go_at_call 25
   refine (specWidthsOf_ok db A c u0 hdl (HD.out _ (bch HB0.out Bu0.out))).mono ?_
   rintro e y1 ⟨v7,rfl,hb,how7⟩
   obtain ⟨A7,c7,rfl,hc71,hc72,hsl7⟩:=how7.shape intC_length
   have By1:=Lib.hid (bch Bu0.out hb)
   have HWI:=Lib.hid (fun (z:World) (hz:Below y1.heap.size y1 z)=>widthOf_ok p f (wdS db) A7 c7 z wd (HP.out _ (bch HB0.out (bch By1.out hz))) (Nat.le_trans (wdS_len db) (by unfold maxLen;omega)) (hsl7.sl.on hz) Hwd.out)
   unfold fpV at HWI
   clear hb how7 hsl7 hc71 hc72
   refine hK.out _ _ ?hS45 (fun hHeld=>?_)
   case hS45=>exact fun _=>SB.out _ By1.out
   replace hHeld:=hHeld (by decide)
   clear hK K
   try simp only [Act.put,sTA,sC0,sCS]
   refine rdG (i:=3) (by kernel_rfl) rfl (fun K hK=>?_)
   go_simp
   go_at_call 24
   refine (HWI.out _ (Below.refl _ _)).mono ?_
   rintro e y2 ⟨rfl,hb⟩
   have By2:=Lib.hid (bch By1.out hb)
   clear hb
   refine hK.out _ _ ?hS46 (fun hHeld=>?_)
   case hS46=>exact fun _=>SB.out _ By2.out
   replace hHeld:=hHeld (by decide)
   clear hK K
   try simp only [Act.put,sTA,sC0,sCS]
   refine rdG (i:=4) (by kernel_rfl) rfl (fun K hK=>?_)
   go_simp
   refine hK.out _ _ ?hS47 (fun hHeld=>?_)
   case hS47=>exact fun h=>absurd rfl h
   clear hK K
   try simp only [Act.put,sTA,sC0,sCS]
   refine wpAnyG_done (by kernel_rfl) ?_ _
   obtain ⟨c0,c1,c2,c3,c4⟩:=SB.out _ By2.out
   go_wp2_with fail
   refine (HPC.out _ (bch HB0.out By2.out)).mono ?_
   rintro e y3 ⟨A6,c6,rfl,h61,h62,h63,hb⟩
   have HR6:=Lib.hid (And.intro h61 (And.intro h62 (And.intro h63 (bch By2.out hb))))
   have HRQ:=Lib.hid (RB.out _ HR6.out.2.2.2)
   obtain ⟨q0,q1,q2,q3,q4⟩:=tbox HRQ.out
   clear h61 h62 h63 hb c0 c1 c2 c3 c4
   go_wp2
   refine bodyPost_ret (resEvalPlanS (b:=w.heap.size + 1) (q:=true) _ rfl rfl _ (v0:=.int .i64 (plT db 9 p).1) (v1:=.slice A6 (plT db 9 p).2.length c6) (by simp [go_sem,q3,q4,q0]) (by simp [go_sem,q3,q4,q0])) rfl ?_
   exact ⟨_,A6,c6,_,rfl,HR6.out.2.2.1.put2 HRQ.out _ _,HR6.out.1,HR6.out.2.1,fun _=>⟨rfl,rfl⟩,(fun h=>by cases h),below_put (bch HB0.out HR6.out.2.2.2) (by omega) _ _⟩
  ·skip
   go_simp
   refine hK.out _ _ ?hS48 (fun hHeld=>?_)
   case hS48=>exact fun _=>SB.out _ Bu0.out
   replace hHeld:=hHeld (by decide)
   clear hK K
   try simp only [Act.put,sTA,sC0,sCS]
   refine wpAnyG_ready (rs:=[0,2]) (by kernel_rfl) (by simp) ?_
   refine readyG rfl (fun K hK=>?_) (readyG rfl (fun K hK=>?_) AllReadyG.nil)
   ·skip
    go_simp
    refine hK.out _ _ ?hS49 (fun hHeld=>?_)
    case hS49=>exact fun _=>SB.out _ Bu0.out
    replace hHeld:=hHeld (by decide)
    clear hK K
    try simp only [Act.put,sTA,sC0,sCS]
    refine rdG (i:=2) (by kernel_rfl) rfl (fun K hK=>?_)
    go_simp
    go_at_call 25
    refine (specWidthsOf_ok db A c u0 hdl (HD.out _ (bch HB0.out Bu0.out))).mono ?_
    rintro e y1 ⟨v7,rfl,hb,how7⟩
    obtain ⟨A7,c7,rfl,hc71,hc72,hsl7⟩:=how7.shape intC_length
    have By1:=Lib.hid (bch Bu0.out hb)
    have HWI:=Lib.hid (fun (z:World) (hz:Below y1.heap.size y1 z)=>widthOf_ok p f (wdS db) A7 c7 z wd (HP.out _ (bch HB0.out (bch By1.out hz))) (Nat.le_trans (wdS_len db) (by unfold maxLen;omega)) (hsl7.sl.on hz) Hwd.out)
    unfold fpV at HWI
    clear hb how7 hsl7 hc71 hc72
    refine hK.out _ _ ?hS50 (fun hHeld=>?_)
    case hS50=>exact fun _=>SB.out _ By1.out
    replace hHeld:=hHeld (by decide)
    clear hK K
    try simp only [Act.put,sTA,sC0,sCS]
    refine rdG (i:=3) (by kernel_rfl) rfl (fun K hK=>?_)
    go_simp
    go_at_call 24
    refine (HWI.out _ (Below.refl _ _)).mono ?_
    rintro e y2 ⟨rfl,hb⟩
    have By2:=Lib.hid (bch By1.out hb)
    clear hb
    refine hK.out _ _ ?hS51 (fun hHeld=>?_)
    case hS51=>exact fun _=>SB.out _ By2.out
    replace hHeld:=hHeld (by decide)
    clear hK K
    try simp only [Act.put,sTA,sC0,sCS]
    refine rdG (i:=4) (by kernel_rfl) rfl (fun K hK=>?_)
    go_simp
    refine hK.out _ _ ?hS52 (fun hHeld=>?_)
    case hS52=>exact fun h=>absurd rfl h
    clear hK K
    try simp only [Act.put,sTA,sC0,sCS]
    refine wpAnyG_done (by kernel_rfl) ?_ _
    obtain ⟨c0,c1,c2,c3,c4⟩:=SB.out _ By2.out
    go_wp2_with fail
    refine (HPC.out _ (bch HB0.out By2.out)).mono ?_
    rintro e y3 ⟨A6,c6,rfl,h61,h62,h63,hb⟩
    have HR6:=Lib.hid (And.intro h61 (And.intro h62 (And.intro h63 (bch By2.out hb))))
    have HRQ:=Lib.hid (RB.out _ HR6.out.2.2.2)
    obtain ⟨q0,q1,q2,q3,q4⟩:=tbox HRQ.out
    clear h61 h62 h63 hb c0 c1 c2 c3 c4
    go_wp2
    refine bodyPost_ret (resEvalPlanS (b:=w.heap.size + 1) (q:=true) _ rfl rfl _ (v0:=.int .i64 (plT db 9 p).1) (v1:=.slice A6 (plT db 9 p).2.length c6) (by simp [go_sem,q3,q4,q0]) (by simp [go_sem,q3,q4,q0])) rfl ?_
    exact ⟨_,A6,c6,_,rfl,HR6.out.2.2.1.put2 HRQ.out _ _,HR6.out.1,HR6.out.2.1,fun _=>⟨rfl,rfl⟩,(fun h=>by cases h),below_put (bch HB0.out HR6.out.2.2.2) (by omega) _ _⟩
   ·skip
    go_simp
    go_at_call 25
    refine (specWidthsOf_ok db A c u0 hdl (HD.out _ (bch HB0.out Bu0.out))).mono ?_
    rintro e y1 ⟨v7,rfl,hb,how7⟩
    obtain ⟨A7,c7,rfl,hc71,hc72,hsl7⟩:=how7.shape intC_length
    have By1:=Lib.hid (bch Bu0.out hb)
    have HWI:=Lib.hid (fun (z:World) (hz:Below y1.heap.size y1 z)=>widthOf_ok p f (wdS db) A7 c7 z wd (HP.out _ (bch HB0.out (bch By1.out hz))) (Nat.le_trans (wdS_len db) (by unfold maxLen;omega)) (hsl7.sl.on hz) Hwd.out)
    unfold fpV at HWI
    clear hb how7 hsl7 hc71 hc72
    refine hK.out _ _ ?hS53 (fun hHeld=>?_)
    case hS53=>exact fun _=>SB.out _ By1.out
    replace hHeld:=hHeld (by decide)
    clear hK K
    try simp only [Act.put,sTA,sC0,sCS]
    refine rdG (i:=0) (by kernel_rfl) rfl (fun K hK=>?_)
    go_simp
    refine hK.out _ _ ?hS54 (fun hHeld=>?_)
    case hS54=>exact fun _=>SB.out _ By1.out
    replace hHeld:=hHeld (by decide)
    clear hK K
    try simp only [Act.put,sTA,sC0,sCS]
    refine rdG (i:=3) (by kernel_rfl) rfl (fun K hK=>?_)
    go_simp
    go_at_call 24
    refine (HWI.out _ (Below.refl _ _)).mono ?_
    rintro e y2 ⟨rfl,hb⟩
    have By2:=Lib.hid (bch By1.out hb)
    clear hb
    refine hK.out _ _ ?hS55 (fun hHeld=>?_)
    case hS55=>exact fun _=>SB.out _ By2.out
    replace hHeld:=hHeld (by decide)
    clear hK K
    try simp only [Act.put,sTA,sC0,sCS]
    refine rdG (i:=4) (by kernel_rfl) rfl (fun K hK=>?_)
    go_simp
    refine hK.out _ _ ?hS56 (fun hHeld=>?_)
    case hS56=>exact fun h=>absurd rfl h
    clear hK K
    try simp only [Act.put,sTA,sC0,sCS]
    refine wpAnyG_done (by kernel_rfl) ?_ _
    obtain ⟨c0,c1,c2,c3,c4⟩:=SB.out _ By2.out
    go_wp2_with fail
    refine (HPC.out _ (bch HB0.out By2.out)).mono ?_
    rintro e y3 ⟨A6,c6,rfl,h61,h62,h63,hb⟩
    have HR6:=Lib.hid (And.intro h61 (And.intro h62 (And.intro h63 (bch By2.out hb))))
    have HRQ:=Lib.hid (RB.out _ HR6.out.2.2.2)
    obtain ⟨q0,q1,q2,q3,q4⟩:=tbox HRQ.out
    clear h61 h62 h63 hb c0 c1 c2 c3 c4
    go_wp2
    refine bodyPost_ret (resEvalPlanS (b:=w.heap.size + 1) (q:=true) _ rfl rfl _ (v0:=.int .i64 (plT db 9 p).1) (v1:=.slice A6 (plT db 9 p).2.length c6) (by simp [go_sem,q3,q4,q0]) (by simp [go_sem,q3,q4,q0])) rfl ?_
    exact ⟨_,A6,c6,_,rfl,HR6.out.2.2.1.put2 HRQ.out _ _,HR6.out.1,HR6.out.2.1,fun _=>⟨rfl,rfl⟩,(fun h=>by cases h),below_put (bch HB0.out HR6.out.2.2.2) (by omega) _ _⟩
end Go.Proofs.YtcbfbgngkdiijaaGreat
