/-
  FnExactEvalPlan returns true for all arguments and leaves them as they were. No condition. (Printed by wip/evp.py.)
-/
import Derived.Test.YtcbfbgngkdiijaaGreatRows
import Derived.OpenShut
import Derived.Test.YtcbfbgngkdiijaaGreatZvTpc
import Derived.Test.YtcbfbgngkdiijaaGreatZvTmk
import Derived.Test.YtcbfbgngkdiijaaGreatZvGc
import Derived.Test.YtcbfbgngkdiijaaGreatZvCwY
import Derived.Test.YtcbfbgngkdiijaaGreatZvEqY
import Derived.Test.YtcbfbgngkdiijaaGreatZvGc
import Derived.Test.YtcbfbgngkdiijaaGreatZvMkg
namespace Go.Proofs.YtcbfbgngkdiijaaGreat
open Go.RowKit Go.Qo
open Go.ChangeShapes Go.WideShapes Go.ChangeAt
set_option linter.unusedVariables false
set_option linter.unusedSimpArgs false

theorem DbC.keep {w w':World} {b hi:Nat} {db:List Tb} (h:DbC w b hi db) (hk:∀ c,b ≤ c → c < w.heap.size → w'.heap[c]? = w.heap[c]?):DbC w' b hi db:=by
 obtain ⟨fs,cut,h1,h2,h3,h4,h5,h6⟩:=h
 have hm:∀ j,j ≤ db.length → cut 0 ≤ cut j:=by
  intro j
  induction j with
  | zero=>exact fun _=>Nat.le_refl _
  | succ j ih=>exact fun hj=>Nat.le_trans (ih (by omega)) (h5 j (by omega))
 refine ⟨fs,cut,h1,h2.keep (hk b (Nat.le_refl _) h2.lt),h3,h4,h5,fun j f t hf ht=>(h6 j f t hf ht).keep fun c hc1 hc2=>hk c ?_ hc2⟩
 have:=hm j (by have:=(List.getElem?_eq_some_iff.1 ht).1;omega)
 omega
structure EvVal (db:List Tb) (x:Pl) (q:Bool) (WW:Int) (RR:List Row1):Prop where
 iff:q=true ↔ DbV db ∧ plW (wsDb db) 8 x ≠ 0
 yes:q=true → WW=(plT db 9 x).1 ∧ RR=(plT db 9 x).2
 no:q=false → WW=0 ∧ RR=[]
theorem evVal (db:List Tb) (x:Pl):∃ q WW RR,EvVal db x q WW RR:=by
 by_cases h:DbV db ∧ plW (wsDb db) 8 x ≠ 0
 ·exact ⟨true,_,_,⟨fun _=>h,fun _=>rfl⟩,fun _=>⟨rfl,rfl⟩,fun h=>by cases h⟩
 ·exact ⟨false,_,_,⟨fun h=>(by cases h),fun hh=>absurd hh h⟩,(fun h=>by cases h),fun _=>⟨rfl,rfl⟩⟩
theorem EvVal.bd {db:List Tb} {x:Pl} {q:Bool} {WW:Int} {RR:List Row1} (h:EvVal db x q WW RR):RR.length ≤ 400 ∧ ∀ r ∈ RR,r.length ≤ 16:=by
 cases q
 ·rw [(h.no rfl).2];exact ⟨by simp,fun r hr=>by simp at hr⟩
 ·obtain ⟨hd,hv⟩:=h.iff.1 rfl
  rw [(h.yes rfl).2]
  have ht:=(plT_ok hd.2 8 x hv).2.tab
  obtain ⟨_,t2,t3,t4,_⟩:=ht
  exact ⟨t3,fun r hr=>by have:=(t4 r hr).2;omega⟩
theorem specEv {db:List Tb} {x:Pl} {q:Bool} {WW:Int} {RR:List Row1} (h:EvVal db x q WW RR) {w w':World} {e:Ending} (k:EvRS db x q w e w'):∃ (A:Option Addr) (c:Nat),e=.returned (.tuple #[.agg #[.int .i64 WW,.slice A RR.length c],.bool q]) ∧ InT w' A RR ∧ RR.length ≤ c ∧ c ≤ maxLen ∧ Below w.heap.size w w':=by
 obtain ⟨W,A,c,rows,rfl,h1,h2,h3,h4,h5,h6⟩:=k
 have e1:W=WW ∧ rows=RR:=by
  cases q
  ·rw [(h5 rfl).1,(h5 rfl).2,(h.no rfl).1,(h.no rfl).2];exact ⟨rfl,rfl⟩
  ·rw [(h4 rfl).1,(h4 rfl).2,(h.yes rfl).1,(h.yes rfl).2];exact ⟨rfl,rfl⟩
 obtain ⟨rfl,rfl⟩:=e1
 exact ⟨A,c,rfl,h1,h2,h3,h6⟩
theorem implEv {db:List Tb} {x:Pl} {q:Bool} {WW:Int} {RR:List Row1} (h:EvVal db x q WW RR) {w w':World} {e:Ending} (k:EpRes db x q w e w'):∃ (A:Option Addr) (c:Nat) (cp:List SRw),e=.returned (.tuple #[.agg #[.int .i64 WW,.slice A RR.length c],.bool q]) ∧ cp.length=RR.length ∧ cp.map (·.2)=RR ∧ Ow w.heap.size 100 1 svC w' (.slice A cp.length c) (cp.map (·.1)) ∧ Cps w.heap.size w' cp ∧ Below w.heap.size w w':=by
 obtain ⟨W,v,rows,rfl,⟨cp,h1,h2,h3⟩,h4,h5,h6⟩:=k
 have e1:W=WW ∧ rows=RR:=by
  cases q
  ·rw [(h5 rfl).1,(h5 rfl).2,(h.no rfl).1,(h.no rfl).2];exact ⟨rfl,rfl⟩
  ·rw [(h4 rfl).1,(h4 rfl).2,(h.yes rfl).1,(h.yes rfl).2];exact ⟨rfl,rfl⟩
 obtain ⟨rfl,rfl⟩:=e1
 obtain ⟨A,c,rfl,_⟩:=h1.shape svC_length
 rw [List.length_map] at h1 ⊢
 subst h3
 exact ⟨A,c,cp,by rw [List.length_map],by rw [List.length_map],rfl,h1,h2,h6⟩

set_option maxRecDepth 20000 in
set_option maxHeartbeats 8000000 in
theorem FnExactEvalPlan_walk (f:FP) (x:Pl) (A:Option Addr) (c:Nat) (db:List Tb) (w:World) (h:PlIn w w.heap.size f x) (hdl:db.length ≤ maxLen) (hdb:DbIn w w.heap.size A db) :
 Calls Tryz.prog 3 #[fpV f,.slice A db.length c] w fun e w'=>e=.returned (.bool true) ∧ Below w.heap.size w w':=by
 obtain ⟨W1,hW1⟩:∃ z,w.alloc (.cells #[.int .i64 f.kind,.int .i64 f.table,.slice f.es.A f.es.n f.es.c,.slice f.cs.A f.cs.n f.cs.c,.slice f.ks.A f.ks.n f.ks.c] 26)=z:=⟨_,rfl⟩
 have B1:Below w.heap.size w W1:=by rw [← hW1];exact balloc (Below.refl _ _) _
 have r1:Row W1 w.heap.size 26 [.int .i64 f.kind,.int .i64 f.table,.slice f.es.A f.es.n f.es.c,.slice f.cs.A f.cs.n f.cs.c,.slice f.ks.A f.ks.n f.ks.c]:=by rw [← hW1];exact Row.new _ _ _
 have HH:=Lib.hid (h.on B1)
 have HDb:=Lib.hid (dbIn_on hdb B1)
 have HB1:=Lib.hid B1
 have HW1:=Lib.hid hW1
 have Hr:=Lib.hid r1
 have BX:=Lib.hid (fun (z:World) (hz:Below W1.heap.size W1 z)=>show z.cell? ⟨w.heap.size,0,none⟩=some (.int .i64 f.kind) ∧ z.cell? ⟨w.heap.size,1,none⟩=some (.int .i64 f.table) ∧ z.cell? ⟨w.heap.size,2,none⟩=some (.slice f.es.A f.es.n f.es.c) ∧ z.cell? ⟨w.heap.size,3,none⟩=some (.slice f.cs.A f.cs.n f.cs.c) ∧ z.cell? ⟨w.heap.size,4,none⟩=some (.slice f.ks.A f.ks.n f.ks.c) from ⟨(r1.on hz).cell 0,(r1.on hz).cell 1,(r1.on hz).cell 2,(r1.on hz).cell 3,(r1.on hz).cell 4⟩)
 have x0:=BX.out _ (Below.refl _ _)
 have HZ:=Lib.hid (szPlan_ok x f 1048576 W1 HH.out (by omega) (by omega))
 unfold fpV at HZ ⊢
 clear h B1 r1 hW1 hdb
 by_cases hs:(plCnt x:Int) ≤ 1048576
 case neg=>
  rw [szR_no hs] at HZ
  clear hs
  go_enter Tryz.func3,Tryz.ntmps3
  go_upto_region 1 with fail
  rw [HW1.out]
  go_wp2_with fail
  refine HZ.out.mono ?_
  rintro e w2 ⟨rfl,hb2⟩
  go_wp2
  go_ret
  exact ⟨rfl,bch HB1.out hb2⟩
 rw [szR_yes hs] at HZ
 have hnn:¬ (1048576 - (plCnt x:Int)) < 0:=by omega
 have HD:=Lib.hid (plB_of_cnt x (by omega))
 have HPM:=Lib.hid (show ptMk x ≤ 4194304 by have:=ptMk_cnt x;omega)
 obtain ⟨qz,hq⟩:∃ q:Int,1048576 - (plCnt x:Int)=q:=⟨_,rfl⟩
 have hq2:qz ≤ 1048576:=by omega
 rw [hq] at HZ hnn
 have HZT:=Lib.hid (fun (z:World) (hz:DbIn z z.heap.size A db)=>szTableS2_ok db A c qz z hdl hz (by omega) hq2)
 obtain ⟨q,WW,RR,hEV⟩:=evVal db x
 have HEV:=Lib.hid hEV
 have CX:=Lib.hid (fun (z:World) hz=>toPlanW_ok x f z HD.out hz)
 have CW:=Lib.hid (fun (z:World) hz=>toPlanW_ok x f z HD.out hz)
 have CT:=Lib.hid (fun (z:World) (hB:DbB db) (hz:DbIn z z.heap.size A db)=>toTableS_ok db A c z hB hz)
 have SX:=Lib.hid (fun (z:World) (f':FP) (A':Option Addr) (hB:DbB db) hz hs=>(specEvalPlan_ok x f' db A' db.length z hz hB.1 hs q HEV.out.iff).mono fun e w' k=>specEv HEV.out k)
 have IX:=Lib.hid (fun (z:World) (f':FP) (A':Option Addr) hz hs=>(implEvalPlan_ok x f' db A' db.length z hz hdl hs q HEV.out.iff).mono fun e w' k=>implEv HEV.out k)
 have EI:=Lib.hid (fun (z:World) (A' A'':Option Addr) h1 h2=>eqTableS_ok db A' A'' db.length db.length z hdl h1 h2)
 unfold fpV at CX CW SX IX
 clear hs hq hq2 hEV
 unfold maxLen at hdl
 go_enter Tryz.func3,Tryz.ntmps3
 go_upto_region 1 with fail
 rw [HW1.out]
 go_wp2_with fail
 refine HZ.out.mono ?_
 rintro e w1 ⟨rfl,hb1⟩
 have HB1':=Lib.hid hb1
 clear hb1 x0
 go_wp2_with fail
 refine (HZT.out _ (dbIn_on HDb.out HB1'.out)).mono ?_
 rintro e w2 ⟨r,rfl,hr1,hr2,hr3,hb2⟩
 have HB2:=Lib.hid (bch HB1'.out hb2)
 have HR3:=Lib.hid hr3
 clear hb2 hr3
 by_cases hrn:r < 0
 ·go_wp2
  go_ret
  exact ⟨rfl,bch HB1.out HB2.out⟩
 have HBd:=Lib.hid (HR3.out (by omega))
 have x2:=BX.out _ HB2.out
 go_wp2_with fail
 refine (CX.out w2 (HH.out.on HB2.out)).mono ?_
 rintro e w3 ⟨f3,rfl,hx3,hb3⟩
 have HX3:=Lib.hid hx3.in_
 have HB3:=Lib.hid (bch HB2.out hb3)
 clear hx3 hb3 x2
 go_wp2_with fail
 refine (CT.out w3 HBd.out.1 (dbIn_on HDb.out HB3.out)).mono ?_
 rintro e w3a ⟨rfl,hd3a,hb3a⟩
 have HX3a:=Lib.hid (HX3.out.on hb3a)
 have HS3a:=Lib.hid (hd3a.db HBd.out.1)
 have HB3a:=Lib.hid (bch HB3.out hb3a)
 clear hb3a hd3a
 go_wp2_with fail
 refine (SX.out w3a f3 _ HBd.out.1 HX3a.out HS3a.out).mono ?_
 rintro e w4 ⟨A0,c0,rfl,hin4,_,_,hb4⟩
 obtain ⟨p,hp⟩:∃ p,w4.heap.size=p:=⟨_,rfl⟩
 obtain ⟨C,hC⟩:∃ z,w4.alloc (.cells #[.int .i64 WW,.slice A0 RR.length c0] 32)=z:=⟨_,rfl⟩
 have hCb:Below w4.heap.size w4 C:=by rw [← hC];exact balloc (Below.refl _ _) _
 have hrc:Row C p 32 [.int .i64 WW,.slice A0 RR.length c0]:=by rw [← hC,← hp];exact Row.new _ _ _
 have hin:=hin4.on hCb
 have hBc:=bch (bch HB3a.out hb4) hCb
 have HCE:=Lib.hid hC
 clear hb4 hin4 hCb hC
 go_upto_region 9 with fail
 rw [HCE.out]
 try rw [hp]
 have BD:=Lib.hid (And.intro hBc (And.intro hrc hin))
 have BY:=Lib.hid (fun (z:World) (hz:Below C.heap.size C z)=>BX.out z (bch BD.out.1 hz))
 have BW:=Lib.hid (fun (z:World) (hz:Below C.heap.size C z)=>show (z.cell? ⟨p,0,none⟩=some (.int .i64 WW) ∧ z.cell? ⟨p,1,none⟩=some (.slice A0 RR.length c0)) from ⟨(BD.out.2.1.on hz).cell 0,(BD.out.2.1.on hz).cell 1⟩)
 have BR:=Lib.hid (fun (z:World) (hz:Below C.heap.size C z)=>show Rws z z.heap.size A0 RR from (BD.out.2.2.on hz).rws)
 have PH:=Lib.hid (fun (z:World) (hz:Below C.heap.size C z)=>HH.out.on (bch BD.out.1 hz))
 have DH:=Lib.hid (fun (z:World) (hz:Below C.heap.size C z)=>dbIn_on HDb.out (bch BD.out.1 hz))
 have HBC:=Lib.hid (bch HB1.out BD.out.1)
 clear hBc hrc hin HZ HZT HR3
 have z0:=BY.out _ (Below.refl _ _)
 go_wp2_with fail
 refine (CW.out C (PH.out C (Below.refl _ _))).mono ?_
 rintro e w5 ⟨f5,rfl,hx5,hb5⟩
 obtain ⟨W6,hW6⟩:∃ z,w5.alloc (.cells #[.int .i64 f5.kind,.int .i64 f5.table,.slice f5.es.A f5.es.n f5.es.c,.slice f5.cs.A f5.cs.n f5.cs.c,.slice f5.ks.A f5.ks.n f5.ks.c] 38)=z:=⟨_,rfl⟩
 have B6:Below w5.heap.size w5 W6:=by rw [← hW6];exact balloc (Below.refl _ _) _
 have s6:W6.heap.size=w5.heap.size + 1:=by rw [← hW6];simp
 have r6:Row W6 w5.heap.size 38 [.int .i64 f5.kind,.int .i64 f5.table,.slice f5.es.A f5.es.n f5.es.c,.slice f5.cs.A f5.cs.n f5.cs.c,.slice f5.ks.A f5.ks.n f5.ks.c]:=by rw [← hW6];exact Row.new _ _ _
 have HX6:=Lib.hid (PlW.carry (w':=W6) x _ (fun k=>C.heap.size ≤ k ∧ k < w5.heap.size) f5 (fun b hl hb=>⟨hb,hl⟩) (fun b _ hl=>B6.block b hl) hx5)
 have HB6:=Lib.hid (bch hb5 B6)
 have HS6:=Lib.hid (And.intro hb5.size s6)
 have HW6:=Lib.hid hW6
 have Hr6:=Lib.hid r6
 clear hx5 hb5 hW6 B6 r6 s6 z0
 go_upto_region 10 with fail
 rw [HW6.out]
 go_wp2_with fail
 refine (CT.out W6 HBd.out.1 (DH.out _ HB6.out)).mono ?_
 rintro e w7 ⟨rfl,hd7,hb7⟩
 have HD7:=Lib.hid hd7
 have HX7:=Lib.hid (HX6.out.keep hb7.size fun b hb hl=>hb7.block b hl)
 have H7:=Lib.hid (bch HB6.out hb7)
 have Hr7:=Lib.hid (Hr6.out.on hb7)
 have HS7:=Lib.hid hb7.size
 clear hd7 hb7
 have k0:=Hr7.out.cell 0
 have k1:=Hr7.out.cell 1
 have k2:=Hr7.out.cell 2
 have k3:=Hr7.out.cell 3
 have k4:=Hr7.out.cell 4
 go_wp2_with fail
 refine (IX.out w7 f5 _ HX7.out.in_ ((HD7.out.db HBd.out.1).in_)).mono ?_
 rintro e w8 ⟨A8,c8,cp,rfl,hlen,hout,how8,hcc8,hb8⟩
 clear k0 k1 k2 k3 k4
 have BO:=Lib.hid (And.intro hout (And.intro hlen HEV.out.bd))
 have H8:=Lib.hid hb8
 have R8:=Lib.hid (fun (z:World) (h1:Ow w7.heap.size 100 1 svC z (.slice A8 cp.length c8) (cp.map (·.1))) (h2:Cps w7.heap.size z cp)=>show Rws z z.heap.size A8 RR from by rw [← BO.out.1];exact rws_cp h1 h2)
 obtain ⟨E,hE⟩:∃ E,w8.alloc (.cells #[.int .i64 WW,.slice A8 RR.length c8] 32)=E:=⟨_,rfl⟩
 have H8E:Below w8.heap.size w8 E:=by rw [← hE];exact balloc (Below.refl _ _) _
 have B8:Row E w8.heap.size 32 [.int .i64 WW,.slice A8 RR.length c8]:=by rw [← hE];exact Row.new _ _ _
 have HEE:=Lib.hid hE
 have XE:=Lib.hid (show Below C.heap.size C E ∧ Below w7.heap.size w7 E ∧ Row E w8.heap.size 32 [.int .i64 WW,.slice A8 RR.length c8] ∧ Ow w7.heap.size 100 1 svC E (.slice A8 cp.length c8) (cp.map (·.1)) ∧ Cps w7.heap.size E cp from
  ⟨bch (bch H7.out hb8) H8E,bch hb8 H8E,B8,how8.on H8E,hcc8.on H8E⟩)
 have HLL:=Lib.hid hb8.size
 clear H8E B8 hE how8 hcc8 hb8 hlen hout
 have BE:=Lib.hid (fun (z:World) (hz:Below E.heap.size E z)=>show (z.cell? ⟨w8.heap.size,0,none⟩=some (.int .i64 WW) ∧ z.cell? ⟨w8.heap.size,1,none⟩=some (.slice A8 RR.length c8) ∧ z.cell? ⟨p,0,none⟩=some (.int .i64 WW) ∧ z.cell? ⟨p,1,none⟩=some (.slice A0 RR.length c0))
  from ⟨(XE.out.2.2.1.on hz).cell 0,(XE.out.2.2.1.on hz).cell 1,(BW.out z (bch XE.out.1 hz)).1,(BW.out z (bch XE.out.1 hz)).2⟩)
 have BQ:=Lib.hid (fun (z:World) (hz:Below E.heap.size E z)=>eqTable_ok WW WW A8 A0 c8 c0 RR RR z (by have:=BO.out.2.2.1;unfold maxLen;omega) (by have:=BO.out.2.2.1;unfold maxLen;omega) (R8.out z (XE.out.2.2.2.1.on hz) (XE.out.2.2.2.2.on hz)) (BR.out z (bch XE.out.1 hz)) true (by simp))
 have zE:=BE.out _ (Below.refl _ _)
 have hqq:(q != q)=false:=by simp
 go_upto_region 12 with fail
 rw [HEE.out]
 go_wp2_with fail
 refine (BQ.out _ (Below.refl _ _)).mono ?_
 rintro e w9 ⟨rfl,hb9⟩
 have H9:=Lib.hid hb9
 clear hb9 zE
 go_wp2
 obtain ⟨u,hu⟩:∃ u,w9.drew=u:=⟨_,rfl⟩
 have Bu:Hid (Below E.heap.size E u):=Lib.hid (hu ▸ H9.out.drew)
 have Hu:=Lib.hid hu
 have XEd:=Lib.hid XE.out.2.1
 have SB:=Lib.hid (fun (z:World) (hz:Below E.heap.size E z)=>show z.cell? ⟨w5.heap.size,0,none⟩=some (.int .i64 f5.kind) ∧ z.cell? ⟨w5.heap.size,1,none⟩=some (.int .i64 f5.table) ∧ z.cell? ⟨w5.heap.size,2,none⟩=some (.slice f5.es.A f5.es.n f5.es.c) ∧ z.cell? ⟨w5.heap.size,3,none⟩=some (.slice f5.cs.A f5.cs.n f5.cs.c) ∧ z.cell? ⟨w5.heap.size,4,none⟩=some (.slice f5.ks.A f5.ks.n f5.ks.c) ∧ z.cell? ⟨w.heap.size,0,none⟩=some (.int .i64 f.kind) ∧ z.cell? ⟨w.heap.size,1,none⟩=some (.int .i64 f.table) ∧ z.cell? ⟨w.heap.size,2,none⟩=some (.slice f.es.A f.es.n f.es.c) ∧ z.cell? ⟨w.heap.size,3,none⟩=some (.slice f.cs.A f.cs.n f.cs.c) ∧ z.cell? ⟨w.heap.size,4,none⟩=some (.slice f.ks.A f.ks.n f.ks.c) from by
  have ra:=Hr7.out.on (bch XEd.out hz)
  obtain ⟨b0,b1,b2,b3,b4⟩:=BY.out z (bch XE.out.1 hz)
  exact ⟨ra.cell 0,ra.cell 1,ra.cell 2,ra.cell 3,ra.cell 4,b0,b1,b2,b3,b4⟩)
 clear hu
 refine wp_region_held_drew (S:=fun z=>z.cell? ⟨w5.heap.size,0,none⟩=some (.int .i64 f5.kind) ∧ z.cell? ⟨w5.heap.size,1,none⟩=some (.int .i64 f5.table) ∧ z.cell? ⟨w5.heap.size,2,none⟩=some (.slice f5.es.A f5.es.n f5.es.c) ∧ z.cell? ⟨w5.heap.size,3,none⟩=some (.slice f5.cs.A f5.cs.n f5.cs.c) ∧ z.cell? ⟨w5.heap.size,4,none⟩=some (.slice f5.ks.A f5.ks.n f5.ks.c) ∧ z.cell? ⟨w.heap.size,0,none⟩=some (.int .i64 f.kind) ∧ z.cell? ⟨w.heap.size,1,none⟩=some (.int .i64 f.table) ∧ z.cell? ⟨w.heap.size,2,none⟩=some (.slice f.es.A f.es.n f.es.c) ∧ z.cell? ⟨w.heap.size,3,none⟩=some (.slice f.cs.A f.cs.n f.cs.c) ∧ z.cell? ⟨w.heap.size,4,none⟩=some (.slice f.ks.A f.ks.n f.ks.c)) (by kernel_rfl) ?_ (fun hHeld=>?_)
 ·rw [Hu.out];exact SB.out _ Bu.out
 rw [Hu.out] at hHeld ⊢
 refine takeL (i:=0) (v:=?v0) rfl (by kernel_rfl) (by kernel_rfl) (by kernel_rfl) (fun _ _ _ h=>h) (Or.inl ⟨by rfl,?hy0⟩) (by assumption) ?_
 case hy0=>((intro w' hSw;(try dsimp only at hSw);obtain ⟨s0,s1,s2,s3,s4,t0,t1,t2,t3,t4⟩:=hSw;go_simp) <;> with_reducible rfl)
 try simp only [Act.put,sTA,sC0,sCS]
 refine takeL (i:=1) (v:=?v1) rfl (by kernel_rfl) (by kernel_rfl) (by kernel_rfl) (fun _ _ _ h=>h) (Or.inl ⟨by rfl,?hy1⟩) (by assumption) ?_
 case hy1=>((intro w' hSw;(try dsimp only at hSw);obtain ⟨s0,s1,s2,s3,s4,t0,t1,t2,t3,t4⟩:=hSw;go_simp) <;> with_reducible rfl)
 try simp only [Act.put,sTA,sC0,sCS]
 refine wpAnyH_ready (rs:=[2]) (by kernel_rfl) (by simp) ?_
 refine readyL rfl (fun K hK=>?_) AllReadyH.nil
 go_simp
 go_at_call 8
 refine (CX.out u (PH.out _ (bch XE.out.1 Bu.out))).mono ?_
 rintro e w10 ⟨f8,rfl,hx8,hb8⟩
 have HX8:=Lib.hid hx8.in_
 have H10:=Lib.hid (bch Bu.out hb8)
 clear hx8 hb8
 refine hK.out _ _ ?hS2 (fun hHeld=>?_)
 case hS2=>exact SB.out _ H10.out
 clear hK K
 try simp only [Act.put,sTA,sC0,sCS]
 refine wpAnyH_ready (rs:=[3]) (by kernel_rfl) (by simp) ?_
 refine readyL rfl (fun K hK=>?_) AllReadyH.nil
 have EX:=eqPlan_ok x f5 f8 w10 (HX7.out.in_.on (bch XEd.out H10.out)) HX8.out
 unfold fpV at EX
 go_simp
 go_at_call 12
 refine EX.mono ?_
 rintro e w11 ⟨rfl,hb9⟩
 have H11:=Lib.hid (bch H10.out hb9)
 clear hb9 EX
 refine hK.out _ _ ?hS3 (fun hHeld=>?_)
 case hS3=>exact SB.out _ H11.out
 clear hK K
 try simp only [Act.put,sTA,sC0,sCS]
 refine takeL (i:=4) (v:=?v4) rfl (by kernel_rfl) (by kernel_rfl) (by kernel_rfl) (fun _ _ _ h=>h) (Or.inl ⟨by rfl,?hy4⟩) (by assumption) ?_
 case hy4=>((intro w' hSw;(try dsimp only at hSw);obtain ⟨s0,s1,s2,s3,s4,t0,t1,t2,t3,t4⟩:=hSw;go_simp) <;> with_reducible rfl)
 try simp only [Act.put,sTA,sC0,sCS]
 refine wpAnyH_done (by kernel_rfl) ?_ _
 clear hHeld
 go_wp2_with fail
 refine (CT.out w11 HBd.out.1 (DH.out _ (bch XE.out.1 H11.out))).mono ?_
 rintro e w12 ⟨rfl,hd12,hb12⟩
 have HS12:=Lib.hid ((hd12.db HBd.out.1).in_)
 have H12:=Lib.hid (bch H11.out hb12)
 clear hb12 hd12
 go_wp2_with fail
 refine (EI.out w12 _ _ (dbIn_on (HD7.out.db HBd.out.1).in_ (bch XEd.out H12.out)) HS12.out).mono ?_
 rintro e w13 ⟨rfl,hb13⟩
 have H13:=Lib.hid (bch H12.out hb13)
 clear hb13
 have F13:=Lib.hid (bch XE.out.1 H13.out)
 have PX:=Lib.hid (HX7.out.keep (w':=w13) (bch XEd.out H13.out).size fun b hb hl=>(bch XEd.out H13.out).block b hl)
 have M6:=Lib.hid (markPlan_ok x f5 _ 1 w13 PX.out HD.out (by omega) (by have:=HPM.out;omega))
 unfold fpV at M6
 obtain ⟨mk1,hmk1⟩:∃ mk1:Int,1 + (ptMk x:Int)=mk1:=⟨_,rfl⟩
 rw [hmk1] at M6
 have hmk10:0 ≤ mk1 ∧ mk1 ≤ 4194305:=by have:=HPM.out;omega
 clear hmk1
 obtain ⟨k0,k1,k2,k3,k4,_⟩:=SB.out _ H13.out
 go_upto_region 19 with fail
 go_wp2_with fail
 refine M6.out.mono ?_
 rintro e w14 ⟨rfl,_,hon6⟩
 clear k0 k1 k2 k3 k4
 have HO6:=Lib.hid hon6
 have D13:=Lib.hid (HD7.out.keep (w':=w13) fun q _ hq=>(bch XEd.out H13.out).block q hq)
 have D14:=Lib.hid (D13.out.keep (w':=w14) fun q hq1 hq2=>hon6.block q hq2 fun h=>by have:=h.2;have:=HS6.out.2;omega)
 have M7:=Lib.hid (markTableS_ok db W6.heap.size w7.heap.size mk1 w14 D14.out HBd.out.1 hmk10.1 (by have:=HBd.out.2;omega))
 clear hon6
 go_wp2_with fail
 refine (M7.out).mono ?_
 rintro e w15 ⟨k7,rfl,hk7,hon7,hsz7⟩
 have HSZ:=Lib.hid (show C.heap.size ≤ w5.heap.size ∧ W6.heap.size=w5.heap.size + 1 ∧ W6.heap.size ≤ w7.heap.size ∧ w7.heap.size ≤ w8.heap.size from ⟨HS6.out.1,HS6.out.2,HS7.out,HLL.out⟩)
 have F15:=Lib.hid (show Below C.heap.size C w15 from
  Only.from_ (Only.from_ F13.out rfl HO6.out fun i hi=>hi.1) rfl hon7 fun i hi=>by have:=HSZ.out;omega)
 have G13:=Lib.hid (show Ow w7.heap.size 100 1 svC w13 (.slice A8 cp.length c8) (cp.map (·.1)) ∧ Cps w7.heap.size w13 cp ∧ Row w13 w8.heap.size 32 [.int .i64 WW,.slice A8 RR.length c8] from ⟨XE.out.2.2.2.1.on H13.out,XE.out.2.2.2.2.on H13.out,XE.out.2.2.1.on H13.out⟩)
 have G15:=Lib.hid (show Ow w7.heap.size 100 1 svC w15 (.slice A8 cp.length c8) (cp.map (·.1)) ∧ Cps w7.heap.size w15 cp ∧ Row w15 w8.heap.size 32 [.int .i64 WW,.slice A8 RR.length c8] from
  ⟨(G13.out.1.only HO6.out fun b hb=>.inl (by have:=hb.2;have:=HSZ.out;omega)).only hon7 fun b hb=>.inl (by have:=hb.2;have:=HSZ.out;omega),
   (G13.out.2.1.only HO6.out fun b hb=>.inl (by have:=hb.2;have:=HSZ.out;omega)).only hon7 fun b hb=>.inl (by have:=hb.2;have:=HSZ.out;omega),
   (G13.out.2.2.only HO6.out fun hx=>by have:=hx.2;have:=HSZ.out;omega).only hon7 fun hx=>by have:=hx.2;have:=HSZ.out;omega⟩)
 have hk7n:¬ (k7 < 0):=by omega
 clear hon7 hk7 hsz7
 have g0:w15.cell? ⟨w8.heap.size,0,none⟩=some (.int .i64 WW):=G15.out.2.2.cell 0
 have g1:w15.cell? ⟨w8.heap.size,1,none⟩=some (.slice A8 RR.length c8):=G15.out.2.2.cell 1
 have g2:=BW.out _ F15.out
 have Q15:=Lib.hid (eqTable_ok WW WW A8 A0 c8 c0 RR RR w15 (by have:=BO.out.2.2.1;unfold maxLen;omega) (by have:=BO.out.2.2.1;unfold maxLen;omega) (R8.out w15 G15.out.1 G15.out.2.1) (BR.out w15 F15.out) true (by simp))
 go_wp2_with fail
 refine Q15.out.mono ?_
 rintro e w16 ⟨rfl,hb16⟩
 have G16:=Lib.hid (show Ow w7.heap.size 100 1 svC w16 (.slice A8 cp.length c8) (cp.map (·.1)) ∧ Cps w7.heap.size w16 cp ∧ Row w16 w8.heap.size 32 [.int .i64 WW,.slice A8 RR.length c8] from ⟨G15.out.1.on hb16,G15.out.2.1.on hb16,G15.out.2.2.on hb16⟩)
 have F16:=Lib.hid (bch F15.out hb16)
 clear hb16 g0 g1 g2
 have g0:w16.cell? ⟨w8.heap.size,0,none⟩=some (.int .i64 WW):=G16.out.2.2.cell 0
 have g1:w16.cell? ⟨w8.heap.size,1,none⟩=some (.slice A8 cp.length c8):=by rw [BO.out.2.1];exact G16.out.2.2.cell 1
 have HCL:∀ p' ∈ cp,p'.2.length ≤ 16:=fun p' hp=>BO.out.2.2.2 p'.2 (by rw [← BO.out.1];exact List.mem_map_of_mem hp)
 have hcl:cp.length ≤ 400:=by rw [BO.out.2.1];exact BO.out.2.2.1
 have M8:=Lib.hid (markTableC_ok WW w7.heap.size w7.heap.size A8 c8 cp 1 w16 (by omega) (by omega) hcl HCL G16.out.1 G16.out.2.1)
 have HCL:=Lib.hid HCL
 have hml:mlen cp ≤ 16 * 400:=Nat.le_trans (mlen_le HCL.out) (Nat.mul_le_mul_left _ hcl)
 obtain ⟨mk,hmk⟩:∃ mk:Int,1 + 2 * (mlen cp:Int)=mk:=⟨_,rfl⟩
 have hmk0:¬ (mk < 0):=by omega
 have hmkk:(mk != mk)=false:=by simp
 rw [hmk] at M8
 have HMK:=Lib.hid (And.intro hmk hcl)
 clear hml hmk hcl
 go_upto_region 24 with fail
 go_wp2_with fail
 refine M8.out.mono ?_
 rintro e w17 ⟨rfl,how17,hcp17,hon17⟩
 have hin:∀ i,(∃ p' ∈ cp,svB p'.1=some i) → w7.heap.size ≤ i ∧ TyAt w16 i 85:=fun i ⟨p',hp,hi⟩=>by
  have:=(G16.out.2.1.1 p' hp).2.ty i hi
  exact ⟨this.1,this.2.2⟩
 have G17:=Lib.hid (show Ow w7.heap.size 100 1 svC w17 (.slice A8 cp.length c8) (cp.map (·.1)) ∧ Cps w7.heap.size w17 (marks 1 cp) ∧ Row w17 w8.heap.size 32 [.int .i64 WW,.slice A8 RR.length c8] from
  ⟨how17,hcp17,G16.out.2.2.only hon17 fun hx=>by obtain ⟨_,ht⟩:=hin _ hx;exact (TyAt.ne G16.out.2.2.ty ht (by decide)) rfl⟩)
 have F17:=Lib.hid (Only.from_ F16.out rfl hon17 fun i hi=>by have:=(hin i hi).1;have:=HSZ.out;omega)
 clear how17 hcp17 hon17 hin g0 g1
 have g0:w17.cell? ⟨w8.heap.size,0,none⟩=some (.int .i64 WW):=G17.out.2.2.cell 0
 have g1:w17.cell? ⟨w8.heap.size,1,none⟩=some (.slice A8 cp.length c8):=by rw [BO.out.2.1];exact G17.out.2.2.cell 1
 have M9:=Lib.hid (fun (z:World) (hz:Below w17.heap.size w17 z)=>heldTable_ok WW w7.heap.size w7.heap.size A8 c8 cp 1 z (by omega) (by omega) HMK.out.2 HCL.out (G17.out.1.on hz) (G17.out.2.1.on hz))
 rw [HMK.out.1] at M9
 go_wp2_with fail
 refine (M9.out _ (Below.refl _ _)).mono ?_
 rintro e w18 ⟨rfl,hb18⟩
 have H18:=Lib.hid hb18
 have F18:=Lib.hid (bch F17.out hb18)
 clear hb18 g0 g1
 have y2:=BY.out _ F18.out
 go_wp2_with fail
 refine (CX.out w18 (PH.out _ F18.out)).mono ?_
 rintro e w23 ⟨f3',rfl,hx3,hb3⟩
 have X3:=Lib.hid hx3.in_
 have K3:=Lib.hid hb3
 clear hx3 hb3 y2
 go_wp2_with fail
 refine (CT.out w23 HBd.out.1 (DH.out _ (bch F18.out K3.out))).mono ?_
 rintro e w24 ⟨rfl,hd4,hb4⟩
 have X4:=Lib.hid (X3.out.on hb4)
 have D4:=Lib.hid ((hd4.db HBd.out.1).in_)
 have K4:=Lib.hid (bch K3.out hb4)
 clear hd4 hb4
 go_wp2_with fail
 refine (IX.out w24 f3' _ X4.out D4.out).mono ?_
 rintro e w25 ⟨A9,c9,cp1,rfl,hl1,ho1,how1,hcc1,hb5⟩
 obtain ⟨p2,hp2⟩:∃ p,w25.heap.size=p:=⟨_,rfl⟩
 obtain ⟨L,hL⟩:∃ z,w25.alloc (.cells #[.int .i64 WW,.slice A9 RR.length c9] 32)=z:=⟨_,rfl⟩
 have hLb:Below w25.heap.size w25 L:=by rw [← hL];exact balloc (Below.refl _ _) _
 have hrc:Row L p2 32 [.int .i64 WW,.slice A9 RR.length c9]:=by rw [← hL,← hp2];exact Row.new _ _ _
 have hrw:Rws L L.heap.size A9 RR:=by rw [← ho1];exact rws_cp (how1.on hLb) (hcc1.on hLb)
 have hBc:=bch (bch K4.out hb5) hLb
 have HLE:=Lib.hid hL
 clear hb5 hl1 ho1 how1 hcc1 hLb hL
 go_upto_region 32 with fail
 rw [HLE.out]
 try rw [hp2]
 have FL:=Lib.hid (bch F18.out hBc)
 have HL:=Lib.hid (bch H18.out hBc)
 have g2:=BW.out _ FL.out
 have g3:L.cell? ⟨p2,0,none⟩=some (.int .i64 WW):=hrc.cell 0
 have g4:L.cell? ⟨p2,1,none⟩=some (.slice A9 RR.length c9):=hrc.cell 1
 have Q9:=Lib.hid (eqTable_ok WW WW A9 A0 c9 c0 RR RR L (by have:=BO.out.2.2.1;unfold maxLen;omega) (by have:=BO.out.2.2.1;unfold maxLen;omega) hrw (BR.out _ FL.out) true (by simp))
 clear hBc hrc hrw
 go_wp2_with fail
 refine Q9.out.mono ?_
 rintro e w19 ⟨rfl,hb19⟩
 have F19:=Lib.hid (bch FL.out hb19)
 have H19:=Lib.hid (bch HL.out hb19)
 clear hb19 g2 g3 g4
 have g0:w19.cell? ⟨w8.heap.size,0,none⟩=some (.int .i64 WW):=(G17.out.2.2.on H19.out).cell 0
 have g1:w19.cell? ⟨w8.heap.size,1,none⟩=some (.slice A8 cp.length c8):=by rw [BO.out.2.1];exact (G17.out.2.2.on H19.out).cell 1
 go_upto_region 35 with fail
 go_wp2_with fail
 refine (M9.out _ H19.out).mono ?_
 rintro e w20 ⟨rfl,hb20⟩
 have F20:=Lib.hid (bch HBC.out (bch F19.out hb20))
 clear hb20 g0 g1
 go_wp2_with fail
 go_ret
 exact ⟨rfl,F20.out⟩

namespace lawFnExactEvalPlan
theorem own:ownKnob Tryz.prog.godebug=none:=by kernel_rfl
theorem laidOut:laidOutB Tryz.prog=true:=by kernel_rfl
theorem valTypes:ValTypes Tryz.prog 76 4 3:=⟨⟨_,_,Tryz.underlying76,rfl,rfl,rfl,rfl⟩,Tryz.underlying4,Tryz.underlying3,by kernel_rfl,by kernel_rfl,by kernel_rfl⟩
theorem exTypes:ExTypes Tryz.prog 78 22 76 4 3:=
 ⟨⟨_,_,_,_,Tryz.underlying78,rfl,rfl,rfl,rfl,rfl,rfl,rfl,rfl⟩,⟨_,_,Tryz.underlying76,rfl,rfl,rfl,rfl⟩,Tryz.underlying22,Tryz.underlying4,Tryz.underlying3,by kernel_rfl,by kernel_rfl,by kernel_rfl,by kernel_rfl,by kernel_rfl⟩
theorem plTypes:PlTypes Tryz.prog 26 24 78 22 23 76 4 3:=
 ⟨exTypes,⟨_,_,_,_,_,Tryz.underlying26,rfl,rfl,rfl,rfl,rfl,rfl,rfl,rfl,rfl,rfl⟩,Tryz.underlying24,Tryz.underlying23,by kernel_rfl,by kernel_rfl,by kernel_rfl⟩

set_option maxRecDepth 100000 in
theorem lifted (os:Os) (started:os.Started) (H:Type) (enc:TypeId × Value → H) :
 ReturnsInHanded {} Tryz.checked os 3 .any (Rows.fnExactEvalPlanSpec.pre6 enc Tryz.prog Tryz.f3 Rows.fnExactEvalPlanRow.domain false) (Rows.fnExactEvalPlanSpec.post enc Tryz.prog Tryz.f3 false true false false):=by
 refine returnsInHanded_of_change (C:=Tryz.checked) own started (by kernel_rfl) Tryz.func3
  (ChangeSpec.witness6 (enc:=enc) (C:=Tryz.checked) false ⟨#[],#[.agg #[.int .i64 0,.int .i64 0,.slice none 0 0,.slice none 0 0,.slice none 0 0],.slice none 0 0],[]⟩ 8 (by kernel_rfl) (by kernel_rfl) (by kernel_rfl) (by kernel_rfl)) ?_
 intro W base args ds gs before hval0 hW hcnd _
 have hval:∀ (j:Nat) t v,Tryz.f3.params[j]? = some t → args[j]? = some v → Value.okWide Tryz.prog W .any base t v:=hval0
 have hW':=hW
 obtain ⟨p,q,hA0,hV,rfl,hfz,hnd⟩:=hW
 have hA:DataW.TrodAll enc Tryz.prog W 0 (fun _=>true) true Tryz.f3.params.toList args.toList ds p:=hA0
 rw [Tryz.params3] at hA hval
 obtain ⟨v0,vs0,d0,ds0,p0,q0,hargs,rfl,rfl,h0,r0⟩:=trodAll_cons hA
 obtain ⟨v1,vs1,d1,ds1,p1,q1,rfl,rfl,rfl,h1,r1⟩:=trodAll_cons r0
 obtain ⟨rfl,rfl,rfl⟩:=trodAll_nil r1
 obtain rfl:args=#[v0,v1]:=by cases args;simp_all
 obtain ⟨rfl,rfl⟩:=trodVars_none hV
 obtain ⟨cs0,rfl,hz0⟩:=okWide_struct Tryz.underlying26 (hval 0 26 v0 rfl rfl)
 obtain ⟨cs0⟩:=cs0
 obtain ⟨a1,len1,c1,rfl⟩:=okWide_slice Tryz.underlying27 (hval 1 27 v1 rfl rfl)
 have k0:=h0
 have lt0:∀ x ∈ p0,x.block < W.heap.size:=by obtain ⟨m,hm⟩:=k0;exact DataW.trod_lt m _ _ _ hm
 obtain ⟨f0,h0⟩:=h0
 have k1:=h1
 have lt1:∀ x ∈ p1,x.block < W.heap.size:=by obtain ⟨m,hm⟩:=k1;exact DataW.trod_lt m _ _ _ hm
 obtain ⟨f1,h1⟩:=h1
 obtain ⟨g0,hcs0,x0,dd0,hx0⟩:=open_pl plTypes _ _ _ _ (Nat.le_refl _) (hz0.trans (by kernel_rfl)) h0
 have hcs0:cs0=fpC g0:=hcs0
 subst hcs0
 obtain ⟨db1,rfl,hc1,hm1,s1⟩:=open_tabs valTypes Tryz.underlying54 Tryz.underlying104 (by kernel_rfl) (by kernel_rfl) ⟨_,_,Tryz.underlying56,rfl,rfl,rfl,rfl⟩ Tryz.underlying27 (by kernel_rfl) h1
 clear hA0 hval0
 refine (FnExactEvalPlan_walk g0 x0 a1 c1 db1 W ⟨dd0,hx0⟩ (Nat.le_trans hc1 hm1) s1).mono fun e W' ⟨he,bel⟩=>?_
 subst he
 exact ⟨_,rfl,_,_,_,[],_,[],hW',trodAll_mk1 (shut_bool Tryz.underlying4 _),(trodAll_cons_mk (Below.trod laidOut (by kernel_rfl) (of_decide_eq_true (by kernel_rfl)) k0 bel lt0) (trodAll_cons_mk (Below.trod laidOut (by kernel_rfl) (of_decide_eq_true (by kernel_rfl)) k1 bel lt1) trodAll_mk0)),rfl,bel.frame _,fun h=>by cases h⟩

theorem over:Rows.fnExactEvalPlanRow.holds Tryz.pinned (OpenSpec.ofChange Rows.fnExactEvalPlanSpec):=
 OpenClaim.holds_of_wide 3 Tryz.f3 rfl rfl rfl rfl rfl rfl rfl ⟨rfl,rfl,rfl,rfl,rfl⟩ rfl rfl rfl rfl rfl (by kernel_rfl) Tryz.func3 (by kernel_rfl)
  (of_decide_eq_true (by kernel_rfl)) (by unfold Func.isWrapper;first | (rw [if_pos (by decide +kernel)];kernel_rfl) | (rw [if_neg (by decide +kernel)];exact ⟨rfl,rfl⟩))
  (fun os started H enc _=>lifted os started H enc)

theorem proved:Rows.FnExactEvalPlanSaid:=over
end lawFnExactEvalPlan
#print axioms lawFnExactEvalPlan.proved
end Go.Proofs.YtcbfbgngkdiijaaGreat
