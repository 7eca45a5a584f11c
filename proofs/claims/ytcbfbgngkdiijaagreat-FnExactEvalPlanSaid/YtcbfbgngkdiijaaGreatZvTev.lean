import Derived.Test.YtcbfbgngkdiijaaGreatProg
import Derived.Test.YtcbfbgngkdiijaaGreatZvTgr
import Derived.Test.YtcbfbgngkdiijaaGreatZvTun
import Derived.Test.YtcbfbgngkdiijaaGreatZvEvr
namespace Go.Proofs.YtcbfbgngkdiijaaGreat
open Go.RowKit Go.Qo
set_option linter.unusedVariables false
set_option linter.unusedSimpArgs false

def DbT (w:World) (A:Option Addr) (db:List Tb):Prop:=
 ∃ fs:List FTb,fs.length=db.length ∧ Sl 2 ftC w w.heap.size A fs ∧ ∀ (i:Nat) (f:FTb) (t:Tb),fs[i]? = some f → db[i]? = some t → f.W=t.1 ∧ SVok f.sv t.2.length ∧ InT w f.sv.A t.2
theorem DbT.on {w w':World} {A:Option Addr} {db:List Tb} (h:DbT w A db) (hb:Below w.heap.size w w'):DbT w' A db:=by
 obtain ⟨fs,e1,e2,e3⟩:=h
 exact ⟨fs,e1,e2.on hb,fun i f t hf ht=>by obtain ⟨a,b,c⟩:=e3 i f t hf ht;exact ⟨a,b,c.on hb⟩⟩
theorem DbT.in_ {w:World} {A:Option Addr} {db:List Tb} (h:DbT w A db):DbIn w w.heap.size A db:=by
 obtain ⟨fs,e1,e2,e3⟩:=h
 exact ⟨fs,e1,e2,fun i f t hf ht=>by obtain ⟨a,b,c⟩:=e3 i f t hf ht;exact ⟨a,b,c.rws⟩⟩
theorem DbT.at_ {w:World} {A:Option Addr} {db:List Tb} (h:DbT w A db) {i:Nat} (hi:i < db.length):∃ b o A' c,A=some ⟨b,o,none⟩ ∧ b < w.heap.size ∧ w.cell? ⟨b,o + i * 2,none⟩=some (.int .i64 db[i].1) ∧ w.cell? ⟨b,o + i * 2 + 1,none⟩=some (.slice A' db[i].2.length c) ∧ db[i].2.length ≤ c ∧ c ≤ maxLen ∧ InT w A' db[i].2:=by
 obtain ⟨fs,e1,e2,e3⟩:=h
 have hi':i < fs.length:=by omega
 obtain ⟨b,o,hA,hB,hc⟩:=e2 (by omega)
 have hf:=List.getElem?_eq_getElem hi'
 obtain ⟨k1,⟨k2,k3,k4⟩,k5⟩:=e3 i fs[i] db[i] hf (List.getElem?_eq_getElem hi)
 have c0:=hc i fs[i] hf 0 (.int .i64 fs[i].W) rfl
 have c1:=hc i fs[i] hf 1 (.slice fs[i].sv.A fs[i].sv.n fs[i].sv.c) rfl
 rw [k1] at c0
 rw [k2] at c1 k3
 exact ⟨b,o,fs[i].sv.A,fs[i].sv.c,hA,hB,c0,c1,k3,k4,k5⟩
structure EvTop (p:Pl) (a b:Int):Prop where
 f2:p.kind=2 → p.exprs.length=1 ∧ ∀ e ∈ p.exprs,ExOk a 8 e
 f3:p.kind=3 → p.exprs.length ≤ 6 ∧ ∀ e ∈ p.exprs,ExOk a 8 e
 f45:p.kind=4 ∨ p.kind=5 → p.exprs.length=1 ∧ a + b ≤ 6 ∧ ∀ e ∈ p.exprs,ExOk (a + b) 8 e
 f6:p.kind=6 → a=b
 f8:p.kind=8 → p.cols.length < 6 ∧ ∀ c ∈ p.cols,0 ≤ c ∧ c < a
theorem evTop {ws:List Int} {p:Pl} {a b:Int} (ho:OnlyF p) (h:topW ws p a b ≠ 0):EvTop p a b:=by
 have hE:=ho.2.2.1
 unfold topW at h
 refine ⟨fun h2=>?_,fun h3=>?_,fun h4=>?_,fun h6=>?_,fun h8=>?_⟩
 ·rw [if_neg (by omega),if_pos h2] at h
  have e1:p.exprs.length=1:=by unfold nexprs at hE;rw [if_pos (.inl h2)] at hE;omega
  split at h
  ·rename_i hc;exact ⟨e1,fun e he=>(hc e he).2⟩
  ·exact absurd rfl h
 ·rw [if_neg (by omega),if_neg (by omega),if_pos h3] at h
  split at h
  ·rename_i hc;exact ⟨hc.2,fun e he=>(hc.1 e he).2⟩
  ·exact absurd rfl h
 ·rw [if_neg (by omega),if_neg (by omega),if_neg (by omega),if_pos h4] at h
  have e1:p.exprs.length=1:=by unfold nexprs at hE;rw [if_pos (by omega)] at hE;omega
  split at h
  ·rename_i hc;exact ⟨e1,hc.1,fun e he=>(hc.2 e he).2⟩
  ·exact absurd rfl h
 ·rw [if_neg (by omega),if_neg (by omega),if_neg (by omega),if_neg (by omega),if_pos h6] at h
  split at h
  ·assumption
  ·exact absurd rfl h
 ·rw [if_neg (by omega),if_neg (by omega),if_neg (by omega),if_neg (by omega),if_neg (by omega),if_neg (by omega)] at h
  split at h
  ·rename_i hc;exact ⟨hc.2,colsOk_mem' hc.1⟩
  ·exact absurd rfl h
theorem ded_colS {W:Int} {rows:List Row1} (h:TabOk W rows):colS (dedR rows)=dedR rows:=by
 have hs:=dedR_sub rows
 have hr:∀ r ∈ dedR rows,RowOk W r:=fun r hr=>h.2.2.2.1 r (hs.subset hr)
 have hl:(dedR rows).length ≤ 400:=Nat.le_trans hs.length_le h.2.2.1
 unfold colS
 rw [if_pos hl]
 refine gSort_id (rCm W) hr (List.Pairwise.sublist hs ?_)
 have:=colS_id h
 unfold colS at this
 rw [if_pos h.2.2.1] at this
 rw [← this]
 exact gSort_ord (rCm W) (fun r hr=>h.2.2.2.1 r hr)

def EpS (db:List Tb) (p:Pl):Prop:=∀ (f:FP) (A:Option Addr) (c d:Nat) (w:World),PlIn w w.heap.size f p → plW (wsDb db) d p ≠ 0 → DbT w A db → DbOk db → db.length ≤ maxLen →
 Calls Tryz.prog 26 #[fpV f,.slice A db.length c] w (TbRes (plT db (d + 1) p).1 (plT db (d + 1) p).2 w)

set_option maxRecDepth 20000 in
set_option maxHeartbeats 16000000 in
theorem specEvalPlan_ok' (db:List Tb):∀ p:Pl,EpS db p:=Pl.ind fun p ih f A c d w h hv hdt hdb hdl=>by
 obtain ⟨a1,a2,⟨a3,a3',a3''⟩,⟨a4,a4',a4''⟩,⟨a5,a5',a5''⟩,a6,a7⟩:=h.flat
 obtain ⟨W0,hW0⟩:∃ z,(w.alloc (.cells #[.int .i64 p.kind,.int .i64 p.table,.slice f.es.A p.exprs.length f.es.c,.slice f.cs.A p.cols.length f.cs.c,.slice f.ks.A p.kids.length f.ks.c] 38)).alloc (.cells #[.int .i64 0,.slice none 0 0] 32)=z:=⟨_,rfl⟩
 have s0:W0.heap.size=w.heap.size + 2:=by rw [← hW0];simp
 have B0:Below w.heap.size w W0:=by rw [← hW0];exact balloc (balloc (Below.refl _ _) _) _
 have r0:Row W0 w.heap.size 38 [.int .i64 p.kind,.int .i64 p.table,.slice f.es.A p.exprs.length f.es.c,.slice f.cs.A p.cols.length f.cs.c,.slice f.ks.A p.kids.length f.ks.c]:=by rw [← hW0];exact (Row.new _ _ _).alloc _
 have r1:Row W0 (w.heap.size + 1) 32 [.int .i64 0,.slice none 0 0]:=by rw [← hW0];exact Row.second _ _ _ _
 have BX:=Lib.hid (fun (z:World) (hz:Below W0.heap.size W0 z)=>show (z.cell? ⟨w.heap.size,0,none⟩=some (.int .i64 p.kind) ∧ z.cell? ⟨w.heap.size,1,none⟩=some (.int .i64 p.table) ∧ z.cell? ⟨w.heap.size,2,none⟩=some (.slice f.es.A p.exprs.length f.es.c) ∧ z.cell? ⟨w.heap.size,3,none⟩=some (.slice f.cs.A p.cols.length f.cs.c) ∧ z.cell? ⟨w.heap.size,4,none⟩=some (.slice f.ks.A p.kids.length f.ks.c)) ∧ Row z (w.heap.size + 1) 32 [.int .i64 0,.slice none 0 0] from
  ⟨⟨(r0.on hz).cell 0,(r0.on hz).cell 1,(r0.on hz).cell 2,(r0.on hz).cell 3,(r0.on hz).cell 4⟩,r1.on hz⟩)
 have HW0:=Lib.hid hW0
 have HB0:=Lib.hid B0
 have HK:=Lib.hid (fun (z:World) (hz:Below w.heap.size w z) (i:Nat) (hi:i < p.kids.length)=>(h.on hz).kid hi)
 have HE:=Lib.hid (fun (z:World) (hz:Below w.heap.size w z)=>a6.on hz)
 have HC:=Lib.hid (fun (z:World) (hz:Below w.heap.size w z)=>a7.on hz)
 have HD:=Lib.hid (fun (z:World) (hz:Below w.heap.size w z)=>hdt.on hz)
 have IH:=Lib.hid ih
 have HV:=Lib.hid hv
 have HDB:=Lib.hid (And.intro hdb hdl)
 have hof:OnlyF p:=Classical.byContradiction fun hn=>hv (plW_no hn)
 have Hof:=Lib.hid hof
 have HTO:=Lib.hid (plT_ok hdb d p hv)
 have hkb:p.kids.length ≤ maxLen ∧ p.cols.length ≤ maxLen ∧ p.exprs.length ≤ maxLen:=by omega
 unfold maxLen at hkb hdl
 obtain ⟨hkb1,hkb2,hkb3⟩:=hkb
 obtain ⟨⟨RW,RR⟩,hR⟩:∃ t,plT db (d + 1) p=t:=⟨_,rfl⟩
 have HR:=Lib.hid (show ((RW,RR):Tb)=topT db p (kidT (plT db d) p 0) (kidT (plT db d) p 1) from hR.symm)
 rw [hR]
 have HRb:=Lib.hid (show TabOk RW RR by have:=HTO.out.2.tab;rw [← HR.out] at this;exact this)
 obtain ⟨⟨c0,c1,c2,c3,c4⟩,_⟩:=BX.out _ (Below.refl _ _)
 have hk8:=hof.1
 unfold fpV
 rw [a1,a2,a3,a4,a5]
 clear h hv hdt hdb ih a1 a2 a3 a4 a5 a3' a3'' a4' a4'' a5' a5'' a6 a7 B0 hof r0 r1 hW0 hR
 by_cases hk1:p.kind=1
 ·have hsc:=plW_scan HV.out hk1
  obtain ⟨j,hj⟩:=Int.eq_ofNat_of_zero_le hsc.1
  have hjl:j < db.length:=by have:=hsc.2;unfold wsDb at this;rw [List.length_map] at this;omega
  have hjI:(j:Int) < (db.length:Int):=by omega
  have hz:=HR.out
  unfold topT at hz
  rw [if_pos hk1] at hz
  unfold dbAt at hz
  rw [hj,Int.toNat_natCast,List.getD_eq_getElem?_getD,List.getElem?_eq_getElem hjl] at hz
  have hz2:((RW,RR):Tb)=db[j]:=hz
  obtain ⟨bs,os,At,ct,hA,hBs,e0,e1,hc1,hc2,hin⟩:=(HD.out _ HB0.out).at_ hjl
  subst hA
  rw [← hz2] at e0 e1 hc1 hin
  have hT:TabOk RW RR:=HRb.out
  rw [hk1] at c0
  rw [hj] at c1
  have hid:=colS_id hT
  have HID:=Lib.hid hid
  have HIN:=Lib.hid hin
  have HROW:=Lib.hid (tab_row hT)
  have hl4:=hT.2.2.1
  unfold maxLen at hc2
  have SB:=Lib.hid (fun (z:World) (hz:Below W0.heap.size W0 z)=>show z.cell? ⟨w.heap.size,1,none⟩=some (.int .i64 (j:Int)) ∧ z.cell? ⟨bs,os + j * 2,none⟩=some (.int .i64 RW) ∧ z.cell? ⟨bs,os + j * 2 + 1,none⟩=some (.slice At RR.length ct) from ⟨by have:=(BX.out z hz).1.2.1;rw [hj] at this;exact this,(hz.cell (p:=⟨_,_,none⟩) hBs).trans e0,(hz.cell (p:=⟨_,_,none⟩) hBs).trans e1⟩)
  obtain ⟨u0,hu0⟩:∃ z,W0.drew=z:=⟨_,rfl⟩
  have Bu0:=Lib.hid (show Below W0.heap.size W0 u0 from hu0 ▸ (Below.refl _ _).drew)
  have Hu0:=Lib.hid hu0
  have HTF:=Lib.hid (fun (z:World) (hz:Below W0.heap.size W0 z)=>show ∃ svs,SlT 100 1 svC 0 z At svs ∧ RowsT 85 2 valC 0 z svs RR from hin.on hz)
  clear hu0 hsc hj hk1 hz hz2 hin hT hid e0 e1 c2 c3 c4
  go_enter Tryz.func26,Tryz.ntmps26
  go_upto_region 1 with fail
  rw [HW0.out]
  go_upto_region 2 with fail
  refine wp_region_g 13 (fun z=>z.cell? ⟨w.heap.size,1,none⟩=some (.int .i64 (j:Int)) ∧ z.cell? ⟨bs,os + j * 2,none⟩=some (.int .i64 RW) ∧ z.cell? ⟨bs,os + j * 2 + 1,none⟩=some (.slice At RR.length ct)) (by kernel_rfl) ?_ (fun hHeld=>?_)
  ·exact SB.out _ (Below.refl _ _).drew
  rw [Hu0.out] at hHeld ⊢
  refine tkH (i:=0) rfl (by assumption) ?_
  try simp only [Act.put,sTA,sC0,sCS]
  refine tkH (i:=1) rfl (by assumption) ?_
  try simp only [Act.put,sTA,sC0,sCS]
  refine tkH (i:=2) rfl (by assumption) ?_
  try simp only [Act.put,sTA,sC0,sCS]
  refine tkH (i:=3) rfl (by assumption) ?_
  try simp only [Act.put,sTA,sC0,sCS]
  refine tkH (i:=4) rfl (by assumption) ?_
  try simp only [Act.put,sTA,sC0,sCS]
  refine tkH (i:=5) rfl (by assumption) ?_
  try simp only [Act.put,sTA,sC0,sCS]
  refine tkH (i:=6) rfl (by assumption) ?_
  try simp only [Act.put,sTA,sC0,sCS]
  refine tkH (i:=7) rfl (by assumption) ?_
  try simp only [Act.put,sTA,sC0,sCS]
  refine tkH (i:=8) rfl (by assumption) ?_
  try simp only [Act.put,sTA,sC0,sCS]
  refine tkH (i:=9) rfl (by assumption) ?_
  try simp only [Act.put,sTA,sC0,sCS]
  refine tkH (i:=10) rfl (by assumption) ?_
  try simp only [Act.put,sTA,sC0,sCS]
  refine tkH (i:=11) rfl (by assumption) ?_
  try simp only [Act.put,sTA,sC0,sCS]
  refine rdG (i:=12) (by kernel_rfl) rfl (fun K hK=>?_)
  obtain ⟨svs,hS,hRT⟩:=HTF.out u0 Bu0.out
  go_simp
  go_at_call 47
  refine (tableOf_ok 0 RW At ct svs RR u0 (Nat.zero_le _) (by omega) (fun r hr=>by have:=rowValid_len (HROW.out r hr).1;omega) hS.sl hRT).mono ?_
  intro e w6 h6
  obtain ⟨A6,c6,rfl,h61,h62,h63,hb6⟩:=h6.tb HROW.out
  rw [HID.out] at h61 h63
  rw [HID.out]
  have HR6:=Lib.hid (And.intro h61 (And.intro h62 (And.intro h63 (bch Bu0.out hb6))))
  have HRQ:=Lib.hid (BX.out _ HR6.out.2.2.2).2
  clear h6 h61 h62 h63 hb6 hS hRT
  refine hK.out _ _ ?hS13 (fun hHeld=>?_)
  case hS13=>exact fun _=>SB.out _ HR6.out.2.2.2
  replace hHeld:=hHeld (by decide)
  clear hK K
  try simp only [Act.put,sTA,sC0,sCS]
  refine rdG (i:=13) (by kernel_rfl) rfl (fun K hK=>?_)
  obtain ⟨q0,q1,q2,q3,q4⟩:=tbox HRQ.out
  go_simp
  refine hK.out _ _ ?hS14 (fun hHeld=>?_)
  case hS14=>exact fun h=>absurd rfl h
  clear hK K
  try simp only [Act.put,sTA,sC0,sCS]
  refine wpAnyG_done (by kernel_rfl) ?_ _
  go_wp2
  exact bodyPost_ret (v:=.agg #[.int .i64 (RW),.slice A6 (RR).length c6]) (by simp [results,Tryz.results26,go_sem,q0,q1,q2,q3,q4]) rfl ⟨A6,c6,rfl,HR6.out.1,HR6.out.2.1,HR6.out.2.2.1.put2 HRQ.out _ _,below_put (bch HB0.out HR6.out.2.2.2) (by omega) _ _⟩
 have hk1':(p.kind == 1)=false:=by simpa using hk1
 have hkp:0 < p.kids.length:=nkids_ne Hof.out hk1
 obtain ⟨_,e,rfl,hv0⟩:=plW_kids HV.out (List.getElem_mem hkp)
 have hkx:∀ x ∈ p.kids,plW (wsDb db) e x ≠ 0:=fun x hx=>by
  obtain ⟨_,e2,he2,h2⟩:=plW_kids HV.out hx
  obtain rfl:e2=e:=by omega
  exact h2
 have htop:=plW_top (d:=e + 1) Hof.out (fun _=>by omega) hkx
 rw [show e + 1 - 1=e from rfl] at htop
 have hnz:=HV.out
 rw [htop] at hnz
 have HET:=Lib.hid (evTop Hof.out hnz)
 obtain ⟨q0,o0,g,hA0,hq0,⟨d0,d1,d2,d3,d4⟩,hg⟩:=HK.out _ HB0.out 0 hkp
 have HX0:=Lib.hid (IH.out _ (List.getElem_mem hkp) g A c e W0 hg hv0 (HD.out _ HB0.out) HDB.out.1 HDB.out.2)
 have ht0:=plT_ok HDB.out.1 e p.kids[0] hv0
 have hkw0:kidW (plW (wsDb db) e) p 0=(plT db (e + 1) p.kids[0]).1:=by unfold kidW;rw [List.getElem?_eq_getElem hkp];exact ht0.1.symm
 have hT0:=ht0.2.tab
 have hkt0:kidT (plT db (e + 1)) p 0=plT db (e + 1) p.kids[0]:=kidT_at hkp
 have hTa:TabOk (plT db (e + 1) p.kids[0]).1 (plT db (e + 1) p.kids[0]).2:=by
  exact hT0
 obtain ⟨⟨Wa,Ra⟩,hab⟩:∃ t,plT db (e + 1) p.kids[0]=t:=⟨_,rfl⟩
 rw [hab] at HX0 hTa hkw0 hkt0
 have HTA:=Lib.hid hTa
 rw [hkw0] at HET
 have HKT0:=Lib.hid hkt0
 have hAk:=Lib.hid hA0
 have hkpI:(0:Int) < (p.kids.length:Int):=by omega
 simp only [Nat.zero_mul,Nat.add_zero] at d0 d1 d2 d3 d4
 unfold fpV at HX0
 rw [hA0] at c4
 have HNK:=Lib.hid hkx
 clear hv0 hg hA0 ht0 hT0 hkt0 hkw0 hab htop hnz hkx hTa
 go_enter Tryz.func26,Tryz.ntmps26
 go_upto_region 1 with fail
 rw [HW0.out]
 go_wp2_with fail
 refine HX0.out.mono ?_
 rintro e' w2 ⟨A2,cc2,rfl,hc21,hc22,hin2,hb2⟩
 try dsimp only at hc21 hin2
 obtain ⟨W3,hW3⟩:∃ z,w2.alloc (.cells #[.int .i64 Wa,.slice A2 Ra.length cc2] 32)=z:=⟨_,rfl⟩
 have b3:Below w2.heap.size w2 W3:=by rw [← hW3];exact balloc (Below.refl _ _) _
 have r3:Row W3 w2.heap.size 32 [.int .i64 Wa,.slice A2 Ra.length cc2]:=by rw [← hW3];exact Row.new _ _ _
 have HB2:=Lib.hid (bch hb2 b3)
 have HB3:=Lib.hid (bch HB0.out (bch hb2 b3))
 have HIN:=Lib.hid (hin2.on b3)
 have HR3:=Lib.hid r3
 have HW3:=Lib.hid hW3
 unfold maxLen at hc22
 have hl2:=HTA.out.2.2.1
 have BY:=Lib.hid (fun (z:World) (hz:Below W3.heap.size W3 z)=>show (z.cell? ⟨w2.heap.size,0,none⟩=some (.int .i64 Wa) ∧ z.cell? ⟨w2.heap.size,1,none⟩=some (.slice A2 Ra.length cc2)) ∧ (z.cell? ⟨w.heap.size,0,none⟩=some (.int .i64 p.kind) ∧ z.cell? ⟨w.heap.size,1,none⟩=some (.int .i64 p.table) ∧ z.cell? ⟨w.heap.size,2,none⟩=some (.slice f.es.A p.exprs.length f.es.c) ∧ z.cell? ⟨w.heap.size,3,none⟩=some (.slice f.cs.A p.cols.length f.cs.c) ∧ z.cell? ⟨w.heap.size,4,none⟩=some (.slice f.ks.A p.kids.length f.ks.c)) ∧ Row z (w.heap.size + 1) 32 [.int .i64 0,.slice none 0 0] from
  ⟨⟨(r3.on hz).cell 0,(r3.on hz).cell 1⟩,BX.out _ (bch (bch hb2 b3) hz)⟩)
 clear d0 d1 d2 d3 d4 c0 c1 c2 c3 c4 hin2 b3 r3 hW3 hb2
 obtain ⟨⟨b0,b1⟩,⟨c0,c1,c2,c3,c4⟩,hrb⟩:=BY.out _ (Below.refl _ _)
 clear hrb
 go_upto_region 4 with fail
 rw [HW3.out]
 obtain ⟨u0,hu0⟩:∃ z,W3.drew=z:=⟨_,rfl⟩
 have Bu0:=Lib.hid (show Below W3.heap.size W3 u0 from hu0 ▸ (Below.refl _ _).drew)
 have Hu0:=Lib.hid hu0
 clear hu0
 by_cases hk2:p.kind=2
 ·have hz:=HR.out
  unfold topT rawR at hz
  rw [if_neg hk1,HKT0.out,if_neg (show ¬ p.kind=3 by omega),if_neg (show ¬ (p.kind=4 ∨ p.kind=5) by omega),if_neg (show ¬ p.kind=8 by omega),if_pos hk2] at hz
  obtain ⟨hel,hex⟩:=HET.out.f2 hk2
  have hp0:0 < p.exprs.length:=by omega
  rw [eAt_at hp0] at hz
  have hRW:Wa=RW:=(congrArg Prod.fst hz).symm
  have hRR:RR=colS (Ra.filter (holdsE p.exprs[0])):=congrArg Prod.snd hz
  have HRR:=Lib.hid hRR
  subst hRW
  obtain ⟨bx,ox,gx,hAx,hBx,hxat,hxi⟩:=exs_at (HE.out _ (Below.refl _ _)) hp0
  simp only [Nat.zero_mul,Nat.add_zero] at hxat
  have hpI:(0:Int) < (p.exprs.length:Int):=by omega
  have HFT:=Lib.hid (fun (z:World) (hz:Below W3.heap.size W3 z)=>filterTable_ok Wa Ra A2 cc2 p.exprs[0] gx z HTA.out (hxi.on (bch HB3.out hz)) (hex _ (List.getElem_mem hp0)) (HIN.out.on hz))
  rw [← hRR] at HFT
  unfold feV at HFT
  have HAX:=Lib.hid hAx
  have SB:=Lib.hid (fun (z:World) (hz:Below W3.heap.size W3 z)=>show z.cell? ⟨w2.heap.size,0,none⟩=some (.int .i64 Wa) ∧ z.cell? ⟨w2.heap.size,1,none⟩=some (.slice A2 Ra.length cc2) ∧ z.cell? ⟨w.heap.size,2,none⟩=some (.slice (some ⟨bx,ox,none⟩) p.exprs.length f.es.c) ∧ z.cell? ⟨bx,ox,none⟩=some (.int .i64 gx.kind) ∧ z.cell? ⟨bx,ox + 1,none⟩=some (.int .i64 gx.col) ∧ z.cell? ⟨bx,ox + 2,none⟩=some (.bool gx.val.1) ∧ z.cell? ⟨bx,ox + 3,none⟩=some (.int .i64 gx.val.2) ∧ z.cell? ⟨bx,ox + 4,none⟩=some (.slice gx.sv.A gx.sv.n gx.sv.c) from by
   obtain ⟨⟨b0,b1⟩,⟨_,_,c2,_,_⟩,_⟩:=BY.out z hz
   rw [HAX.out] at c2
   obtain ⟨x0,x1,x2,x3,x4⟩:=feAt_belowI hxat (bch HB3.out hz) hBx
   exact ⟨b0,b1,c2,x0,x1,x2,x3,x4⟩)
  rw [hk2] at c0
  clear hz hRR hk2 hk1' hk8 hex hel hxat hxi hAx c2 b0 b1
  go_upto_region 6 with fail
  refine wp_region_g 6 (fun z=>z.cell? ⟨w2.heap.size,0,none⟩=some (.int .i64 Wa) ∧ z.cell? ⟨w2.heap.size,1,none⟩=some (.slice A2 Ra.length cc2) ∧ z.cell? ⟨w.heap.size,2,none⟩=some (.slice (some ⟨bx,ox,none⟩) p.exprs.length f.es.c) ∧ z.cell? ⟨bx,ox,none⟩=some (.int .i64 gx.kind) ∧ z.cell? ⟨bx,ox + 1,none⟩=some (.int .i64 gx.col) ∧ z.cell? ⟨bx,ox + 2,none⟩=some (.bool gx.val.1) ∧ z.cell? ⟨bx,ox + 3,none⟩=some (.int .i64 gx.val.2) ∧ z.cell? ⟨bx,ox + 4,none⟩=some (.slice gx.sv.A gx.sv.n gx.sv.c)) (by kernel_rfl) ?_ (fun hHeld=>?_)
  ·exact SB.out _ (Below.refl _ _).drew
  rw [Hu0.out] at hHeld ⊢
  refine tkH (i:=0) rfl (by assumption) ?_
  try simp only [Act.put,sTA,sC0,sCS]
  refine tkH (i:=1) rfl (by assumption) ?_
  try simp only [Act.put,sTA,sC0,sCS]
  refine tkH (i:=2) rfl (by assumption) ?_
  try simp only [Act.put,sTA,sC0,sCS]
  refine tkH (i:=3) rfl (by assumption) ?_
  try simp only [Act.put,sTA,sC0,sCS]
  refine tkH (i:=4) rfl (by assumption) ?_
  try simp only [Act.put,sTA,sC0,sCS]
  refine rdG (i:=5) (by kernel_rfl) rfl (fun K hK=>?_)
  go_simp
  go_at_call 48
  refine (HFT.out u0 Bu0.out).mono ?_
  rintro e6 w6 ⟨A6,c6,rfl,h61,h62,h63,hb6⟩
  have HR6:=Lib.hid (And.intro h61 (And.intro h62 (And.intro h63 (bch Bu0.out hb6))))
  have HRQ:=Lib.hid (BY.out _ HR6.out.2.2.2).2.2
  clear h61 h62 h63 hb6
  refine hK.out _ _ ?hS20 (fun hHeld=>?_)
  case hS20=>exact fun _=>SB.out _ HR6.out.2.2.2
  replace hHeld:=hHeld (by decide)
  clear hK K
  try simp only [Act.put,sTA,sC0,sCS]
  refine rdG (i:=6) (by kernel_rfl) rfl (fun K hK=>?_)
  obtain ⟨q0,q1,q2,q3,q4⟩:=tbox HRQ.out
  go_simp
  refine hK.out _ _ ?hS21 (fun hHeld=>?_)
  case hS21=>exact fun h=>absurd rfl h
  clear hK K
  try simp only [Act.put,sTA,sC0,sCS]
  refine wpAnyG_done (by kernel_rfl) ?_ _
  go_wp2
  exact bodyPost_ret (v:=.agg #[.int .i64 (Wa),.slice A6 (RR).length c6]) (by simp [results,Tryz.results26,go_sem,q0,q1,q2,q3,q4]) rfl ⟨A6,c6,rfl,HR6.out.1,HR6.out.2.1,HR6.out.2.2.1.put2 HRQ.out _ _,below_put (bch HB3.out HR6.out.2.2.2) (by omega) _ _⟩
 have hk2':(p.kind == 2)=false:=by simpa using hk2
 by_cases hk3:p.kind=3
 ·have hz:=HR.out
  unfold topT rawR at hz
  rw [if_neg hk1,HKT0.out,if_pos hk3,if_neg hk2,if_pos hk3] at hz
  obtain ⟨hel,hex⟩:=HET.out.f3 hk3
  have hRW:RW=(p.exprs.length:Int):=congrArg Prod.fst hz
  have hRR:RR=colS (Ra.map fun r=>p.exprs.map fun e=>exVal r e):=congrArg Prod.snd hz
  have hraw:=HTO.out.2.raw hk1
  rw [← HR.out,HKT0.out] at hraw
  unfold rawR at hraw
  rw [if_neg hk2,if_pos hk3] at hraw
  have HFT:=Lib.hid (projectTable_ok Wa Ra A2 cc2 p.exprs f.es.A f.es.c RW W3 HTA.out (HE.out _ HB3.out) hex hel HIN.out hraw)
  rw [← hRR] at HFT
  subst hRW
  rw [hk3] at c0
  clear hz hRR hk3 hk1' hk8 hex hel hraw
  go_wp2_with fail
  refine HFT.out.mono ?_
  rintro e6 w6 ⟨A6,c6,rfl,h61,h62,h63,hb6⟩
  have HR6:=Lib.hid (And.intro h61 (And.intro h62 (And.intro h63 hb6)))
  have HRQ:=Lib.hid (BY.out _ HR6.out.2.2.2).2.2
  clear h61 h62 h63 hb6 c0 c1 c2 c3 c4 b0 b1
  obtain ⟨q0,q1,q2,q3,q4⟩:=tbox HRQ.out
  go_wp2
  exact bodyPost_ret (v:=.agg #[.int .i64 ((p.exprs.length:Int)),.slice A6 (RR).length c6]) (by simp [results,Tryz.results26,go_sem,q0,q1,q2,q3,q4]) rfl ⟨A6,c6,rfl,HR6.out.1,HR6.out.2.1,HR6.out.2.2.1.put2 HRQ.out _ _,below_put (bch HB3.out HR6.out.2.2.2) (by omega) _ _⟩
 have hk3':(p.kind == 3)=false:=by simpa using hk3
 by_cases hk4:p.kind=4
 ·skip
  have hz:=HR.out
  unfold topT rawR at hz
  rw [if_neg hk1,HKT0.out,if_neg hk3,if_pos (show p.kind=4 ∨ p.kind=5 by omega),if_neg hk2,if_neg hk3,if_pos (show p.kind=4 ∨ p.kind=5 by omega)] at hz
  have Hk:=Lib.hid (show p.kind=4 ∨ p.kind=5 ∨ p.kind=6 by omega)
  have hkp1:1 < p.kids.length:=by rw [nkids_two Hof.out Hk.out];omega
  have hkp1I:(1:Int) < (p.kids.length:Int):=by omega
  obtain ⟨q1',o1',g1,hA1,hq1,hgat,hg1⟩:=HK.out w (Below.refl _ _) 1 hkp1
  rw [hAk.out] at hA1
  cases hA1
  simp only [Nat.one_mul] at hgat
  have hv1:=HNK.out _ (List.getElem_mem hkp1)
  have ht1:=plT_ok HDB.out.1 e p.kids[1] hv1
  have hkw1:kidW (plW (wsDb db) e) p 1=(plT db (e + 1) p.kids[1]).1:=by unfold kidW;rw [List.getElem?_eq_getElem hkp1];exact ht1.1.symm
  have hTb:TabOk (plT db (e + 1) p.kids[1]).1 (plT db (e + 1) p.kids[1]).2:=ht1.2.tab
  have hkt1:kidT (plT db (e + 1)) p 1=plT db (e + 1) p.kids[1]:=kidT_at hkp1
  have HX1:=Lib.hid (fun (z:World) (hz:Below W3.heap.size W3 z)=>IH.out _ (List.getElem_mem hkp1) g1 A c e z (hg1.on (bch HB3.out hz)) hv1 (HD.out _ (bch HB3.out hz)) HDB.out.1 HDB.out.2)
  obtain ⟨⟨Wb,Rb⟩,hab⟩:∃ t,plT db (e + 1) p.kids[1]=t:=⟨_,rfl⟩
  rw [hab] at HX1 hTb hkw1 hkt1
  rw [hkw1] at HET
  rw [hkt1] at hz
  have HTB:=Lib.hid hTb
  unfold fpV at HX1
  have hl3:=hTb.2.2.1
  clear hab hkw1 hkt1 ht1 hv1 hg1 hTb
  obtain ⟨hel,h6,hex⟩:=HET.out.f45 (by omega)
  have hp0:0 < p.exprs.length:=by omega
  rw [eAt_at hp0] at hz
  have hRW:RW=Wa + Wb:=congrArg Prod.fst hz
  have hRR:RR=colS (joinR p.exprs[0] false Wb.toNat Ra Rb):=by
   have:=congrArg Prod.snd hz
   rw [show (p.kind == 5)=false by simp [hk4]] at this
   exact this
  subst hRW
  obtain ⟨bx,ox,gx,hAx,hBx,hxat,hxi⟩:=exs_at (HE.out _ (Below.refl _ _)) hp0
  simp only [Nat.zero_mul,Nat.add_zero] at hxat
  have hpI:(0:Int) < (p.exprs.length:Int):=by omega
  have HJT:=Lib.hid (fun (A7:Option Addr) (c7:Nat) (z:World) (hz:Below W3.heap.size W3 z) (hin:InT z A7 Rb)=>joinTables_ok Wa Wb Ra Rb A2 A7 cc2 c7 p.exprs[0] gx false z HTA.out HTB.out (hxi.on (bch HB3.out hz)) (hex _ (List.getElem_mem hp0)) h6 (HIN.out.on hz) hin)
  rw [← hRR] at HJT
  unfold feV at HJT
  have HAX:=Lib.hid hAx
  have HKk:=Lib.hid hk4
  have SB:=Lib.hid (fun (z:World) (hz:Below W3.heap.size W3 z)=>show z.cell? ⟨w2.heap.size,0,none⟩=some (.int .i64 Wa) ∧ z.cell? ⟨w2.heap.size,1,none⟩=some (.slice A2 Ra.length cc2) ∧ z.cell? ⟨w.heap.size,0,none⟩=some (.int .i64 4) ∧ z.cell? ⟨w.heap.size,4,none⟩=some (.slice (some ⟨q0,o0,none⟩) p.kids.length f.ks.c) ∧ z.cell? ⟨q0,o0 + 5,none⟩=some (.int .i64 g1.kind) ∧ z.cell? ⟨q0,o0 + 5 + 1,none⟩=some (.int .i64 g1.table) ∧ z.cell? ⟨q0,o0 + 5 + 2,none⟩=some (.slice g1.es.A g1.es.n g1.es.c) ∧ z.cell? ⟨q0,o0 + 5 + 3,none⟩=some (.slice g1.cs.A g1.cs.n g1.cs.c) ∧ z.cell? ⟨q0,o0 + 5 + 4,none⟩=some (.slice g1.ks.A g1.ks.n g1.ks.c) ∧ z.cell? ⟨w.heap.size,2,none⟩=some (.slice (some ⟨bx,ox,none⟩) p.exprs.length f.es.c) ∧ z.cell? ⟨bx,ox,none⟩=some (.int .i64 gx.kind) ∧ z.cell? ⟨bx,ox + 1,none⟩=some (.int .i64 gx.col) ∧ z.cell? ⟨bx,ox + 2,none⟩=some (.bool gx.val.1) ∧ z.cell? ⟨bx,ox + 3,none⟩=some (.int .i64 gx.val.2) ∧ z.cell? ⟨bx,ox + 4,none⟩=some (.slice gx.sv.A gx.sv.n gx.sv.c) from by
   obtain ⟨⟨b0,b1⟩,⟨c0,_,c2,_,c4⟩,_⟩:=BY.out z hz
   rw [HAX.out] at c2
   rw [hAk.out] at c4
   rw [HKk.out] at c0
   obtain ⟨x0,x1,x2,x3,x4⟩:=feAt_belowI hxat (bch HB3.out hz) hBx
   have hcl:=fun o=>(bch HB3.out hz).cell (p:=⟨q0,o,none⟩) hq1
   obtain ⟨y0,y1,y2,y3,y4⟩:=hgat
   exact ⟨b0,b1,c0,c4,(hcl _).trans y0,(hcl _).trans y1,(hcl _).trans y2,(hcl _).trans y3,(hcl _).trans y4,c2,x0,x1,x2,x3,x4⟩)
  rw [hk4] at c0
  clear hz hRR hk1' hk8 hex hel hxat hxi hAx c2 b0 b1 c4 hgat
  go_upto_region 11 with fail
  refine wp_region_g 15 (fun z=>z.cell? ⟨w2.heap.size,0,none⟩=some (.int .i64 Wa) ∧ z.cell? ⟨w2.heap.size,1,none⟩=some (.slice A2 Ra.length cc2) ∧ z.cell? ⟨w.heap.size,0,none⟩=some (.int .i64 4) ∧ z.cell? ⟨w.heap.size,4,none⟩=some (.slice (some ⟨q0,o0,none⟩) p.kids.length f.ks.c) ∧ z.cell? ⟨q0,o0 + 5,none⟩=some (.int .i64 g1.kind) ∧ z.cell? ⟨q0,o0 + 5 + 1,none⟩=some (.int .i64 g1.table) ∧ z.cell? ⟨q0,o0 + 5 + 2,none⟩=some (.slice g1.es.A g1.es.n g1.es.c) ∧ z.cell? ⟨q0,o0 + 5 + 3,none⟩=some (.slice g1.cs.A g1.cs.n g1.cs.c) ∧ z.cell? ⟨q0,o0 + 5 + 4,none⟩=some (.slice g1.ks.A g1.ks.n g1.ks.c) ∧ z.cell? ⟨w.heap.size,2,none⟩=some (.slice (some ⟨bx,ox,none⟩) p.exprs.length f.es.c) ∧ z.cell? ⟨bx,ox,none⟩=some (.int .i64 gx.kind) ∧ z.cell? ⟨bx,ox + 1,none⟩=some (.int .i64 gx.col) ∧ z.cell? ⟨bx,ox + 2,none⟩=some (.bool gx.val.1) ∧ z.cell? ⟨bx,ox + 3,none⟩=some (.int .i64 gx.val.2) ∧ z.cell? ⟨bx,ox + 4,none⟩=some (.slice gx.sv.A gx.sv.n gx.sv.c)) (by kernel_rfl) ?_ (fun hHeld=>?_)
  ·exact SB.out _ (Below.refl _ _).drew
  rw [Hu0.out] at hHeld ⊢
  refine tkH (i:=0) rfl (by assumption) ?_
  try simp only [Act.put,sTA,sC0,sCS]
  refine tkH (i:=1) rfl (by assumption) ?_
  try simp only [Act.put,sTA,sC0,sCS]
  refine tkH (i:=2) rfl (by assumption) ?_
  try simp only [Act.put,sTA,sC0,sCS]
  refine tkH (i:=3) rfl (by assumption) ?_
  try simp only [Act.put,sTA,sC0,sCS]
  refine tkH (i:=4) rfl (by assumption) ?_
  try simp only [Act.put,sTA,sC0,sCS]
  refine tkH (i:=5) rfl (by assumption) ?_
  try simp only [Act.put,sTA,sC0,sCS]
  refine tkH (i:=7) rfl (by assumption) ?_
  try simp only [Act.put,sTA,sC0,sCS]
  refine tkH (i:=8) rfl (by assumption) ?_
  try simp only [Act.put,sTA,sC0,sCS]
  refine tkH (i:=9) rfl (by assumption) ?_
  try simp only [Act.put,sTA,sC0,sCS]
  refine tkH (i:=10) rfl (by assumption) ?_
  try simp only [Act.put,sTA,sC0,sCS]
  refine tkH (i:=11) rfl (by assumption) ?_
  try simp only [Act.put,sTA,sC0,sCS]
  refine tkH (i:=12) rfl (by assumption) ?_
  try simp only [Act.put,sTA,sC0,sCS]
  refine tkH (i:=13) rfl (by assumption) ?_
  try simp only [Act.put,sTA,sC0,sCS]
  refine rdG (i:=6) (by kernel_rfl) rfl (fun K hK=>?_)
  go_simp
  go_at_call 26
  refine (HX1.out u0 Bu0.out).mono ?_
  rintro e7 w7 ⟨A7,c7,rfl,h71,h72,h73,hb7⟩
  try dsimp only at h71 h73
  have HR7:=Lib.hid (And.intro h71 (And.intro h72 (And.intro h73 (bch Bu0.out hb7))))
  clear h71 h72 h73 hb7
  refine hK.out _ _ ?hS35 (fun hHeld=>?_)
  case hS35=>exact fun _=>SB.out _ HR7.out.2.2.2
  replace hHeld:=hHeld (by decide)
  clear hK K
  try simp only [Act.put,sTA,sC0,sCS]
  refine rdG (i:=14) (by kernel_rfl) rfl (fun K hK=>?_)
  go_simp
  go_at_call 50
  refine (HJT.out A7 c7 w7 HR7.out.2.2.2 HR7.out.2.2.1).mono ?_
  rintro e6 w6 ⟨A6,c6,rfl,h61,h62,h63,hb6⟩
  have HR6:=Lib.hid (And.intro h61 (And.intro h62 (And.intro h63 (bch HR7.out.2.2.2 hb6))))
  have HRQ:=Lib.hid (BY.out _ HR6.out.2.2.2).2.2
  clear h61 h62 h63 hb6
  refine hK.out _ _ ?hS36 (fun hHeld=>?_)
  case hS36=>exact fun _=>SB.out _ HR6.out.2.2.2
  replace hHeld:=hHeld (by decide)
  clear hK K
  try simp only [Act.put,sTA,sC0,sCS]
  refine rdG (i:=15) (by kernel_rfl) rfl (fun K hK=>?_)
  obtain ⟨q0,q1,q2,q3,q4⟩:=tbox HRQ.out
  go_simp
  refine hK.out _ _ ?hS37 (fun hHeld=>?_)
  case hS37=>exact fun h=>absurd rfl h
  clear hK K
  try simp only [Act.put,sTA,sC0,sCS]
  refine wpAnyG_done (by kernel_rfl) ?_ _
  go_wp2
  exact bodyPost_ret (v:=.agg #[.int .i64 (Wa + Wb),.slice A6 (RR).length c6]) (by simp [results,Tryz.results26,go_sem,q0,q1,q2,q3,q4]) rfl ⟨A6,c6,rfl,HR6.out.1,HR6.out.2.1,HR6.out.2.2.1.put2 HRQ.out _ _,below_put (bch HB3.out HR6.out.2.2.2) (by omega) _ _⟩
 have hk4':(p.kind == 4)=false:=by simpa using hk4
 by_cases hk5:p.kind=5
 ·skip
  have hz:=HR.out
  unfold topT rawR at hz
  rw [if_neg hk1,HKT0.out,if_neg hk3,if_pos (show p.kind=4 ∨ p.kind=5 by omega),if_neg hk2,if_neg hk3,if_pos (show p.kind=4 ∨ p.kind=5 by omega)] at hz
  have Hk:=Lib.hid (show p.kind=4 ∨ p.kind=5 ∨ p.kind=6 by omega)
  have hkp1:1 < p.kids.length:=by rw [nkids_two Hof.out Hk.out];omega
  have hkp1I:(1:Int) < (p.kids.length:Int):=by omega
  obtain ⟨q1',o1',g1,hA1,hq1,hgat,hg1⟩:=HK.out w (Below.refl _ _) 1 hkp1
  rw [hAk.out] at hA1
  cases hA1
  simp only [Nat.one_mul] at hgat
  have hv1:=HNK.out _ (List.getElem_mem hkp1)
  have ht1:=plT_ok HDB.out.1 e p.kids[1] hv1
  have hkw1:kidW (plW (wsDb db) e) p 1=(plT db (e + 1) p.kids[1]).1:=by unfold kidW;rw [List.getElem?_eq_getElem hkp1];exact ht1.1.symm
  have hTb:TabOk (plT db (e + 1) p.kids[1]).1 (plT db (e + 1) p.kids[1]).2:=ht1.2.tab
  have hkt1:kidT (plT db (e + 1)) p 1=plT db (e + 1) p.kids[1]:=kidT_at hkp1
  have HX1:=Lib.hid (fun (z:World) (hz:Below W3.heap.size W3 z)=>IH.out _ (List.getElem_mem hkp1) g1 A c e z (hg1.on (bch HB3.out hz)) hv1 (HD.out _ (bch HB3.out hz)) HDB.out.1 HDB.out.2)
  obtain ⟨⟨Wb,Rb⟩,hab⟩:∃ t,plT db (e + 1) p.kids[1]=t:=⟨_,rfl⟩
  rw [hab] at HX1 hTb hkw1 hkt1
  rw [hkw1] at HET
  rw [hkt1] at hz
  have HTB:=Lib.hid hTb
  unfold fpV at HX1
  have hl3:=hTb.2.2.1
  clear hab hkw1 hkt1 ht1 hv1 hg1 hTb
  obtain ⟨hel,h6,hex⟩:=HET.out.f45 (by omega)
  have hp0:0 < p.exprs.length:=by omega
  rw [eAt_at hp0] at hz
  have hRW:RW=Wa + Wb:=congrArg Prod.fst hz
  have hRR:RR=colS (joinR p.exprs[0] true Wb.toNat Ra Rb):=by
   have:=congrArg Prod.snd hz
   rw [show (p.kind == 5)=true by simp [hk5]] at this
   exact this
  subst hRW
  obtain ⟨bx,ox,gx,hAx,hBx,hxat,hxi⟩:=exs_at (HE.out _ (Below.refl _ _)) hp0
  simp only [Nat.zero_mul,Nat.add_zero] at hxat
  have hpI:(0:Int) < (p.exprs.length:Int):=by omega
  have HJT:=Lib.hid (fun (A7:Option Addr) (c7:Nat) (z:World) (hz:Below W3.heap.size W3 z) (hin:InT z A7 Rb)=>joinTables_ok Wa Wb Ra Rb A2 A7 cc2 c7 p.exprs[0] gx true z HTA.out HTB.out (hxi.on (bch HB3.out hz)) (hex _ (List.getElem_mem hp0)) h6 (HIN.out.on hz) hin)
  rw [← hRR] at HJT
  unfold feV at HJT
  have HAX:=Lib.hid hAx
  have HKk:=Lib.hid hk5
  have SB:=Lib.hid (fun (z:World) (hz:Below W3.heap.size W3 z)=>show z.cell? ⟨w2.heap.size,0,none⟩=some (.int .i64 Wa) ∧ z.cell? ⟨w2.heap.size,1,none⟩=some (.slice A2 Ra.length cc2) ∧ z.cell? ⟨w.heap.size,0,none⟩=some (.int .i64 5) ∧ z.cell? ⟨w.heap.size,4,none⟩=some (.slice (some ⟨q0,o0,none⟩) p.kids.length f.ks.c) ∧ z.cell? ⟨q0,o0 + 5,none⟩=some (.int .i64 g1.kind) ∧ z.cell? ⟨q0,o0 + 5 + 1,none⟩=some (.int .i64 g1.table) ∧ z.cell? ⟨q0,o0 + 5 + 2,none⟩=some (.slice g1.es.A g1.es.n g1.es.c) ∧ z.cell? ⟨q0,o0 + 5 + 3,none⟩=some (.slice g1.cs.A g1.cs.n g1.cs.c) ∧ z.cell? ⟨q0,o0 + 5 + 4,none⟩=some (.slice g1.ks.A g1.ks.n g1.ks.c) ∧ z.cell? ⟨w.heap.size,2,none⟩=some (.slice (some ⟨bx,ox,none⟩) p.exprs.length f.es.c) ∧ z.cell? ⟨bx,ox,none⟩=some (.int .i64 gx.kind) ∧ z.cell? ⟨bx,ox + 1,none⟩=some (.int .i64 gx.col) ∧ z.cell? ⟨bx,ox + 2,none⟩=some (.bool gx.val.1) ∧ z.cell? ⟨bx,ox + 3,none⟩=some (.int .i64 gx.val.2) ∧ z.cell? ⟨bx,ox + 4,none⟩=some (.slice gx.sv.A gx.sv.n gx.sv.c) from by
   obtain ⟨⟨b0,b1⟩,⟨c0,_,c2,_,c4⟩,_⟩:=BY.out z hz
   rw [HAX.out] at c2
   rw [hAk.out] at c4
   rw [HKk.out] at c0
   obtain ⟨x0,x1,x2,x3,x4⟩:=feAt_belowI hxat (bch HB3.out hz) hBx
   have hcl:=fun o=>(bch HB3.out hz).cell (p:=⟨q0,o,none⟩) hq1
   obtain ⟨y0,y1,y2,y3,y4⟩:=hgat
   exact ⟨b0,b1,c0,c4,(hcl _).trans y0,(hcl _).trans y1,(hcl _).trans y2,(hcl _).trans y3,(hcl _).trans y4,c2,x0,x1,x2,x3,x4⟩)
  rw [hk5] at c0
  clear hz hRR hk1' hk8 hex hel hxat hxi hAx c2 b0 b1 c4 hgat
  go_upto_region 11 with fail
  refine wp_region_g 15 (fun z=>z.cell? ⟨w2.heap.size,0,none⟩=some (.int .i64 Wa) ∧ z.cell? ⟨w2.heap.size,1,none⟩=some (.slice A2 Ra.length cc2) ∧ z.cell? ⟨w.heap.size,0,none⟩=some (.int .i64 5) ∧ z.cell? ⟨w.heap.size,4,none⟩=some (.slice (some ⟨q0,o0,none⟩) p.kids.length f.ks.c) ∧ z.cell? ⟨q0,o0 + 5,none⟩=some (.int .i64 g1.kind) ∧ z.cell? ⟨q0,o0 + 5 + 1,none⟩=some (.int .i64 g1.table) ∧ z.cell? ⟨q0,o0 + 5 + 2,none⟩=some (.slice g1.es.A g1.es.n g1.es.c) ∧ z.cell? ⟨q0,o0 + 5 + 3,none⟩=some (.slice g1.cs.A g1.cs.n g1.cs.c) ∧ z.cell? ⟨q0,o0 + 5 + 4,none⟩=some (.slice g1.ks.A g1.ks.n g1.ks.c) ∧ z.cell? ⟨w.heap.size,2,none⟩=some (.slice (some ⟨bx,ox,none⟩) p.exprs.length f.es.c) ∧ z.cell? ⟨bx,ox,none⟩=some (.int .i64 gx.kind) ∧ z.cell? ⟨bx,ox + 1,none⟩=some (.int .i64 gx.col) ∧ z.cell? ⟨bx,ox + 2,none⟩=some (.bool gx.val.1) ∧ z.cell? ⟨bx,ox + 3,none⟩=some (.int .i64 gx.val.2) ∧ z.cell? ⟨bx,ox + 4,none⟩=some (.slice gx.sv.A gx.sv.n gx.sv.c)) (by kernel_rfl) ?_ (fun hHeld=>?_)
  ·exact SB.out _ (Below.refl _ _).drew
  rw [Hu0.out] at hHeld ⊢
  refine tkH (i:=0) rfl (by assumption) ?_
  try simp only [Act.put,sTA,sC0,sCS]
  refine tkH (i:=1) rfl (by assumption) ?_
  try simp only [Act.put,sTA,sC0,sCS]
  refine tkH (i:=2) rfl (by assumption) ?_
  try simp only [Act.put,sTA,sC0,sCS]
  refine tkH (i:=3) rfl (by assumption) ?_
  try simp only [Act.put,sTA,sC0,sCS]
  refine tkH (i:=4) rfl (by assumption) ?_
  try simp only [Act.put,sTA,sC0,sCS]
  refine tkH (i:=5) rfl (by assumption) ?_
  try simp only [Act.put,sTA,sC0,sCS]
  refine tkH (i:=7) rfl (by assumption) ?_
  try simp only [Act.put,sTA,sC0,sCS]
  refine tkH (i:=8) rfl (by assumption) ?_
  try simp only [Act.put,sTA,sC0,sCS]
  refine tkH (i:=9) rfl (by assumption) ?_
  try simp only [Act.put,sTA,sC0,sCS]
  refine tkH (i:=10) rfl (by assumption) ?_
  try simp only [Act.put,sTA,sC0,sCS]
  refine tkH (i:=11) rfl (by assumption) ?_
  try simp only [Act.put,sTA,sC0,sCS]
  refine tkH (i:=12) rfl (by assumption) ?_
  try simp only [Act.put,sTA,sC0,sCS]
  refine tkH (i:=13) rfl (by assumption) ?_
  try simp only [Act.put,sTA,sC0,sCS]
  refine rdG (i:=6) (by kernel_rfl) rfl (fun K hK=>?_)
  go_simp
  go_at_call 26
  refine (HX1.out u0 Bu0.out).mono ?_
  rintro e7 w7 ⟨A7,c7,rfl,h71,h72,h73,hb7⟩
  try dsimp only at h71 h73
  have HR7:=Lib.hid (And.intro h71 (And.intro h72 (And.intro h73 (bch Bu0.out hb7))))
  clear h71 h72 h73 hb7
  refine hK.out _ _ ?hS51 (fun hHeld=>?_)
  case hS51=>exact fun _=>SB.out _ HR7.out.2.2.2
  replace hHeld:=hHeld (by decide)
  clear hK K
  try simp only [Act.put,sTA,sC0,sCS]
  refine rdG (i:=14) (by kernel_rfl) rfl (fun K hK=>?_)
  go_simp
  go_at_call 50
  refine (HJT.out A7 c7 w7 HR7.out.2.2.2 HR7.out.2.2.1).mono ?_
  rintro e6 w6 ⟨A6,c6,rfl,h61,h62,h63,hb6⟩
  have HR6:=Lib.hid (And.intro h61 (And.intro h62 (And.intro h63 (bch HR7.out.2.2.2 hb6))))
  have HRQ:=Lib.hid (BY.out _ HR6.out.2.2.2).2.2
  clear h61 h62 h63 hb6
  refine hK.out _ _ ?hS52 (fun hHeld=>?_)
  case hS52=>exact fun _=>SB.out _ HR6.out.2.2.2
  replace hHeld:=hHeld (by decide)
  clear hK K
  try simp only [Act.put,sTA,sC0,sCS]
  refine rdG (i:=15) (by kernel_rfl) rfl (fun K hK=>?_)
  obtain ⟨q0,q1,q2,q3,q4⟩:=tbox HRQ.out
  go_simp
  refine hK.out _ _ ?hS53 (fun hHeld=>?_)
  case hS53=>exact fun h=>absurd rfl h
  clear hK K
  try simp only [Act.put,sTA,sC0,sCS]
  refine wpAnyG_done (by kernel_rfl) ?_ _
  go_wp2
  exact bodyPost_ret (v:=.agg #[.int .i64 (Wa + Wb),.slice A6 (RR).length c6]) (by simp [results,Tryz.results26,go_sem,q0,q1,q2,q3,q4]) rfl ⟨A6,c6,rfl,HR6.out.1,HR6.out.2.1,HR6.out.2.2.1.put2 HRQ.out _ _,below_put (bch HB3.out HR6.out.2.2.2) (by omega) _ _⟩
 have hk5':(p.kind == 5)=false:=by simpa using hk5
 by_cases hk6:p.kind=6
 ·have hz:=HR.out
  unfold topT rawR at hz
  rw [if_neg hk1,HKT0.out,if_neg hk3,if_neg (show ¬ (p.kind=4 ∨ p.kind=5) by omega),if_neg (show ¬ p.kind=8 by omega),if_neg hk2,if_neg hk3,if_neg (show ¬ (p.kind=4 ∨ p.kind=5) by omega),if_pos hk6] at hz
  have Hk:=Lib.hid (show p.kind=4 ∨ p.kind=5 ∨ p.kind=6 by omega)
  have hkp1:1 < p.kids.length:=by rw [nkids_two Hof.out Hk.out];omega
  have hkp1I:(1:Int) < (p.kids.length:Int):=by omega
  obtain ⟨q1',o1',g1,hA1,hq1,hgat,hg1⟩:=HK.out w (Below.refl _ _) 1 hkp1
  rw [hAk.out] at hA1
  cases hA1
  simp only [Nat.one_mul] at hgat
  have hv1:=HNK.out _ (List.getElem_mem hkp1)
  have ht1:=plT_ok HDB.out.1 e p.kids[1] hv1
  have hkw1:kidW (plW (wsDb db) e) p 1=(plT db (e + 1) p.kids[1]).1:=by unfold kidW;rw [List.getElem?_eq_getElem hkp1];exact ht1.1.symm
  have hTb:TabOk (plT db (e + 1) p.kids[1]).1 (plT db (e + 1) p.kids[1]).2:=ht1.2.tab
  have hkt1:kidT (plT db (e + 1)) p 1=plT db (e + 1) p.kids[1]:=kidT_at hkp1
  have HX1:=Lib.hid (fun (z:World) (hz:Below W3.heap.size W3 z)=>IH.out _ (List.getElem_mem hkp1) g1 A c e z (hg1.on (bch HB3.out hz)) hv1 (HD.out _ (bch HB3.out hz)) HDB.out.1 HDB.out.2)
  obtain ⟨⟨Wb,Rb⟩,hab⟩:∃ t,plT db (e + 1) p.kids[1]=t:=⟨_,rfl⟩
  rw [hab] at HX1 hTb hkw1 hkt1
  rw [hkw1] at HET
  rw [hkt1] at hz
  have HTB:=Lib.hid hTb
  unfold fpV at HX1
  have hl3:=hTb.2.2.1
  clear hab hkw1 hkt1 ht1 hv1 hg1 hTb
  have hwab:=HET.out.f6 hk6
  have hRW:Wa=RW:=(congrArg Prod.fst hz).symm
  have hRR:RR=colS (Ra ++ Rb):=congrArg Prod.snd hz
  subst hRW
  have HJT:=Lib.hid (fun (A7:Option Addr) (c7:Nat) (z:World) (hz:Below W3.heap.size W3 z) (hin:InT z A7 Rb)=>unionAll_ok Wa Wb Ra Rb A2 A7 cc2 c7 z HTA.out (by have:=HTB.out;rw [← hwab] at this;exact this) (HIN.out.on hz) hin)
  rw [← hRR] at HJT
  have SB:=Lib.hid (fun (z:World) (hz:Below W3.heap.size W3 z)=>show z.cell? ⟨w2.heap.size,0,none⟩=some (.int .i64 Wa) ∧ z.cell? ⟨w2.heap.size,1,none⟩=some (.slice A2 Ra.length cc2) ∧ z.cell? ⟨w.heap.size,4,none⟩=some (.slice (some ⟨q0,o0,none⟩) p.kids.length f.ks.c) ∧ z.cell? ⟨q0,o0 + 5,none⟩=some (.int .i64 g1.kind) ∧ z.cell? ⟨q0,o0 + 5 + 1,none⟩=some (.int .i64 g1.table) ∧ z.cell? ⟨q0,o0 + 5 + 2,none⟩=some (.slice g1.es.A g1.es.n g1.es.c) ∧ z.cell? ⟨q0,o0 + 5 + 3,none⟩=some (.slice g1.cs.A g1.cs.n g1.cs.c) ∧ z.cell? ⟨q0,o0 + 5 + 4,none⟩=some (.slice g1.ks.A g1.ks.n g1.ks.c) from by
   obtain ⟨⟨b0,b1⟩,⟨c0,_,c2,_,c4⟩,_⟩:=BY.out z hz
   rw [hAk.out] at c4
   have hcl:=fun o=>(bch HB3.out hz).cell (p:=⟨q0,o,none⟩) hq1
   obtain ⟨y0,y1,y2,y3,y4⟩:=hgat
   exact ⟨b0,b1,c4,(hcl _).trans y0,(hcl _).trans y1,(hcl _).trans y2,(hcl _).trans y3,(hcl _).trans y4⟩)
  rw [hk6] at c0
  clear hz hRR hk1' hk8 hk6 hwab c2 b0 b1 c4 hgat
  go_upto_region 13 with fail
  refine wp_region_g 8 (fun z=>z.cell? ⟨w2.heap.size,0,none⟩=some (.int .i64 Wa) ∧ z.cell? ⟨w2.heap.size,1,none⟩=some (.slice A2 Ra.length cc2) ∧ z.cell? ⟨w.heap.size,4,none⟩=some (.slice (some ⟨q0,o0,none⟩) p.kids.length f.ks.c) ∧ z.cell? ⟨q0,o0 + 5,none⟩=some (.int .i64 g1.kind) ∧ z.cell? ⟨q0,o0 + 5 + 1,none⟩=some (.int .i64 g1.table) ∧ z.cell? ⟨q0,o0 + 5 + 2,none⟩=some (.slice g1.es.A g1.es.n g1.es.c) ∧ z.cell? ⟨q0,o0 + 5 + 3,none⟩=some (.slice g1.cs.A g1.cs.n g1.cs.c) ∧ z.cell? ⟨q0,o0 + 5 + 4,none⟩=some (.slice g1.ks.A g1.ks.n g1.ks.c)) (by kernel_rfl) ?_ (fun hHeld=>?_)
  ·exact SB.out _ (Below.refl _ _).drew
  rw [Hu0.out] at hHeld ⊢
  refine tkH (i:=0) rfl (by assumption) ?_
  try simp only [Act.put,sTA,sC0,sCS]
  refine tkH (i:=1) rfl (by assumption) ?_
  try simp only [Act.put,sTA,sC0,sCS]
  refine tkH (i:=2) rfl (by assumption) ?_
  try simp only [Act.put,sTA,sC0,sCS]
  refine tkH (i:=3) rfl (by assumption) ?_
  try simp only [Act.put,sTA,sC0,sCS]
  refine tkH (i:=4) rfl (by assumption) ?_
  try simp only [Act.put,sTA,sC0,sCS]
  refine tkH (i:=5) rfl (by assumption) ?_
  try simp only [Act.put,sTA,sC0,sCS]
  refine rdG (i:=6) (by kernel_rfl) rfl (fun K hK=>?_)
  go_simp
  go_at_call 26
  refine (HX1.out u0 Bu0.out).mono ?_
  rintro e7 w7 ⟨A7,c7,rfl,h71,h72,h73,hb7⟩
  try dsimp only at h71 h73
  have HR7:=Lib.hid (And.intro h71 (And.intro h72 (And.intro h73 (bch Bu0.out hb7))))
  clear h71 h72 h73 hb7
  refine hK.out _ _ ?hS60 (fun hHeld=>?_)
  case hS60=>exact fun _=>SB.out _ HR7.out.2.2.2
  replace hHeld:=hHeld (by decide)
  clear hK K
  try simp only [Act.put,sTA,sC0,sCS]
  refine rdG (i:=7) (by kernel_rfl) rfl (fun K hK=>?_)
  go_simp
  go_at_call 51
  refine (HJT.out A7 c7 w7 HR7.out.2.2.2 HR7.out.2.2.1).mono ?_
  rintro e6 w6 ⟨A6,c6,rfl,h61,h62,h63,hb6⟩
  have HR6:=Lib.hid (And.intro h61 (And.intro h62 (And.intro h63 (bch HR7.out.2.2.2 hb6))))
  have HRQ:=Lib.hid (BY.out _ HR6.out.2.2.2).2.2
  clear h61 h62 h63 hb6
  refine hK.out _ _ ?hS61 (fun hHeld=>?_)
  case hS61=>exact fun _=>SB.out _ HR6.out.2.2.2
  replace hHeld:=hHeld (by decide)
  clear hK K
  try simp only [Act.put,sTA,sC0,sCS]
  refine rdG (i:=8) (by kernel_rfl) rfl (fun K hK=>?_)
  obtain ⟨q0,q1,q2,q3,q4⟩:=tbox HRQ.out
  go_simp
  refine hK.out _ _ ?hS62 (fun hHeld=>?_)
  case hS62=>exact fun h=>absurd rfl h
  clear hK K
  try simp only [Act.put,sTA,sC0,sCS]
  refine wpAnyG_done (by kernel_rfl) ?_ _
  go_wp2
  exact bodyPost_ret (v:=.agg #[.int .i64 (Wa),.slice A6 (RR).length c6]) (by simp [results,Tryz.results26,go_sem,q0,q1,q2,q3,q4]) rfl ⟨A6,c6,rfl,HR6.out.1,HR6.out.2.1,HR6.out.2.2.1.put2 HRQ.out _ _,below_put (bch HB3.out HR6.out.2.2.2) (by omega) _ _⟩
 have hk6':(p.kind == 6)=false:=by simpa using hk6
 by_cases hk7:p.kind=7
 ·have hz:=HR.out
  unfold topT rawR at hz
  rw [if_neg hk1,HKT0.out,if_neg hk3,if_neg (show ¬ (p.kind=4 ∨ p.kind=5) by omega),if_neg (show ¬ p.kind=8 by omega),if_neg hk2,if_neg hk3,if_neg (show ¬ (p.kind=4 ∨ p.kind=5) by omega),if_neg hk6,if_pos hk7] at hz
  have hRW:Wa=RW:=(congrArg Prod.fst hz).symm
  have hRR:RR=dedR Ra:=by have:=congrArg Prod.snd hz;rw [ded_colS HTA.out] at this;exact this
  subst hRW
  have HFT:=Lib.hid (distinctRows_ok Wa Ra A2 cc2 W3 HTA.out HIN.out)
  rw [← hRR] at HFT
  rw [hk7] at c0
  clear hz hRR hk7 hk1' hk8
  go_wp2_with fail
  refine HFT.out.mono ?_
  rintro e6 w6 ⟨A6,c6,rfl,h61,h62,h63,hb6⟩
  have HR6:=Lib.hid (And.intro h61 (And.intro h62 (And.intro h63 hb6)))
  have HRQ:=Lib.hid (BY.out _ HR6.out.2.2.2).2.2
  clear h61 h62 h63 hb6 c0 c1 c2 c3 c4 b0 b1
  obtain ⟨q0,q1,q2,q3,q4⟩:=tbox HRQ.out
  go_wp2
  exact bodyPost_ret (v:=.agg #[.int .i64 (Wa),.slice A6 (RR).length c6]) (by simp [results,Tryz.results26,go_sem,q0,q1,q2,q3,q4]) rfl ⟨A6,c6,rfl,HR6.out.1,HR6.out.2.1,HR6.out.2.2.1.put2 HRQ.out _ _,below_put (bch HB3.out HR6.out.2.2.2) (by omega) _ _⟩
 have hk7':(p.kind == 7)=false:=by simpa using hk7
 have hk8e:p.kind=8:=by omega
 have hz:=HR.out
 unfold topT rawR at hz
 rw [if_neg hk1,HKT0.out,if_neg hk3,if_neg (show ¬ (p.kind=4 ∨ p.kind=5) by omega),if_pos hk8e,if_neg hk2,if_neg hk3,if_neg (show ¬ (p.kind=4 ∨ p.kind=5) by omega),if_neg hk6,if_neg hk7] at hz
 obtain ⟨hcl,hcc⟩:=HET.out.f8 hk8e
 have hRW:RW=(p.cols.length:Int) + 1:=congrArg Prod.fst hz
 have hRR:RR=colS (srtRows p.cols 0 1 Ra):=congrArg Prod.snd hz
 have HFT:=Lib.hid (groupTable_ok Wa Ra p.cols A2 f.cs.A cc2 f.cs.c W3 HTA.out hcl hcc HIN.out (HC.out _ HB3.out))
 rw [← hRR] at HFT
 subst hRW
 clear hz hRR hk8 hk8e hcc hk1 hk2 hk3 hk4 hk5 hk6 hk7
 go_wp2_with fail
 refine HFT.out.mono ?_
 rintro e6 w6 ⟨A6,c6,rfl,h61,h62,h63,hb6⟩
 have HR6:=Lib.hid (And.intro h61 (And.intro h62 (And.intro h63 hb6)))
 have HRQ:=Lib.hid (BY.out _ HR6.out.2.2.2).2.2
 clear h61 h62 h63 hb6 c0 c1 c2 c3 c4 b0 b1
 obtain ⟨q0,q1,q2,q3,q4⟩:=tbox HRQ.out
 go_wp2
 exact bodyPost_ret (v:=.agg #[.int .i64 ((p.cols.length:Int) + 1),.slice A6 (RR).length c6]) (by simp [results,Tryz.results26,go_sem,q0,q1,q2,q3,q4]) rfl ⟨A6,c6,rfl,HR6.out.1,HR6.out.2.1,HR6.out.2.2.1.put2 HRQ.out _ _,below_put (bch HB3.out HR6.out.2.2.2) (by omega) _ _⟩
end Go.Proofs.YtcbfbgngkdiijaaGreat
