import Derived.Test.YtcbfbgngkdiijaaGreatProg
import Derived.Test.YtcbfbgngkdiijaaGreatZvCwX
import Derived.Test.YtcbfbgngkdiijaaGreatZvGc
import Derived.Test.YtcbfbgngkdiijaaGreatZvMkP
namespace Go.Proofs.YtcbfbgngkdiijaaGreat
open Go.RowKit Go.Qo
set_option linter.unusedVariables false
set_option linter.unusedSimpArgs false

def CowY (x:Pl):Prop:=∀ (f:FP) (w:World),PlB x → PlIn w w.heap.size f x →
 Calls Tryz.prog 8 #[fpV f] w fun e w'=>∃ f',e=.returned (fpV f') ∧ PlW 87 3 38 w' (fun k=>w.heap.size ≤ k) f' x ∧ Below w.heap.size w w'

set_option maxRecDepth 20000 in
set_option maxHeartbeats 2000000 in
theorem toPlanSW_of (es:List Pl) (he:∀ x ∈ es,CowY x) (hbd:∀ x ∈ es,PlB x) (A:Option Addr) (c:Nat) (w:World) (hn:es.length ≤ 1048576) (h:PlsIn w w.heap.size A es) :
 Calls Tryz.prog 29 #[.slice A es.length c] w fun e w'=>e=.returned (.slice (some ⟨w.heap.size,0,none⟩) es.length es.length) ∧ PlsW 87 3 38 w' (fun k=>w.heap.size ≤ k) ⟨some ⟨w.heap.size,0,none⟩,es.length,es.length⟩ es ∧ Below w.heap.size w w':=by
 have hmk:=run_make_rowN (P:=Tryz.prog) 36 38 _ _ _ Tryz.underlying36 zeroPlT2 .i64 .i64 es.length (by omega) (by omega)
 have HE:=Lib.hid he
 have HD:=Lib.hid hbd
 have HH:=Lib.hid h
 clear he hbd h
 go_enter Tryz.func29,Tryz.ntmps29
 go_wp2
 go_loopg [4] (es.length) (fun g i wr=>∃ (k:Nat) (gs:List FP),gs.length=es.length ∧ k ≤ es.length ∧ g=es.length - k ∧ i=.int .i64 k ∧ Below w.heap.size w wr ∧ Row wr w.heap.size 38 (filled fpC zPl gs k) ∧
  PkidsW 87 3 38 wr (fun q=>w.heap.size < q ∧ q < wr.heap.size) (gs.take k) (es.take k))
 case atStart=>
  refine ⟨0,List.replicate es.length ⟨0,0,⟨none,0,0⟩,⟨none,0,0⟩,⟨none,0,0⟩⟩,by simp,by omega,by omega,rfl,balloc (Below.refl _ _) _,?_,by rw [List.take_zero,List.take_zero,PkidsW]⟩
  refine (Row.new _ _ _).of ((made_zeros zPl es.length).trans ?_)
  have:=filled_zero fpC zPl (List.replicate es.length (⟨0,0,⟨none,0,0⟩,⟨none,0,0⟩,⟨none,0,0⟩⟩:FP))
  rw [this]
  simp
 case round=>
  obtain ⟨k,gs,hgl,hk,rfl,rfl,hb,hrow,hts⟩:=hrel
  have HB:=Lib.hid hb
  have HTs:=Lib.hid hts
  have Hrow:=Lib.hid hrow
  have Hgl:=Lib.hid hgl
  have HS0:=Lib.hid hb.size
  clear hb hts hrow hgl hmk
  by_cases hlt:k < es.length
  ·obtain ⟨b1,o1,f,hA,hB1,⟨d0,d1,d2,d3,d4⟩,hf⟩:=(HH.out.on HB.out).at_ hlt
   subst hA
   have hmem:=List.getElem_mem hlt
   have HX:=Lib.hid (HE.out _ hmem f wr (HD.out _ hmem) hf)
   unfold fpV at HX
   have hil:(k:Int) < (es.length:Int):=by omega
   have hlen:=filled_length 5 fpC fpC_length zPl rfl gs (k:=k) (by have:=Hgl.out;omega)
   have HL:=Lib.hid (show k * 5 + 4 < (filled fpC zPl gs k).length by have:=Hgl.out;omega)
   obtain ⟨v0,hv0⟩:∃ v,(filled fpC zPl gs k)[k * 5]? = some v:=⟨_,List.getElem?_eq_getElem (by have:=HL.out;omega)⟩
   have Hv0:=Lib.hid hv0
   obtain ⟨v1,hv1⟩:∃ v,(filled fpC zPl gs k)[k * 5 + 1]? = some v:=⟨_,List.getElem?_eq_getElem (by have:=HL.out;omega)⟩
   have Hv1:=Lib.hid hv1
   obtain ⟨v2,hv2⟩:∃ v,(filled fpC zPl gs k)[k * 5 + 2]? = some v:=⟨_,List.getElem?_eq_getElem (by have:=HL.out;omega)⟩
   have Hv2:=Lib.hid hv2
   obtain ⟨v3,hv3⟩:∃ v,(filled fpC zPl gs k)[k * 5 + 3]? = some v:=⟨_,List.getElem?_eq_getElem (by have:=HL.out;omega)⟩
   have Hv3:=Lib.hid hv3
   obtain ⟨v4,hv4⟩:∃ v,(filled fpC zPl gs k)[k * 5 + 4]? = some v:=⟨_,List.getElem?_eq_getElem (by have:=HL.out;omega)⟩
   have Hv4:=Lib.hid hv4
   clear hf hlen hmem hv0 hv1 hv2 hv3 hv4
   go_wp2_with fail
   refine HX.out.mono ?_
   rintro e w1 ⟨f',rfl,hx1,hb1⟩
   have hrow1:=Hrow.out.on hb1
   have e0:=(hrow1.cell (k * 5)).trans Hv0.out
   have e1:=(hrow1.cell (k * 5 + 1)).trans Hv1.out
   have e2:=(hrow1.cell (k * 5 + 2)).trans Hv2.out
   have e3:=(hrow1.cell (k * 5 + 3)).trans Hv3.out
   have e4:=(hrow1.cell (k * 5 + 4)).trans Hv4.out
   have f0:=hrow1.frozen (k * 5)
   have f1:=hrow1.frozen (k * 5 + 1)
   have f2:=hrow1.frozen (k * 5 + 2)
   have f3:=hrow1.frozen (k * 5 + 3)
   have f4:=hrow1.frozen (k * 5 + 4)
   have Hrow1:=Lib.hid hrow1
   have HB1:=Lib.hid (bch HB.out hb1)
   have HX1:=Lib.hid hx1
   have HTs1:=Lib.hid (HTs.out.keep hb1.size fun q _ hq=>hb1.block q hq)
   have HQ:=Lib.hid hb1.size
   have hsz:=Hrow.out.lt
   clear hrow1 hx1 hb1
   go_wp2
   go_roundg (es.length - (k + 1))
   case measure=>omega
   case rel=>
    have hO:=set5o w1 w.heap.size (k * 5) (.int .i64 f'.kind) (.int .i64 f'.table) (.slice f'.es.A f'.es.n f'.es.c) (.slice f'.cs.A f'.cs.n f'.cs.c) (.slice f'.ks.A f'.ks.n f'.ks.c)
    refine ⟨k + 1,gs.set k f',by rw [List.length_set];exact Hgl.out,by omega,rfl,by go_num,?_,?_,?_⟩
    ·exact Only.from_ HB1.out rfl hO (fun i hi=>by subst hi;exact Nat.le_refl _)
    ·refine (((((Hrow1.out.set _ _).set _ _).set _ _).set _ _).set _ _).of ?_
     rw [← filled_set fpC zPl gs k f']
     exact filled_next 5 fpC fpC_length zPl rfl (gs.set k f') (by rw [List.getElem?_set_self (by have:=Hgl.out;omega)])
    ·have hgk:(gs.set k f').take (k + 1)=gs.take k ++ [f']:=by
      rw [List.take_add_one,List.take_set_of_le (Nat.le_refl k),List.getElem?_set_self (by have:=Hgl.out;omega)];rfl
     have hek:es.take (k + 1)=es.take k ++ [es[k]]:=by
      rw [List.take_add_one,List.getElem?_eq_getElem hlt];rfl
     rw [hgk,hek]
     have hq:=HQ.out
     have hs0:=HS0.out
     have hh:=(HTs1.out.snoc (U:=fun q=>w.heap.size < q ∧ q < w1.heap.size) (T:=fun q=>wr.heap.size ≤ q ∧ q < w1.heap.size) (HX1.out.mono fun q hl hq=>⟨hq,hl⟩) (fun b hb=>⟨hb.1,by omega⟩) fun b hb=>⟨⟨by omega,hb.2⟩,fun h=>by omega⟩).keep hO.size fun q hq1 hq2=>hO.block q hq2 (by omega)
     exact hh.mono fun b hl hb=>⟨hb.1,hl⟩
  ·go_wp2
   go_ret
   have hke:k=es.length:=by omega
   subst hke
   have hte:es.take es.length=es:=List.take_of_length_le (Nat.le_refl _)
   have htg:gs.take es.length=gs:=List.take_of_length_le (by have:=Hgl.out;omega)
   have hts:=HTs.out
   rw [hte,htg] at hts
   have how:=Row.ow (lo:=0) fpC_length (Hrow.out.of (filled_all fpC zPl gs (by have:=Hgl.out;omega))) (Nat.zero_le _) (by have:=Hgl.out;unfold maxLen;omega)
   rw [Hgl.out] at how
   exact ⟨rfl,⟨rfl,gs,Hgl.out,how,fun b hb=>by cases hb;exact Nat.le_refl _,hts.mono fun b _ hb=>⟨by omega,fun h=>by have h':w.heap.size=b:=Option.some.inj h;omega⟩⟩,HB.out⟩

set_option maxRecDepth 20000 in
set_option maxHeartbeats 2000000 in
theorem toPlanW_ok:∀ p:Pl,CowY p:=Pl.ind fun p ih f w hB h=>by
 obtain ⟨a1,a2,⟨e1,e2,e3⟩,⟨i1,i2,i3⟩,⟨j1,j2,j3⟩,hE,hC⟩:=h.flat
 obtain ⟨⟨bE,bC,bK⟩,bEs,bKs⟩:=hB.all
 obtain ⟨W1,hW1⟩:∃ z,((w.alloc (.cells #[.int .i64 p.kind,.int .i64 p.table,.slice f.es.A p.exprs.length f.es.c,.slice f.cs.A p.cols.length f.cs.c,.slice f.ks.A p.kids.length f.ks.c] 26)).alloc (.cells #[.int .i64 0,.int .i64 0,.slice none 0 0,.slice none 0 0,.slice none 0 0] 38)).alloc (.cells #[.int .i64 0,.int .i64 0,.slice none 0 0,.slice none 0 0,.slice none 0 0] 38)=z:=⟨_,rfl⟩
 have B1:Below w.heap.size w W1:=by rw [← hW1];exact balloc (balloc (balloc (Below.refl _ _) _) _) _
 have r1:Row W1 w.heap.size 26 [.int .i64 p.kind,.int .i64 p.table,.slice f.es.A p.exprs.length f.es.c,.slice f.cs.A p.cols.length f.cs.c,.slice f.ks.A p.kids.length f.ks.c]:=by rw [← hW1];exact (Row.first _ _ _ _).alloc _
 have r2:Row W1 (w.heap.size + 1) 38 [.int .i64 0,.int .i64 0,.slice none 0 0,.slice none 0 0,.slice none 0 0]:=by rw [← hW1];exact (Row.second _ _ _ _).alloc _
 have r3:Row W1 (w.heap.size + 1 + 1) 38 [.int .i64 0,.int .i64 0,.slice none 0 0,.slice none 0 0,.slice none 0 0]:=by rw [← hW1];exact Row.third _ _ _ _ _
 have HW1:=Lib.hid hW1
 obtain ⟨W2,hW2⟩:∃ z,((W1.setCell ⟨w.heap.size + 1 + 1,0,none⟩ (.int .i64 p.kind)).setCell ⟨w.heap.size + 1 + 1,1,none⟩ (.int .i64 p.table))=z:=⟨_,rfl⟩
 have s1:Row W2 w.heap.size 26 [.int .i64 p.kind,.int .i64 p.table,.slice f.es.A p.exprs.length f.es.c,.slice f.cs.A p.cols.length f.cs.c,.slice f.ks.A p.kids.length f.ks.c]:=by rw [← hW2];exact ((r1.far (p:=⟨w.heap.size + 1 + 1,0,none⟩) (by show w.heap.size ≠ w.heap.size + 1 + 1;omega) _).far (p:=⟨w.heap.size + 1 + 1,1,none⟩) (by show w.heap.size ≠ w.heap.size + 1 + 1;omega) _)
 have s2:Row W2 (w.heap.size + 1) 38 [.int .i64 0,.int .i64 0,.slice none 0 0,.slice none 0 0,.slice none 0 0]:=by rw [← hW2];exact ((r2.far (p:=⟨w.heap.size + 1 + 1,0,none⟩) (by show w.heap.size + 1 ≠ w.heap.size + 1 + 1;omega) _).far (p:=⟨w.heap.size + 1 + 1,1,none⟩) (by show w.heap.size + 1 ≠ w.heap.size + 1 + 1;omega) _)
 have s3:Row W2 (w.heap.size + 1 + 1) 38 [.int .i64 p.kind,.int .i64 p.table,.slice none 0 0,.slice none 0 0,.slice none 0 0]:=by rw [← hW2];exact ((r3.set 0 _).set 1 _)
 have B2:Below w.heap.size w W2:=by rw [← hW2];exact (B1.setCell (p:=⟨w.heap.size + 1 + 1,0,none⟩) (by show w.heap.size ≤ w.heap.size + 1 + 1;omega) _).setCell (p:=⟨w.heap.size + 1 + 1,1,none⟩) (by show w.heap.size ≤ w.heap.size + 1 + 1;omega) _
 have c0:=r1.cell 0
 have c1:=r1.cell 1
 have o0:=r3.cell 0
 have o1:=r3.cell 1
 have p0:=r3.frozen 0
 have p1:=r3.frozen 1
 have l1:=r1.lt
 have l3:=r3.lt
 have HW2:=Lib.hid hW2
 have HB2:=Lib.hid B2
 have HS1:=Lib.hid s1
 have HS2:=Lib.hid s2
 have HS3:=Lib.hid s3
 have KE:=Lib.hid hE
 have KC:=Lib.hid hC
 have KK:=Lib.hid (plKids_in h)
 have IE:=Lib.hid (fun (z:World) hz=>toExprSW_of p.exprs (fun y _=>toExprW_ok y) bEs f.es.A f.es.c z bE hz)
 have IC:=Lib.hid (fun (z:World) hz=>toIntS_ok f.cs.A f.cs.c p.cols z bC hz)
 have IK:=Lib.hid (fun (z:World) hz=>toPlanSW_of p.kids ih bKs f.ks.A f.ks.c z bK hz)
 unfold fpV
 rw [a1,a2,e1,i1,j1]
 clear hW1 hW2 s1 s2 s3 B2 B1 r1 r2 r3 h ih hB hE hC a1 a2 e1 e2 e3 i1 i2 i3 j1 j2 j3 bEs bKs
 go_enter Tryz.func8,Tryz.ntmps8
 go_upto_region 2 with fail
 rw [HW1.out]
 go_upto_region 4 with fail
 rw [HW2.out]
 clear c0 c1 o0 o1 p0 p1 l1 l3
 have ck:=HS1.out.cell 2
 go_wp2_with fail
 refine (IE.out W2 (KE.out.on HB2.out)).mono ?_
 rintro e w3 ⟨rfl,hx,hb⟩
 have s3:=HS3.out.on hb
 have H1:=Lib.hid (HS1.out.on hb)
 have H2:=Lib.hid (HS2.out.on hb)
 have H3:=Lib.hid s3
 have HLx2:=Lib.hid HS3.out.lt
 have HB3:=Lib.hid (bch HB2.out hb)
 have T2:=Lib.hid (hx.carry (w':=w3) (T:=fun q=>W2.heap.size ≤ q ∧ q < w3.heap.size) (fun b hl hb=>⟨hb,hl⟩) fun _ _ _=>rfl)
 have Z2:=Lib.hid hb.size
 clear hx
 have ov:=s3.cell 2
 have pv:=s3.frozen 2
 have l3:=s3.lt
 clear hb s3 ck HS1 HS2 HS3
 obtain ⟨W4,hW4⟩:∃ z,w3.setCell ⟨w.heap.size + 1 + 1,2,none⟩ (.slice (some ⟨W2.heap.size,0,none⟩) p.exprs.length p.exprs.length)=z:=⟨_,rfl⟩
 have O6:Only (fun k=>k=w.heap.size + 1 + 1) w3 W4:=by rw [← hW4];exact (Only.refl (S:=fun k=>k=w.heap.size + 1 + 1) w3).set (p:=⟨w.heap.size + 1 + 1,2,none⟩) (.inl rfl) _
 have HS1:=Lib.hid (show Row W4 w.heap.size 26 [.int .i64 p.kind,.int .i64 p.table,.slice f.es.A p.exprs.length f.es.c,.slice f.cs.A p.cols.length f.cs.c,.slice f.ks.A p.kids.length f.ks.c] by rw [← hW4];exact H1.out.far (p:=⟨w.heap.size + 1 + 1,2,none⟩) (by show w.heap.size ≠ w.heap.size + 1 + 1;omega) _)
 have HS2:=Lib.hid (show Row W4 (w.heap.size + 1) 38 [.int .i64 0,.int .i64 0,.slice none 0 0,.slice none 0 0,.slice none 0 0] by rw [← hW4];exact H2.out.far (p:=⟨w.heap.size + 1 + 1,2,none⟩) (by show w.heap.size + 1 ≠ w.heap.size + 1 + 1;omega) _)
 have HS3:=Lib.hid (show Row W4 (w.heap.size + 1 + 1) 38 [.int .i64 p.kind,.int .i64 p.table,.slice (some ⟨W2.heap.size,0,none⟩) p.exprs.length p.exprs.length,.slice none 0 0,.slice none 0 0] by rw [← hW4];exact H3.out.set 2 _)
 have HB4:=Lib.hid (Only.from_ HB3.out rfl O6 (fun i hi=>by omega))
 have T2:=Lib.hid (T2.out.carry (w':=_) (T:=_) (fun _ _ h=>h) fun q hq hl=>O6.block q hl (by have:=HLx2.out;have:=hq.1;omega))
 have Y4:=Lib.hid O6.size
 have HW4:=Lib.hid hW4
 clear hW4 O6 H1 H2 H3
 go_upto_region 5 with fail
 rw [HW4.out]
 clear ov pv l3
 have ck:=HS1.out.cell 3
 go_wp2_with fail
 refine (IC.out W4 (KC.out.on HB4.out)).mono ?_
 rintro e w5 ⟨rfl,hb,hx⟩
 have s3:=HS3.out.on hb
 have H1:=Lib.hid (HS1.out.on hb)
 have H2:=Lib.hid (HS2.out.on hb)
 have H3:=Lib.hid s3
 have HLx3:=Lib.hid HS3.out.lt
 have HB5:=Lib.hid (bch HB4.out hb)
 have T2:=Lib.hid (T2.out.carry (w':=_) (T:=_) (fun _ _ h=>h) fun q _ hq=>hb.block q hq)
 have T3:=Lib.hid (show IntW 3 w5 (fun q=>W4.heap.size ≤ q ∧ q < w5.heap.size) ⟨some ⟨W4.heap.size,0,none⟩,p.cols.length,p.cols.length⟩ p.cols from ⟨rfl,Row.ow intC_length hx (Nat.zero_le _) (by unfold maxLen;omega),fun b hb=>by cases hb;exact ⟨Nat.le_refl _,hx.lt⟩⟩)
 have Z3:=Lib.hid hb.size
 clear hx
 have ov:=s3.cell 3
 have pv:=s3.frozen 3
 have l3:=s3.lt
 clear hb s3 ck HS1 HS2 HS3
 obtain ⟨W6,hW6⟩:∃ z,w5.setCell ⟨w.heap.size + 1 + 1,3,none⟩ (.slice (some ⟨W4.heap.size,0,none⟩) p.cols.length p.cols.length)=z:=⟨_,rfl⟩
 have O6:Only (fun k=>k=w.heap.size + 1 + 1) w5 W6:=by rw [← hW6];exact (Only.refl (S:=fun k=>k=w.heap.size + 1 + 1) w5).set (p:=⟨w.heap.size + 1 + 1,3,none⟩) (.inl rfl) _
 have HS1:=Lib.hid (show Row W6 w.heap.size 26 [.int .i64 p.kind,.int .i64 p.table,.slice f.es.A p.exprs.length f.es.c,.slice f.cs.A p.cols.length f.cs.c,.slice f.ks.A p.kids.length f.ks.c] by rw [← hW6];exact H1.out.far (p:=⟨w.heap.size + 1 + 1,3,none⟩) (by show w.heap.size ≠ w.heap.size + 1 + 1;omega) _)
 have HS2:=Lib.hid (show Row W6 (w.heap.size + 1) 38 [.int .i64 0,.int .i64 0,.slice none 0 0,.slice none 0 0,.slice none 0 0] by rw [← hW6];exact H2.out.far (p:=⟨w.heap.size + 1 + 1,3,none⟩) (by show w.heap.size + 1 ≠ w.heap.size + 1 + 1;omega) _)
 have HS3:=Lib.hid (show Row W6 (w.heap.size + 1 + 1) 38 [.int .i64 p.kind,.int .i64 p.table,.slice (some ⟨W2.heap.size,0,none⟩) p.exprs.length p.exprs.length,.slice (some ⟨W4.heap.size,0,none⟩) p.cols.length p.cols.length,.slice none 0 0] by rw [← hW6];exact H3.out.set 3 _)
 have HB6:=Lib.hid (Only.from_ HB5.out rfl O6 (fun i hi=>by omega))
 have T2:=Lib.hid (T2.out.carry (w':=_) (T:=_) (fun _ _ h=>h) fun q hq hl=>O6.block q hl (by have:=HLx2.out;have:=hq.1;omega))
 have T3:=Lib.hid (T3.out.carry (w':=_) (T:=_) (fun _ _ h=>h) fun q hq hl=>O6.block q hl (by have:=HLx3.out;have:=hq.1;omega))
 have Y6:=Lib.hid O6.size
 have HW6:=Lib.hid hW6
 clear hW6 O6 H1 H2 H3
 go_upto_region 6 with fail
 rw [HW6.out]
 clear ov pv l3
 have ck:=HS1.out.cell 4
 go_wp2_with fail
 refine (IK.out W6 (KK.out.on HB6.out)).mono ?_
 rintro e w7 ⟨rfl,hx,hb⟩
 have s3:=HS3.out.on hb
 have H1:=Lib.hid (HS1.out.on hb)
 have H2:=Lib.hid (HS2.out.on hb)
 have H3:=Lib.hid s3
 have HLx4:=Lib.hid HS3.out.lt
 have HB7:=Lib.hid (bch HB6.out hb)
 have T2:=Lib.hid (T2.out.carry (w':=_) (T:=_) (fun _ _ h=>h) fun q _ hq=>hb.block q hq)
 have T3:=Lib.hid (T3.out.carry (w':=_) (T:=_) (fun _ _ h=>h) fun q _ hq=>hb.block q hq)
 have T4:=Lib.hid hx
 clear hx
 have ov:=s3.cell 4
 have pv:=s3.frozen 4
 have l3:=s3.lt
 clear hb s3 ck HS1 HS2 HS3
 obtain ⟨W8,hW8⟩:∃ z,w7.setCell ⟨w.heap.size + 1 + 1,4,none⟩ (.slice (some ⟨W6.heap.size,0,none⟩) p.kids.length p.kids.length)=z:=⟨_,rfl⟩
 have O6:Only (fun k=>k=w.heap.size + 1 + 1) w7 W8:=by rw [← hW8];exact (Only.refl (S:=fun k=>k=w.heap.size + 1 + 1) w7).set (p:=⟨w.heap.size + 1 + 1,4,none⟩) (.inl rfl) _
 have HS1:=Lib.hid (show Row W8 w.heap.size 26 [.int .i64 p.kind,.int .i64 p.table,.slice f.es.A p.exprs.length f.es.c,.slice f.cs.A p.cols.length f.cs.c,.slice f.ks.A p.kids.length f.ks.c] by rw [← hW8];exact H1.out.far (p:=⟨w.heap.size + 1 + 1,4,none⟩) (by show w.heap.size ≠ w.heap.size + 1 + 1;omega) _)
 have HS2:=Lib.hid (show Row W8 (w.heap.size + 1) 38 [.int .i64 0,.int .i64 0,.slice none 0 0,.slice none 0 0,.slice none 0 0] by rw [← hW8];exact H2.out.far (p:=⟨w.heap.size + 1 + 1,4,none⟩) (by show w.heap.size + 1 ≠ w.heap.size + 1 + 1;omega) _)
 have HS3:=Lib.hid (show Row W8 (w.heap.size + 1 + 1) 38 [.int .i64 p.kind,.int .i64 p.table,.slice (some ⟨W2.heap.size,0,none⟩) p.exprs.length p.exprs.length,.slice (some ⟨W4.heap.size,0,none⟩) p.cols.length p.cols.length,.slice (some ⟨W6.heap.size,0,none⟩) p.kids.length p.kids.length] by rw [← hW8];exact H3.out.set 4 _)
 have HB8:=Lib.hid (Only.from_ HB7.out rfl O6 (fun i hi=>by omega))
 have T2:=Lib.hid (T2.out.carry (w':=_) (T:=_) (fun _ _ h=>h) fun q hq hl=>O6.block q hl (by have:=HLx2.out;have:=hq.1;omega))
 have T3:=Lib.hid (T3.out.carry (w':=_) (T:=_) (fun _ _ h=>h) fun q hq hl=>O6.block q hl (by have:=HLx3.out;have:=hq.1;omega))
 have T4:=Lib.hid (T4.out.keep O6.size fun q hq hl=>O6.block q hl (by have:=HLx4.out;have:W6.heap.size ≤ q:=hq;omega))
 have HW8:=Lib.hid hW8
 clear hW8 O6 H1 H2 H3
 go_upto_region 7 with fail
 rw [HW8.out]
 clear ov pv l3
 have c0:=HS3.out.cell 0
 have c1:=HS3.out.cell 1
 have c2:=HS3.out.cell 2
 have c3:=HS3.out.cell 3
 have c4:=HS3.out.cell 4
 have e0:=HS2.out.cell 0
 have e1:=HS2.out.cell 1
 have e2:=HS2.out.cell 2
 have e3:=HS2.out.cell 3
 have e4:=HS2.out.cell 4
 have q0:=HS2.out.frozen 0
 have q1:=HS2.out.frozen 1
 have q2:=HS2.out.frozen 2
 have q3:=HS2.out.frozen 3
 have q4:=HS2.out.frozen 4
 have l2:=HS2.out.lt
 go_wp2
 refine bodyPost_ret (v:=fpV ⟨p.kind,p.table,⟨some ⟨W2.heap.size,0,none⟩,p.exprs.length,p.exprs.length⟩,⟨some ⟨W4.heap.size,0,none⟩,p.cols.length,p.cols.length⟩,⟨some ⟨W6.heap.size,0,none⟩,p.kids.length,p.kids.length⟩⟩) (by simp [results,Tryz.results8,go_sem,fpV,e0,e1,e2,e3,e4]) rfl ⟨_,rfl,?_,?_⟩
 ·have hO:=set5o W8 (w.heap.size + 1) 0 (.int .i64 p.kind) (.int .i64 p.table) (.slice (some ⟨W2.heap.size,0,none⟩) p.exprs.length p.exprs.length) (.slice (some ⟨W4.heap.size,0,none⟩) p.cols.length p.cols.length) (.slice (some ⟨W6.heap.size,0,none⟩) p.kids.length p.kids.length)
  have t2:=T2.out.carry (w':=_) (T:=_) (fun _ _ h=>h) fun b hb hl=>hO.block b hl (by have:=HLx2.out;have:=hb.1;omega)
  have t3:=T3.out.carry (w':=_) (T:=_) (fun _ _ h=>h) fun b hb hl=>hO.block b hl (by have:=HLx3.out;have:=hb.1;omega)
  have t4:=T4.out.keep hO.size fun b hb hl=>hO.block b hl (by have:=HLx4.out;have:W6.heap.size ≤ b:=hb;omega)
  have z2:=Z2.out
  have z3:=Z3.out
  have y4:=Y4.out
  have y6:=Y6.out
  have x2:=HLx2.out
  exact plW_iff.2 ⟨rfl,rfl,_,_,_,⟨fun b hb=>by have:=hb.1;show w.heap.size ≤ b;omega,fun b hb=>by have:=hb.1;show w.heap.size ≤ b;omega,fun b hb=>by have:W6.heap.size ≤ b:=hb;show w.heap.size ≤ b;omega⟩,
   ⟨fun b hb hc=>by have:=hb.2;have:=hc.1;omega,fun b hb hc=>by have:=hb.2;have:W6.heap.size ≤ b:=hc;omega,fun b hb hc=>by have:=hb.2;have:W6.heap.size ≤ b:=hc;omega⟩,t2,t3,t4.1,t4.2⟩
 ·have hO:=set5o W8 (w.heap.size + 1) 0 (.int .i64 p.kind) (.int .i64 p.table) (.slice (some ⟨W2.heap.size,0,none⟩) p.exprs.length p.exprs.length) (.slice (some ⟨W4.heap.size,0,none⟩) p.cols.length p.cols.length) (.slice (some ⟨W6.heap.size,0,none⟩) p.kids.length p.kids.length)
  exact Only.from_ HB8.out rfl hO (fun i hi=>by omega)
end Go.Proofs.YtcbfbgngkdiijaaGreat
