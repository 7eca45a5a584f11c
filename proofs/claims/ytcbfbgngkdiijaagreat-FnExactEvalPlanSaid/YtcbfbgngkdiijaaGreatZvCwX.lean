import Derived.Test.YtcbfbgngkdiijaaGreatProg
import Derived.Test.YtcbfbgngkdiijaaGreatZvGc
import Derived.Test.YtcbfbgngkdiijaaGreatZvPlW
import Derived.Test.YtcbfbgngkdiijaaGreatZvMkg
namespace Go.Proofs.YtcbfbgngkdiijaaGreat
open Go.RowKit Go.Qo
set_option linter.unusedVariables false
set_option linter.unusedSimpArgs false

def CowX (x:Ex):Prop:=∀ (f:FE) (w:World),ExB x → ExIn w w.heap.size f x →
 Calls Tryz.prog 54 #[feV f] w fun e w'=>∃ f',e=.returned (feV f') ∧ ExW 87 w' (fun k=>w.heap.size ≤ k) f' x ∧ Below w.heap.size w w'

set_option maxRecDepth 20000 in
set_option maxHeartbeats 2000000 in
theorem toExprSW_of (es:List Ex) (he:∀ x ∈ es,CowX x) (hbd:∀ x ∈ es,ExB x) (A:Option Addr) (c:Nat) (w:World) (hn:es.length ≤ 1048576) (h:ExsIn w w.heap.size A es) :
 Calls Tryz.prog 27 #[.slice A es.length c] w fun e w'=>e=.returned (.slice (some ⟨w.heap.size,0,none⟩) es.length es.length) ∧ ExsW 87 w' (fun k=>w.heap.size ≤ k) ⟨some ⟨w.heap.size,0,none⟩,es.length,es.length⟩ es ∧ Below w.heap.size w w':=by
 have hmk:=run_make_rowN (P:=Tryz.prog) 35 87 _ _ _ Tryz.underlying35 zeroExT2 .i64 .i64 es.length (by omega) (by omega)
 have HE:=Lib.hid he
 have HD:=Lib.hid hbd
 have HH:=Lib.hid h
 clear he hbd h
 go_enter Tryz.func27,Tryz.ntmps27
 go_wp2
 go_loopg [4] (es.length) (fun g i wr=>∃ (k:Nat) (gs:List FE),gs.length=es.length ∧ k ≤ es.length ∧ g=es.length - k ∧ i=.int .i64 k ∧ Below w.heap.size w wr ∧ Row wr w.heap.size 87 (filled feC zEx gs k) ∧
  KidsW 87 wr (fun q=>w.heap.size < q ∧ q < wr.heap.size) (gs.take k) (es.take k))
 case atStart=>
  refine ⟨0,List.replicate es.length ⟨0,0,(false,0),⟨none,0,0⟩⟩,by simp,by omega,by omega,rfl,balloc (Below.refl _ _) _,?_,by rw [List.take_zero,List.take_zero,KidsW]⟩
  refine (Row.new _ _ _).of ((made_zeros zEx es.length).trans ?_)
  have:=filled_zero feC zEx (List.replicate es.length (⟨0,0,(false,0),⟨none,0,0⟩⟩:FE))
  rw [this]
  simp
 case round=>
  obtain ⟨k,gs,hgl,hk,rfl,rfl,hb,hrow,hts⟩:=hrel
  have HB:=Lib.hid hb
  have HTs:=Lib.hid hts
  have Hrow:=Lib.hid hrow
  have Hgl:=Lib.hid hgl
  have HS0:=Lib.hid hb.size
  clear hb hts hrow hgl hmk
  by_cases hlt:k < es.length
  ·obtain ⟨b1,o1,f,hA,hB1,⟨d0,d1,d2,d3,d4⟩,hf⟩:=(HH.out.on HB.out).at_ hlt
   subst hA
   have hmem:=List.getElem_mem hlt
   have HX:=Lib.hid (HE.out _ hmem f wr (HD.out _ hmem) hf)
   unfold feV at HX
   have hil:(k:Int) < (es.length:Int):=by omega
   have hlen:=filled_length 5 feC feC_length zEx rfl gs (k:=k) (by have:=Hgl.out;omega)
   have HL:=Lib.hid (show k * 5 + 4 < (filled feC zEx gs k).length by have:=Hgl.out;omega)
   obtain ⟨v0,hv0⟩:∃ v,(filled feC zEx gs k)[k * 5]? = some v:=⟨_,List.getElem?_eq_getElem (by have:=HL.out;omega)⟩
   have Hv0:=Lib.hid hv0
   obtain ⟨v1,hv1⟩:∃ v,(filled feC zEx gs k)[k * 5 + 1]? = some v:=⟨_,List.getElem?_eq_getElem (by have:=HL.out;omega)⟩
   have Hv1:=Lib.hid hv1
   obtain ⟨v2,hv2⟩:∃ v,(filled feC zEx gs k)[k * 5 + 2]? = some v:=⟨_,List.getElem?_eq_getElem (by have:=HL.out;omega)⟩
   have Hv2:=Lib.hid hv2
   obtain ⟨v3,hv3⟩:∃ v,(filled feC zEx gs k)[k * 5 + 3]? = some v:=⟨_,List.getElem?_eq_getElem (by have:=HL.out;omega)⟩
   have Hv3:=Lib.hid hv3
   obtain ⟨v4,hv4⟩:∃ v,(filled feC zEx gs k)[k * 5 + 4]? = some v:=⟨_,List.getElem?_eq_getElem (by have:=HL.out;omega)⟩
   have Hv4:=Lib.hid hv4
   clear hf hlen hmem hv0 hv1 hv2 hv3 hv4
   go_wp2_with fail
   refine HX.out.mono ?_
   rintro e w1 ⟨f',rfl,hx1,hb1⟩
   have hrow1:=Hrow.out.on hb1
   have e0:=(hrow1.cell (k * 5)).trans Hv0.out
   have e1:=(hrow1.cell (k * 5 + 1)).trans Hv1.out
   have e2:=(hrow1.cell (k * 5 + 2)).trans Hv2.out
   have e3:=(hrow1.cell (k * 5 + 3)).trans Hv3.out
   have e4:=(hrow1.cell (k * 5 + 4)).trans Hv4.out
   have f0:=hrow1.frozen (k * 5)
   have f1:=hrow1.frozen (k * 5 + 1)
   have f2:=hrow1.frozen (k * 5 + 2)
   have f3:=hrow1.frozen (k * 5 + 3)
   have f4:=hrow1.frozen (k * 5 + 4)
   have Hrow1:=Lib.hid hrow1
   have HB1:=Lib.hid (bch HB.out hb1)
   have HX1:=Lib.hid hx1
   have HTs1:=Lib.hid (HTs.out.keep hb1.size fun q _ hq=>hb1.block q hq)
   have HQ:=Lib.hid hb1.size
   have hsz:=Hrow.out.lt
   clear hrow1 hx1 hb1
   go_wp2
   go_roundg (es.length - (k + 1))
   case measure=>omega
   case rel=>
    have hO:=set5o w1 w.heap.size (k * 5) (.int .i64 f'.kind) (.int .i64 f'.col) (.bool f'.val.1) (.int .i64 f'.val.2) (.slice f'.sv.A f'.sv.n f'.sv.c)
    refine ⟨k + 1,gs.set k f',by rw [List.length_set];exact Hgl.out,by omega,rfl,by go_num,?_,?_,?_⟩
    ·exact Only.from_ HB1.out rfl hO (fun i hi=>by subst hi;exact Nat.le_refl _)
    ·refine (((((Hrow1.out.set _ _).set _ _).set _ _).set _ _).set _ _).of ?_
     rw [← filled_set feC zEx gs k f']
     exact filled_next 5 feC feC_length zEx rfl (gs.set k f') (by rw [List.getElem?_set_self (by have:=Hgl.out;omega)])
    ·have hgk:(gs.set k f').take (k + 1)=gs.take k ++ [f']:=by
      rw [List.take_add_one,List.take_set_of_le (Nat.le_refl k),List.getElem?_set_self (by have:=Hgl.out;omega)];rfl
     have hek:es.take (k + 1)=es.take k ++ [es[k]]:=by
      rw [List.take_add_one,List.getElem?_eq_getElem hlt];rfl
     rw [hgk,hek]
     have hq:=HQ.out
     have hs0:=HS0.out
     have hh:=(HTs1.out.snoc (U:=fun q=>w.heap.size < q ∧ q < w1.heap.size) (T:=fun q=>wr.heap.size ≤ q ∧ q < w1.heap.size) (HX1.out.mono fun q hl hq=>⟨hq,hl⟩) (fun b hb=>⟨hb.1,by omega⟩) fun b hb=>⟨⟨by omega,hb.2⟩,fun h=>by omega⟩).keep hO.size fun q hq1 hq2=>hO.block q hq2 (by omega)
     exact hh.mono fun b hl hb=>⟨hb.1,hl⟩
  ·go_wp2
   go_ret
   have hke:k=es.length:=by omega
   subst hke
   have hte:es.take es.length=es:=List.take_of_length_le (Nat.le_refl _)
   have htg:gs.take es.length=gs:=List.take_of_length_le (by have:=Hgl.out;omega)
   have hts:=HTs.out
   rw [hte,htg] at hts
   have how:=Row.ow (lo:=0) feC_length (Hrow.out.of (filled_all feC zEx gs (by have:=Hgl.out;omega))) (Nat.zero_le _) (by have:=Hgl.out;unfold maxLen;omega)
   rw [Hgl.out] at how
   exact ⟨rfl,⟨rfl,gs,Hgl.out,how,fun b hb=>by cases hb;exact Nat.le_refl _,hts.mono fun b _ hb=>⟨by omega,fun h=>by have h':w.heap.size=b:=Option.some.inj h;omega⟩⟩,HB.out⟩

set_option maxRecDepth 20000 in
set_option maxHeartbeats 2000000 in
theorem toExprW_ok:∀ x:Ex,CowX x:=Ex.ind fun x ih f w hB h=>by
 obtain ⟨a1,a2,a3,a4,a5,a6⟩:=h.flat
 have hkl:=hB.len
 obtain ⟨W1,hW1⟩:∃ z,((w.alloc (.cells #[.int .i64 x.kind,.int .i64 x.col,.bool x.val.1,.int .i64 x.val.2,.slice f.sv.A x.kids.length f.sv.c] 78)).alloc (.cells #[.int .i64 0,.int .i64 0,.bool false,.int .i64 0,.slice none 0 0] 87)).alloc (.cells #[.int .i64 0,.int .i64 0,.bool false,.int .i64 0,.slice none 0 0] 87)=z:=⟨_,rfl⟩
 have B1:Below w.heap.size w W1:=by rw [← hW1];exact balloc (balloc (balloc (Below.refl _ _) _) _) _
 have hs1:W1.heap.size=w.heap.size + 3:=by rw [← hW1];simp
 have r1:Row W1 w.heap.size 78 [.int .i64 x.kind,.int .i64 x.col,.bool x.val.1,.int .i64 x.val.2,.slice f.sv.A x.kids.length f.sv.c]:=by rw [← hW1];exact (Row.first _ _ _ _).alloc _
 have r2:Row W1 (w.heap.size + 1) 87 [.int .i64 0,.int .i64 0,.bool false,.int .i64 0,.slice none 0 0]:=by rw [← hW1];exact (Row.second _ _ _ _).alloc _
 have r3:Row W1 (w.heap.size + 1 + 1) 87 [.int .i64 0,.int .i64 0,.bool false,.int .i64 0,.slice none 0 0]:=by rw [← hW1];exact Row.third _ _ _ _ _
 have HW1:=Lib.hid hW1
 have HB1:=Lib.hid B1
 obtain ⟨W2,hW2⟩:∃ z,(W1.setCell ⟨w.heap.size + 1 + 1,0,none⟩ (.int .i64 x.kind)).setCell ⟨w.heap.size + 1 + 1,1,none⟩ (.int .i64 x.col)=z:=⟨_,rfl⟩
 have s1:Row W2 w.heap.size 78 [.int .i64 x.kind,.int .i64 x.col,.bool x.val.1,.int .i64 x.val.2,.slice f.sv.A x.kids.length f.sv.c]:=by rw [← hW2];exact (r1.far (p:=⟨w.heap.size + 1 + 1,0,none⟩) (by show w.heap.size ≠ w.heap.size + 1 + 1;omega) _).far (p:=⟨w.heap.size + 1 + 1,1,none⟩) (by show w.heap.size ≠ w.heap.size + 1 + 1;omega) _
 have s2:Row W2 (w.heap.size + 1) 87 [.int .i64 0,.int .i64 0,.bool false,.int .i64 0,.slice none 0 0]:=by rw [← hW2];exact (r2.far (p:=⟨w.heap.size + 1 + 1,0,none⟩) (by show w.heap.size + 1 ≠ w.heap.size + 1 + 1;omega) _).far (p:=⟨w.heap.size + 1 + 1,1,none⟩) (by show w.heap.size + 1 ≠ w.heap.size + 1 + 1;omega) _
 have s3:Row W2 (w.heap.size + 1 + 1) 87 [.int .i64 x.kind,.int .i64 x.col,.bool false,.int .i64 0,.slice none 0 0]:=by rw [← hW2];exact (r3.set 0 _).set 1 _
 have B2:Below w.heap.size w W2:=by rw [← hW2];exact (B1.setCell (p:=⟨w.heap.size + 1 + 1,0,none⟩) (by show w.heap.size ≤ w.heap.size + 1 + 1;omega) _).setCell (p:=⟨w.heap.size + 1 + 1,1,none⟩) (by show w.heap.size ≤ w.heap.size + 1 + 1;omega) _
 have c0:=r1.cell 0
 have c1:=r1.cell 1
 have o0:=r3.cell 0
 have o1:=r3.cell 1
 have p0:=r3.frozen 0
 have p1:=r3.frozen 1
 have l1:=r1.lt
 have l3:=r3.lt
 have HW2:=Lib.hid hW2
 have HB2:=Lib.hid B2
 have HS1:=Lib.hid s1
 have HS2:=Lib.hid s2
 have HS3:=Lib.hid s3
 have HK:=Lib.hid h.kids_in
 have HI:=Lib.hid (fun (z:World) hz=>toExprSW_of x.kids ih (fun y hy=>hB.kid hy) f.sv.A f.sv.c z hkl hz)
 unfold feV
 rw [a1,a2,a3,a4]
 clear hW1 hs1 hW2 s1 s2 s3 B2 B1 r1 r2 r3 h ih hB a1 a2 a3 a4 a5 a6
 go_enter Tryz.func54,Tryz.ntmps54
 go_upto_region 2 with fail
 rw [HW1.out]
 go_upto_region 4 with fail
 rw [HW2.out]
 clear c0 c1 o0 o1 p0 p1 l1 l3
 have c2:=HS1.out.cell 2
 have c3:=HS1.out.cell 3
 go_wp2_with fail
 refine (toValue_ok x.val W2).mono ?_
 rintro e w3 ⟨rfl,hb3⟩
 have s3:=HS3.out.on hb3
 have H1:=Lib.hid (HS1.out.on hb3)
 have H2:=Lib.hid (HS2.out.on hb3)
 have H3:=Lib.hid s3
 have HB3:=Lib.hid (bch HB2.out hb3)
 have o2:=s3.cell 2
 have o3:=s3.cell 3
 have p2:=s3.frozen 2
 have p3:=s3.frozen 3
 have l3:=s3.lt
 clear hb3 s3 c2 c3 HS1 HS2 HS3
 obtain ⟨W4,hW4⟩:∃ z,(w3.setCell ⟨w.heap.size + 1 + 1,2,none⟩ (.bool x.val.1)).setCell ⟨w.heap.size + 1 + 1,3,none⟩ (.int .i64 x.val.2)=z:=⟨_,rfl⟩
 have s1:Row W4 w.heap.size 78 [.int .i64 x.kind,.int .i64 x.col,.bool x.val.1,.int .i64 x.val.2,.slice f.sv.A x.kids.length f.sv.c]:=by rw [← hW4];exact (H1.out.far (p:=⟨w.heap.size + 1 + 1,2,none⟩) (by show w.heap.size ≠ w.heap.size + 1 + 1;omega) _).far (p:=⟨w.heap.size + 1 + 1,3,none⟩) (by show w.heap.size ≠ w.heap.size + 1 + 1;omega) _
 have s2:Row W4 (w.heap.size + 1) 87 [.int .i64 0,.int .i64 0,.bool false,.int .i64 0,.slice none 0 0]:=by rw [← hW4];exact (H2.out.far (p:=⟨w.heap.size + 1 + 1,2,none⟩) (by show w.heap.size + 1 ≠ w.heap.size + 1 + 1;omega) _).far (p:=⟨w.heap.size + 1 + 1,3,none⟩) (by show w.heap.size + 1 ≠ w.heap.size + 1 + 1;omega) _
 have s3:Row W4 (w.heap.size + 1 + 1) 87 [.int .i64 x.kind,.int .i64 x.col,.bool x.val.1,.int .i64 x.val.2,.slice none 0 0]:=by rw [← hW4];exact (H3.out.set 2 _).set 3 _
 have B4:Below w.heap.size w W4:=by rw [← hW4];exact (HB3.out.setCell (p:=⟨w.heap.size + 1 + 1,2,none⟩) (by show w.heap.size ≤ w.heap.size + 1 + 1;omega) _).setCell (p:=⟨w.heap.size + 1 + 1,3,none⟩) (by show w.heap.size ≤ w.heap.size + 1 + 1;omega) _
 have HW4:=Lib.hid hW4
 have HB4:=Lib.hid B4
 have HS1:=Lib.hid s1
 have HS2:=Lib.hid s2
 have HS3:=Lib.hid s3
 clear hW4 s1 s2 s3 B4
 go_upto_region 5 with fail
 rw [HW4.out]
 clear o2 o3 p2 p3 l3
 have c4:=HS1.out.cell 4
 go_wp2_with fail
 refine (HI.out W4 (HK.out.on HB4.out)).mono ?_
 rintro e w5 ⟨rfl,hx5,hb5⟩
 have s3:=HS3.out.on hb5
 have H2:=Lib.hid (HS2.out.on hb5)
 have H3:=Lib.hid s3
 have HB5:=Lib.hid (bch HB4.out hb5)
 have HX5:=Lib.hid hx5
 have HL4:=Lib.hid HS3.out.lt
 have o4:=s3.cell 4
 have p4:=s3.frozen 4
 have l3:=s3.lt
 clear hb5 s3 c4 hx5 H1
 obtain ⟨W6,hW6⟩:∃ z,w5.setCell ⟨w.heap.size + 1 + 1,4,none⟩ (.slice (some ⟨W4.heap.size,0,none⟩) x.kids.length x.kids.length)=z:=⟨_,rfl⟩
 have s2:Row W6 (w.heap.size + 1) 87 [.int .i64 0,.int .i64 0,.bool false,.int .i64 0,.slice none 0 0]:=by rw [← hW6];exact H2.out.far (p:=⟨w.heap.size + 1 + 1,4,none⟩) (by show w.heap.size + 1 ≠ w.heap.size + 1 + 1;omega) _
 have s3:Row W6 (w.heap.size + 1 + 1) 87 [.int .i64 x.kind,.int .i64 x.col,.bool x.val.1,.int .i64 x.val.2,.slice (some ⟨W4.heap.size,0,none⟩) x.kids.length x.kids.length]:=by rw [← hW6];exact H3.out.set 4 _
 have O6:Only (fun k=>k=w.heap.size + 1 + 1) w5 W6:=by rw [← hW6];exact (Only.refl (S:=fun k=>k=w.heap.size + 1 + 1) w5).set (p:=⟨w.heap.size + 1 + 1,4,none⟩) (.inl rfl) _
 have HW6:=Lib.hid hW6
 have HO6:=Lib.hid O6
 have HS2:=Lib.hid s2
 have HS3:=Lib.hid s3
 clear hW6 s2 s3 O6
 go_upto_region 6 with fail
 rw [HW6.out]
 clear o4 p4 l3
 have c0:=HS3.out.cell 0
 have c1:=HS3.out.cell 1
 have c2:=HS3.out.cell 2
 have c3:=HS3.out.cell 3
 have c4:=HS3.out.cell 4
 have e0:=HS2.out.cell 0
 have e1:=HS2.out.cell 1
 have e2:=HS2.out.cell 2
 have e3:=HS2.out.cell 3
 have e4:=HS2.out.cell 4
 have q0:=HS2.out.frozen 0
 have q1:=HS2.out.frozen 1
 have q2:=HS2.out.frozen 2
 have q3:=HS2.out.frozen 3
 have q4:=HS2.out.frozen 4
 have l2:=HS2.out.lt
 go_wp2
 refine bodyPost_ret (v:=feV ⟨x.kind,x.col,x.val,⟨some ⟨W4.heap.size,0,none⟩,x.kids.length,x.kids.length⟩⟩) (by simp [results,Tryz.results54,go_sem,feV,e0,e1,e2,e3,e4]) rfl ⟨_,rfl,?_,?_⟩
 ·have hO:=set5o W6 (w.heap.size + 1) 0 (.int .i64 x.kind) (.int .i64 x.col) (.bool x.val.1) (.int .i64 x.val.2) (.slice (some ⟨W4.heap.size,0,none⟩) x.kids.length x.kids.length)
  have h6:=HX5.out.carry (w':=W6) (T:=fun k=>w.heap.size + 1 + 1 < k) (fun b _ hb=>by have:=HL4.out;show w.heap.size + 1 + 1 < b;omega) fun b hb hl=>HO6.out.block b hl (by have:=HL4.out;have:W4.heap.size ≤ b:=hb;omega)
  obtain ⟨_,h7⟩:=h6.carry (w':=_) (T:=fun k=>w.heap.size ≤ k) (fun b _ hb=>by have:w.heap.size + 1 + 1 < b:=hb;show w.heap.size ≤ b;omega) fun b hb hl=>hO.block b hl (by have:w.heap.size + 1 + 1 < b:=hb;omega)
  exact exW_iff.2 ⟨rfl,rfl,rfl,rfl,hkl,h7⟩
 ·have hO:=set5o W6 (w.heap.size + 1) 0 (.int .i64 x.kind) (.int .i64 x.col) (.bool x.val.1) (.int .i64 x.val.2) (.slice (some ⟨W4.heap.size,0,none⟩) x.kids.length x.kids.length)
  exact Only.from_ (Only.from_ HB5.out rfl HO6.out (fun i hi=>by omega)) rfl hO (fun i hi=>by omega)
end Go.Proofs.YtcbfbgngkdiijaaGreat
