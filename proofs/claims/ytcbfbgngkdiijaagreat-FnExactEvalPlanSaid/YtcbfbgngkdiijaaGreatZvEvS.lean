import Derived.Test.YtcbfbgngkdiijaaGreatProg
import Derived.Test.YtcbfbgngkdiijaaGreatZvCbS
import Derived.Test.YtcbfbgngkdiijaaGreatZvPls
namespace Go.Proofs.YtcbfbgngkdiijaaGreat
open Go.RowKit Go.Qo
set_option linter.unusedVariables false
set_option linter.unusedSimpArgs false

theorem notT_I (v:Val):ofT (notT (trS v))=ofTr (2 - trI v):=by
 rw [trS_I]
 have h1:=trI_range v
 generalize trI v=x at *
 have hx:x=0 ∨ x=1 ∨ x=2:=by omega
 rcases hx with rfl | rfl | rfl <;> decide
def EvS (x:Ex):Prop:=∀ (f:FE) (row:Row1) (A:Option Addr) (c:Nat) (W d:Int) (w:World),ExIn w w.heap.size f x → ExOk W d x → RowOk W row → Sl 2 valC w w.heap.size A row →
 Calls Tryz.prog 73 #[feV f,.slice A row.length c] w fun e w'=>e=.returned (.agg #[.bool (exVal row x).1,.int .i64 (exVal row x).2]) ∧ Below w.heap.size w w'
set_option maxRecDepth 20000 in
set_option maxHeartbeats 8000000 in
theorem specEval_ok:∀ x:Ex,EvS x:=Ex.ind fun x ih f row A c W d w h hok hro hsl=>by
 obtain ⟨a1,a2,a3,a4,a5,a6⟩:=h.flat
 have hkr:=exOk_kind hok
 obtain ⟨ok1,ok2,ok3,ok4⟩:=exOk_iff.1 hok
 have hr6:=rowValid_len hro.1
 obtain ⟨⟨rn,rm⟩,hr⟩:∃ v,exVal row x=v:=⟨_,rfl⟩
 rw [hr]
 have HR:=Lib.hid (show ((rn,rm):Val)=topV row x.kind x.col x.val (kidV row x 0) (kidV row x 1) by rw [← hr];exact exVal_eq row x)
 have HKV:=Lib.hid (fun (i:Nat) (hi:i < x.kids.length)=>show vValid (exVal row x.kids[i])=true from exVal_valid hro _ _ (ok3 _ (List.getElem_mem hi)))
 have HVX:=Lib.hid (fun (i:Nat) (hi:i < x.kids.length) (z:World) (hz:Below w.heap.size w z)=>show ∃ b1 o1 g,f.sv.A=some ⟨b1,o1,none⟩ ∧ b1 < z.heap.size ∧ FeAt z b1 (o1 + i * 5) g ∧ ∀ (z2:World),Below z.heap.size z z2 → Calls Tryz.prog 73 #[feV g,.slice A row.length c] z2 (fun e w'=>e=.returned (.agg #[.bool (exVal row x.kids[i]).1,.int .i64 (exVal row x.kids[i]).2]) ∧ Below z2.heap.size z2 w') from by
  obtain ⟨b1,o1,g,e1,e2,e3,e4⟩:=(h.on hz).kid hi
  exact ⟨b1,o1,g,e1,e2,e3,fun z2 hz2=>ih _ (List.getElem_mem hi) g row A c W (d - 1) z2 (e4.on hz2) (ok3 _ (List.getElem_mem hi)) hro (hsl.on (bch hz hz2))⟩)
 obtain ⟨W0,hW0⟩:∃ z,(w.alloc (.cells #[.int .i64 x.kind,.int .i64 x.col,.bool x.val.1,.int .i64 x.val.2,.slice f.sv.A x.kids.length f.sv.c] 87)).alloc (.cells #[.bool false,.int .i64 0] 85)=z:=⟨_,rfl⟩
 have B0:Below w.heap.size w W0:=by rw [← hW0];exact balloc (balloc (Below.refl _ _) _) _
 have r1:Row W0 w.heap.size 87 [.int .i64 x.kind,.int .i64 x.col,.bool x.val.1,.int .i64 x.val.2,.slice f.sv.A x.kids.length f.sv.c]:=by rw [← hW0];exact (Row.new _ _ _).alloc _
 have r0:Row W0 (w.heap.size + 1) 85 [.bool false,.int .i64 0]:=by rw [← hW0];exact Row.second _ _ _ _
 have BX:=Lib.hid (fun (z:World) (hz:Below W0.heap.size W0 z)=>show (z.cell? ⟨w.heap.size,0,none⟩=some (.int .i64 x.kind) ∧ z.cell? ⟨w.heap.size,1,none⟩=some (.int .i64 x.col) ∧ z.cell? ⟨w.heap.size,2,none⟩=some (.bool x.val.1) ∧ z.cell? ⟨w.heap.size,3,none⟩=some (.int .i64 x.val.2) ∧ z.cell? ⟨w.heap.size,4,none⟩=some (.slice f.sv.A x.kids.length f.sv.c)) ∧ Row z (w.heap.size + 1) 85 [.bool false,.int .i64 0] from
  ⟨⟨(r1.on hz).cell 0,(r1.on hz).cell 1,(r1.on hz).cell 2,(r1.on hz).cell 3,(r1.on hz).cell 4⟩,r0.on hz⟩)
 have HSL:=Lib.hid (fun (z:World) (hz:Below w.heap.size w z)=>hsl.on hz)
 have HW0:=Lib.hid hW0
 have HB0:=Lib.hid B0
 have HOK:=Lib.hid (And.intro ok1 ok4)
 have HRO:=Lib.hid hro
 obtain ⟨⟨c0,c1,c2,c3,c4⟩,_⟩:=BX.out _ (Below.refl _ _)
 have q0:=r0.lt
 have q1:=r0.frozen 0
 have q2:=r0.frozen 1
 have hk2:=hok.kids_le
 unfold feV
 rw [a1,a2,a3,a4]
 clear h hok hro hsl ih hr a1 a2 a3 a4 a5 a6 ok1 ok2 ok3 ok4 r0 r1 B0 hW0
 by_cases hk1:x.kind=1
 ·have hl:=HOK.out.2
  unfold LocOk at hl
  rw [if_pos hk1] at hl
  have hlen:=HRO.out.2
  obtain ⟨j,hj⟩:=Int.eq_ofNat_of_zero_le hl.1.1
  have hjl:j < row.length:=by omega
  have hz:=HR.out
  unfold topV at hz
  rw [if_pos hk1,hj] at hz
  unfold getV at hz
  rw [Int.toNat_natCast,List.getD_eq_getElem?_getD,List.getElem?_eq_getElem hjl] at hz
  obtain ⟨bs,os,hA,hB,v0,v1⟩:=Val.at_ (HSL.out _ HB0.out) hjl
  have hz:((rn,rm):Val)=row[j]:=hz
  rw [← hz] at v0 v1
  have hjI:(j:Int) < (row.length:Int):=by omega
  rw [hj] at c1
  rw [hk1] at c0
  obtain ⟨_,e0⟩:=BX.out _ (Below.refl _ _)
  have e1:W0.cell? ⟨w.heap.size + 1,0,none⟩=some (.bool false):=e0.cell 0
  have e2:W0.cell? ⟨w.heap.size + 1,1,none⟩=some (.int .i64 0):=e0.cell 1
  subst hA
  clear hl hz hk1 hj hkr hk2 e0 hlen
  go_enter Tryz.func73,Tryz.ntmps73
  go_upto_region 1 with fail
  rw [HW0.out]
  go_wp2
  exact bodyPost_ret (v:=.agg #[.bool rn,.int .i64 rm]) (by simp [results,Tryz.results73,go_sem,q0,q1,q2,e1,e2]) rfl ⟨rfl,below_put HB0.out (by omega) _ _⟩
 have hk1':(x.kind == 1)=false:=by simpa using hk1
 by_cases hkk2:x.kind=2
 ·have hz:=HR.out
  unfold topV at hz
  rw [if_neg hk1,if_pos hkk2] at hz
  rw [← hz] at c2 c3
  rw [← hz] at HW0
  rw [← hz]
  rw [hkk2] at c0
  obtain ⟨_,e0⟩:=BX.out _ (Below.refl _ _)
  have e1:W0.cell? ⟨w.heap.size + 1,0,none⟩=some (.bool false):=e0.cell 0
  have e2:W0.cell? ⟨w.heap.size + 1,1,none⟩=some (.int .i64 0):=e0.cell 1
  clear hz hk1 hk1' hkk2 hkr hk2 e0
  go_enter Tryz.func73,Tryz.ntmps73
  go_upto_region 1 with fail
  rw [HW0.out]
  go_wp2
  exact bodyPost_ret (v:=.agg #[.bool rn,.int .i64 rm]) (by simp [results,Tryz.results73,go_sem,q0,q1,q2,e1,e2]) rfl ⟨rfl,below_put HB0.out (by omega) _ _⟩
 have hkk2':(x.kind == 2)=false:=by simpa using hkk2
 have hp0:0 < x.kids.length:=by have:=HOK.out.1;unfold kidsK at this;rw [if_neg (by omega)] at this;split at this <;> (try split at this) <;> omega
 have hpI:(0:Int) < (x.kids.length:Int):=by omega
 have HZ:=Lib.hid (show ((rn,rm):Val)=if x.kind=10 then ofT (notT (trS (kidV row x 0))) else if x.kind=11 then flagV (kidV row x 0).1 else combV x.kind (kidV row x 0) (kidV row x 1) by
  have hz:=HR.out
  unfold topV at hz
  rw [if_neg hk1,if_neg hkk2] at hz
  rw [notT_I]
  exact hz)
 obtain ⟨b1,o1,g1,hA1,hb1,hgat,HC0⟩:=HVX.out 0 hp0 W0 HB0.out
 have hV0:=HKV.out 0 hp0
 have HKE:=Lib.hid (kidV_at (row:=row) hp0)
 obtain ⟨⟨an,av⟩,hav⟩:∃ v,exVal row x.kids[0]=v:=⟨_,rfl⟩
 rw [hav] at HC0 hV0 HKE
 simp only [Nat.zero_mul,Nat.add_zero] at hgat
 unfold feV at HC0
 have HCC:=Lib.hid HC0
 have HA1:=Lib.hid hA1
 have HV0:=Lib.hid hV0
 have HGT:=Lib.hid hgat
 rw [hA1] at c4
 clear hA1 hV0 HC0 hav HR hk1 hkk2
 by_cases hk10:x.kind=10
 ·obtain ⟨d0,d1,d2,d3,d4⟩:=hgat
  have hz:=HZ.out
  rw [if_pos hk10,HKE.out] at hz
  have htr:=trS_range ((an,av):Val)
  have HT:=Lib.hid (fun z=>show Calls Tryz.prog 95 #[.agg #[.bool an,.int .i64 av]] z fun e w'=>e=.returned (.int .i64 (trS (an,av))) ∧ Below z.heap.size z w' from specTruth_ok (an,av) z)
  obtain ⟨ta,hta⟩:∃ t,trS ((an,av):Val)=t:=⟨_,rfl⟩
  rw [hta] at hz htr HT
  have HNA:=Lib.hid (fun (z:World)=>show Calls Tryz.prog 97 #[.int .i64 ta] z fun e w'=>e=.returned (.int .i64 (notT ta)) ∧ z=w' from notTruth_ok ta z htr)
  have HTV:=Lib.hid (fun z=>show Calls Tryz.prog 96 #[.int .i64 (notT ta)] z fun e w'=>e=.returned (.agg #[.bool rn,.int .i64 rm]) ∧ Below z.heap.size z w' from by
   have:=ofTruth_ok (notT ta) z (notT_range htr)
   rw [← hz] at this
   exact this)
  rw [hk10] at c0
  clear hz hta hk10 hkr hk1' hkk2' htr
  go_enter Tryz.func73,Tryz.ntmps73
  go_upto_region 1 with fail
  rw [HW0.out]
  go_wp2_with fail
  refine (HCC.out _ (Below.refl _ _)).mono ?_
  rintro e w1 ⟨rfl,hb1⟩
  have H1:=Lib.hid hb1
  clear hb1 c0 c1 c2 c3 c4 d0 d1 d2 d3 d4
  go_wp2_with fail
  refine (HT.out _).mono ?_
  rintro e w2 ⟨rfl,hb2⟩
  have H2:=Lib.hid (bch H1.out hb2)
  clear hb2
  go_wp2_with fail
  refine (HNA.out _).mono ?_
  rintro e w2' ⟨rfl,rfl⟩
  go_wp2_with fail
  refine (HTV.out _).mono ?_
  rintro e w3 ⟨rfl,hb3⟩
  have H3:=Lib.hid (bch H2.out hb3)
  clear hb3 q0 q1 q2
  obtain ⟨q0,q1,q2,q3,q4⟩:=vbox ((BX.out _ H3.out).2)
  go_wp2
  exact bodyPost_ret (v:=.agg #[.bool rn,.int .i64 rm]) (by simp [results,Tryz.results73,go_sem,q0,q1,q2,q3,q4]) rfl ⟨rfl,below_put (bch HB0.out H3.out) (by omega) _ _⟩
 have hk10':(x.kind == 10)=false:=by simpa using hk10
 by_cases hk11:x.kind=11
 ·obtain ⟨d0,d1,d2,d3,d4⟩:=hgat
  have hz:=HZ.out
  rw [if_neg hk10,if_pos hk11,HKE.out] at hz
  have HT:=Lib.hid (fun z=>show Calls Tryz.prog 98 #[.bool an] z fun e w'=>e=.returned (.int .i64 rm) ∧ z=w' from by
   have:=toInt_ok an z
   injection hz with h1 h2
   rw [h2]
   exact this)
  have hrn:rn=false:=by injection hz
  subst hrn
  have hfd:∀ w:World,(Instr.field 85 (.agg #[.bool an,.int .i64 av]) 0).run Tryz.prog w=.ok (.bool an) w:=fun _=>by kernel_rfl
  rw [hk11] at c0
  clear hz hk10 hk11 hkr hk1' hkk2' hk10'
  go_enter Tryz.func73,Tryz.ntmps73
  go_upto_region 1 with fail
  rw [HW0.out]
  go_wp2_with fail
  refine (HCC.out _ (Below.refl _ _)).mono ?_
  rintro e w1 ⟨rfl,hb1⟩
  have H1:=Lib.hid hb1
  clear hb1 c0 c1 c2 c3 c4 d0 d1 d2 d3 d4
  go_wp2_with fail
  refine (HT.out _).mono ?_
  rintro e w2' ⟨rfl,rfl⟩
  clear q0 q1 q2
  obtain ⟨q0,q1,q2,q3,q4⟩:=vbox ((BX.out _ H1.out).2)
  go_wp2
  exact bodyPost_ret (v:=.agg #[.bool false,.int .i64 rm]) (by simp [results,Tryz.results73,go_sem,q0,q1,q2,q3,q4]) rfl ⟨rfl,below_put (bch HB0.out H1.out) (by omega) _ _⟩
 have hk11':(x.kind == 11)=false:=by simpa using hk11
 have hz:=HZ.out
 rw [if_neg hk10,if_neg hk11,HKE.out] at hz
 have hl2:x.kids.length=2:=by have:=HOK.out.1;unfold kidsK at this;rw [if_neg (by simp at hk1' hkk2';omega),if_neg (by omega)] at this;split at this <;> omega
 have hp1:1 < x.kids.length:=by omega
 have hpI1:(1:Int) < (x.kids.length:Int):=by omega
 have hV1:=HKV.out 1 hp1
 rw [kidV_at (row:=row) hp1] at hz
 obtain ⟨⟨bn,bv⟩,hbv⟩:∃ v,exVal row x.kids[1]=v:=⟨_,rfl⟩
 obtain ⟨b1',o1',g2,hA2,hb2,hgat2,HC1⟩:=HVX.out 1 hp1 W0 HB0.out
 rw [HA1.out] at hA2
 cases hA2
 simp only [Nat.one_mul] at hgat2
 rw [hbv] at hz hV1 HC1
 unfold feV at HC1
 have HCC1:=Lib.hid HC1
 have HCM:=Lib.hid (fun z=>show Calls Tryz.prog 99 #[.int .i64 x.kind,.agg #[.bool an,.int .i64 av],.agg #[.bool bn,.int .i64 bv]] z fun e w'=>e=.returned (.agg #[.bool rn,.int .i64 rm]) ∧ Below z.heap.size z w' from by
  have:=specCombine_ok x.kind (an,av) (bn,bv) z (by simp at hk1' hkk2';omega) HV0.out hV1
  rw [← hz] at this
  exact this)
 have SB:=Lib.hid (fun (z:World) (hz:Below W0.heap.size W0 z)=>show z.cell? ⟨w.heap.size,0,none⟩=some (.int .i64 x.kind) ∧ z.cell? ⟨w.heap.size,4,none⟩=some (.slice (some ⟨b1,o1,none⟩) x.kids.length f.sv.c) ∧ z.cell? ⟨b1,o1,none⟩=some (.int .i64 g1.kind) ∧ z.cell? ⟨b1,o1 + 1,none⟩=some (.int .i64 g1.col) ∧ z.cell? ⟨b1,o1 + 2,none⟩=some (.bool g1.val.1) ∧ z.cell? ⟨b1,o1 + 3,none⟩=some (.int .i64 g1.val.2) ∧ z.cell? ⟨b1,o1 + 4,none⟩=some (.slice g1.sv.A g1.sv.n g1.sv.c) ∧ z.cell? ⟨b1,o1 + 5,none⟩=some (.int .i64 g2.kind) ∧ z.cell? ⟨b1,o1 + 5 + 1,none⟩=some (.int .i64 g2.col) ∧ z.cell? ⟨b1,o1 + 5 + 2,none⟩=some (.bool g2.val.1) ∧ z.cell? ⟨b1,o1 + 5 + 3,none⟩=some (.int .i64 g2.val.2) ∧ z.cell? ⟨b1,o1 + 5 + 4,none⟩=some (.slice g2.sv.A g2.sv.n g2.sv.c) from by
  obtain ⟨⟨c0,c1,c2,c3,c4⟩,_⟩:=BX.out z hz
  rw [HA1.out] at c4
  obtain ⟨x0,x1,x2,x3,x4⟩:=feAt_belowI HGT.out hz hb1
  obtain ⟨y0,y1,y2,y3,y4⟩:=feAt_belowI hgat2 hz hb2
  exact ⟨c0,c4,x0,x1,x2,x3,x4,y0,y1,y2,y3,y4⟩)
 clear hz hbv hV1 hk10 hk11 hkr HC1 hgat hgat2 q0 q1 q2 hl2
 obtain ⟨u0,hu0⟩:∃ z,W0.drew=z:=⟨_,rfl⟩
 have Bu0:=Lib.hid (show Below W0.heap.size W0 u0 from hu0 ▸ (Below.refl _ _).drew)
 have Hu0:=Lib.hid hu0
 clear hu0
 go_enter Tryz.func73,Tryz.ntmps73
 go_upto_region 10 with fail
 rw [HW0.out]
 refine wp_region_g 15 (fun z=>z.cell? ⟨w.heap.size,0,none⟩=some (.int .i64 x.kind) ∧ z.cell? ⟨w.heap.size,4,none⟩=some (.slice (some ⟨b1,o1,none⟩) x.kids.length f.sv.c) ∧ z.cell? ⟨b1,o1,none⟩=some (.int .i64 g1.kind) ∧ z.cell? ⟨b1,o1 + 1,none⟩=some (.int .i64 g1.col) ∧ z.cell? ⟨b1,o1 + 2,none⟩=some (.bool g1.val.1) ∧ z.cell? ⟨b1,o1 + 3,none⟩=some (.int .i64 g1.val.2) ∧ z.cell? ⟨b1,o1 + 4,none⟩=some (.slice g1.sv.A g1.sv.n g1.sv.c) ∧ z.cell? ⟨b1,o1 + 5,none⟩=some (.int .i64 g2.kind) ∧ z.cell? ⟨b1,o1 + 5 + 1,none⟩=some (.int .i64 g2.col) ∧ z.cell? ⟨b1,o1 + 5 + 2,none⟩=some (.bool g2.val.1) ∧ z.cell? ⟨b1,o1 + 5 + 3,none⟩=some (.int .i64 g2.val.2) ∧ z.cell? ⟨b1,o1 + 5 + 4,none⟩=some (.slice g2.sv.A g2.sv.n g2.sv.c)) (by kernel_rfl) ?_ (fun hHeld=>?_)
 ·exact (SB.out _ (Below.refl _ _).drew)
 rw [Hu0.out] at hHeld ⊢
 refine tkH (i:=0) rfl (by assumption) ?_
 try simp only [Act.put,sTA,sC0,sCS]
 refine tkH (i:=1) rfl (by assumption) ?_
 try simp only [Act.put,sTA,sC0,sCS]
 refine tkH (i:=2) rfl (by assumption) ?_
 try simp only [Act.put,sTA,sC0,sCS]
 refine tkH (i:=3) rfl (by assumption) ?_
 try simp only [Act.put,sTA,sC0,sCS]
 refine tkH (i:=4) rfl (by assumption) ?_
 try simp only [Act.put,sTA,sC0,sCS]
 refine tkH (i:=5) rfl (by assumption) ?_
 try simp only [Act.put,sTA,sC0,sCS]
 refine tkH (i:=6) rfl (by assumption) ?_
 try simp only [Act.put,sTA,sC0,sCS]
 refine tkH (i:=8) rfl (by assumption) ?_
 try simp only [Act.put,sTA,sC0,sCS]
 refine tkH (i:=9) rfl (by assumption) ?_
 try simp only [Act.put,sTA,sC0,sCS]
 refine tkH (i:=10) rfl (by assumption) ?_
 try simp only [Act.put,sTA,sC0,sCS]
 refine tkH (i:=11) rfl (by assumption) ?_
 try simp only [Act.put,sTA,sC0,sCS]
 refine tkH (i:=12) rfl (by assumption) ?_
 try simp only [Act.put,sTA,sC0,sCS]
 refine rdG (i:=7) (by kernel_rfl) rfl (fun K hK=>?_)
 go_simp
 go_at_call 73
 refine (HCC.out u0 Bu0.out).mono ?_
 rintro e y1 ⟨rfl,hb⟩
 have By1:=Lib.hid (bch Bu0.out hb)
 clear hb
 refine hK.out _ _ ?hS13 (fun hHeld=>?_)
 case hS13=>exact fun _=>(SB.out _ By1.out)
 replace hHeld:=hHeld (by decide)
 clear hK K
 try simp only [Act.put,sTA,sC0,sCS]
 refine rdG (i:=13) (by kernel_rfl) rfl (fun K hK=>?_)
 go_simp
 go_at_call 73
 refine (HCC1.out y1 By1.out).mono ?_
 rintro e y2 ⟨rfl,hb⟩
 have By2:=Lib.hid (bch By1.out hb)
 clear hb
 refine hK.out _ _ ?hS14 (fun hHeld=>?_)
 case hS14=>exact fun _=>(SB.out _ By2.out)
 replace hHeld:=hHeld (by decide)
 clear hK K
 try simp only [Act.put,sTA,sC0,sCS]
 refine rdG (i:=14) (by kernel_rfl) rfl (fun K hK=>?_)
 go_simp
 go_at_call 99
 refine (HCM.out y2).mono ?_
 rintro e y3 ⟨rfl,hb⟩
 have By3:=Lib.hid (bch By2.out hb)
 clear hb
 refine hK.out _ _ ?hS15 (fun hHeld=>?_)
 case hS15=>exact fun _=>(SB.out _ By3.out)
 replace hHeld:=hHeld (by decide)
 clear hK K
 try simp only [Act.put,sTA,sC0,sCS]
 refine rdG (i:=15) (by kernel_rfl) rfl (fun K hK=>?_)
 obtain ⟨q0,q1,q2,q3,q4⟩:=vbox ((BX.out _ By3.out).2)
 go_simp
 refine hK.out _ _ ?hS16 (fun hHeld=>?_)
 case hS16=>exact fun h=>absurd rfl h
 clear hK K
 try simp only [Act.put,sTA,sC0,sCS]
 refine wpAnyG_done (by kernel_rfl) ?_ _
 go_wp2
 exact bodyPost_ret (v:=.agg #[.bool rn,.int .i64 rm]) (by simp [results,Tryz.results73,go_sem,q0,q1,q2,q3,q4]) rfl ⟨rfl,below_put (bch HB0.out By3.out) (by omega) _ _⟩
set_option maxRecDepth 20000 in
set_option maxHeartbeats 2000000 in
theorem specHolds_ok (x:Ex) (f:FE) (row:Row1) (A:Option Addr) (c:Nat) (W d:Int) (w:World) (q:Bool) (h:ExIn w w.heap.size f x) (hok:ExOk W d x) (hro:RowOk W row) (hsl:Sl 2 valC w w.heap.size A row) (hq:holdsE x row=q) :
 Calls Tryz.prog 72 #[feV f,.slice A row.length c] w fun e w'=>e=.returned (.bool q) ∧ Below w.heap.size w w':=by
 obtain ⟨a1,a2,a3,a4,a5,a6⟩:=h.flat
 obtain ⟨W0,hW0⟩:∃ z,w.alloc (.cells #[.int .i64 f.kind,.int .i64 f.col,.bool f.val.1,.int .i64 f.val.2,.slice f.sv.A f.sv.n f.sv.c] 87)=z:=⟨_,rfl⟩
 have B0:Below w.heap.size w W0:=by rw [← hW0];exact balloc (Below.refl _ _) _
 have r1:Row W0 w.heap.size 87 [.int .i64 f.kind,.int .i64 f.col,.bool f.val.1,.int .i64 f.val.2,.slice f.sv.A f.sv.n f.sv.c]:=by rw [← hW0];exact Row.new _ _ _
 have HE:=Lib.hid (specEval_ok x f row A c W d W0 (h.on B0) hok hro (hsl.on B0))
 have hr6:=rowValid_len hro.1
 obtain ⟨⟨rn,rm⟩,hr⟩:∃ v,exVal row x=v:=⟨_,rfl⟩
 rw [hr] at HE
 unfold feV at HE
 have HT:=Lib.hid (fun z=>show Calls Tryz.prog 95 #[.agg #[.bool rn,.int .i64 rm]] z fun e w'=>e=.returned (.int .i64 (trS (rn,rm))) ∧ Below z.heap.size z w' from specTruth_ok (rn,rm) z)
 have hqq:(trS (rn,rm) == 1)=q:=by
  rw [← hq]
  unfold holdsE
  rw [hr,trS_I]
  have h1:=trI_range (rn,rm)
  generalize trI (rn,rm)=t at *
  have hx:t=0 ∨ t=1 ∨ t=2:=by omega
  rcases hx with rfl | rfl | rfl <;> decide
 obtain ⟨ta,hta⟩:∃ t,trS ((rn,rm):Val)=t:=⟨_,rfl⟩
 rw [hta] at HT hqq
 have HW0:=Lib.hid hW0
 have HB0:=Lib.hid B0
 have c0:=r1.cell 0
 have c1:=r1.cell 1
 have c2:=r1.cell 2
 have c3:=r1.cell 3
 have c4:=r1.cell 4
 unfold feV
 clear h hok hro hsl hq a1 a2 a3 a4 a5 a6 hW0 B0 r1 hr hta
 go_enter Tryz.func72,Tryz.ntmps72
 go_upto_region 1 with fail
 rw [HW0.out]
 go_wp2_with fail
 refine HE.out.mono ?_
 rintro e w1 ⟨rfl,hb1⟩
 have H1:=Lib.hid (bch HB0.out hb1)
 clear hb1 c0 c1 c2 c3 c4
 go_wp2_with fail
 refine (HT.out _).mono ?_
 rintro e w2 ⟨rfl,hb2⟩
 have H2:=Lib.hid (bch H1.out hb2)
 clear hb2
 cases q
 all_goals
  go_wp2
  go_ret
  exact ⟨rfl,H2.out⟩
end Go.Proofs.YtcbfbgngkdiijaaGreat
