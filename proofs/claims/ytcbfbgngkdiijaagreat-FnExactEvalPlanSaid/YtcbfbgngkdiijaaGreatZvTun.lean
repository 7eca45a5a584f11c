import Derived.Test.YtcbfbgngkdiijaaGreatProg
import Derived.Test.YtcbfbgngkdiijaaGreatZvEvT
import Derived.Test.YtcbfbgngkdiijaaGreatZvPln
namespace Go.Proofs.YtcbfbgngkdiijaaGreat
open Go.RowKit Go.Qo
set_option linter.unusedVariables false
set_option linter.unusedSimpArgs false

theorem GR.apps {lo m:Nat} {W2 U w':World} {v v':Value} {rows rs:List Row1} {svs ss:List SV} (h:GR lo m W2 U v rows) (hO:Ow lo 100 1 svC U v svs) (hT:RowsT 85 2 valC 0 U svs rows) (hT':RowsT 85 2 valC 0 U ss rs)
 (hown:Ow lo 100 1 svC w' v' (svs ++ ss)) (hgr:U.grownBy w' v.ownBlock) (hob:v'.ownBlock=v.ownBlock ∨ v'.ownBlock=some U.heap.size):GR lo m W2 w' v' (rows ++ rs):=
 ⟨⟨svs ++ ss,hown,(hT.append hT').grown hgr fun b hb=>.inr ⟨_,by decide,(hO.ty b hb).2.2⟩⟩,h.keep.grown hgr h.at_,fun k hk=>by
   rcases hob with e | e
   ·exact h.at_ k (by rw [← e];exact hk)
   ·rw [e] at hk;cases hk;exact .inr h.keep.size⟩

set_option maxRecDepth 20000 in
set_option maxHeartbeats 4000000 in
theorem unionAll_ok (W:Int) (W':Int) (xa xb:List Row1) (A A':Option Addr) (c c':Nat) (w:World) (hT:TabOk W xa) (hT':TabOk W xb) (hin:InT w A xa) (hin':InT w A' xb) :
 Calls Tryz.prog 51 #[.agg #[.int .i64 W,.slice A xa.length c],.agg #[.int .i64 W',.slice A' xb.length c']] w (TbRes W (colS (xa ++ xb)) w):=by
 obtain ⟨W3,hW3⟩:∃ z,((w.alloc (.cells #[.int .i64 W,.slice A xa.length c] 32)).alloc (.cells #[.int .i64 W',.slice A' xb.length c'] 32)).alloc (.cells #[.int .i64 0,.slice none 0 0] 32)=z:=⟨_,rfl⟩
 have s3:W3.heap.size=w.heap.size + 3:=by rw [← hW3];simp
 have B3:Below w.heap.size w W3:=by rw [← hW3];exact balloc (balloc (balloc (Below.refl _ _) _) _) _
 have r0:Row W3 w.heap.size 32 [.int .i64 W,.slice A xa.length c]:=by rw [← hW3];exact ((Row.new _ _ _).alloc _).alloc _
 have r1:Row W3 (w.heap.size + 1) 32 [.int .i64 W',.slice A' xb.length c']:=by rw [← hW3];exact (Row.second _ _ _ _).alloc _
 have r2:Row W3 (w.heap.size + 2) 32 [.int .i64 0,.slice none 0 0]:=by rw [← hW3];exact Row.third _ _ _ _ _
 have HBASE:=Lib.hid B3
 have HR:=Lib.hid (And.intro r0 (And.intro r1 r2))
 have HIN:=Lib.hid (fun (z:World) (hz:Below w.heap.size w z)=>hin.on hz)
 have HIN':=Lib.hid (fun (z:World) (hz:Below w.heap.size w z)=>hin'.on hz)
 have hn4:=hT.2.2.1
 have hn4':=hT'.2.2.1
 have HLO:=Lib.hid (show ∀ r ∈ xa ++ xb,RowOk W r from fun r hr=>(List.mem_append.1 hr).elim (tab_row hT r) (tab_row hT' r))
 have hlt3:w.heap.size + 2 < W3.heap.size:=by omega
 have HWW:=Lib.hid hW3
 have SB:=Lib.hid (fun (m:Nat) (hm:W3.heap.size ≤ m) (z:World) (hz:Only (fun k=>k=m) W3 z)=>show z.cell? ⟨w.heap.size,0,none⟩=some (.int .i64 W) ∧ z.cell? ⟨w.heap.size,1,none⟩=some (.slice A xa.length c) ∧ z.cell? ⟨w.heap.size + 1,1,none⟩=some (.slice A' xb.length c') from
  ⟨(r0.only hz (by omega)).cell 0,(r0.only hz (by omega)).cell 1,(r1.only hz (by omega)).cell 1⟩)
 clear hT hT' hin hin' hW3 B3 r0 r1 r2 s3
 obtain ⟨u0,hu0⟩:∃ z,W3.drew=z:=⟨_,rfl⟩
 have Bu0:=Lib.hid (show Below W3.heap.size W3 u0 from hu0 ▸ (Below.refl _ _).drew)
 have Hu0:=Lib.hid hu0
 have hu0s:W3.heap.size ≤ u0.heap.size:=Bu0.out.size
 clear hu0
 go_enter Tryz.func51,Tryz.ntmps51
 go_upto_region 1 with fail
 rw [HWW.out]
 refine wp_region_g 10 (fun z=>z.cell? ⟨w.heap.size,0,none⟩=some (.int .i64 W) ∧ z.cell? ⟨w.heap.size,1,none⟩=some (.slice A xa.length c) ∧ z.cell? ⟨w.heap.size + 1,1,none⟩=some (.slice A' xb.length c')) (by kernel_rfl) ?_ (fun hHeld=>?_)
 ·exact SB.out W3.heap.size (Nat.le_refl _) _ (only_below (Below.refl _ _).drew)
 rw [Hu0.out] at hHeld ⊢
 refine tkH (i:=0) rfl (by assumption) ?_
 try simp only [Act.put,sTA,sC0,sCS]
 refine tkH (i:=1) rfl (by assumption) ?_
 try simp only [Act.put,sTA,sC0,sCS]
 refine tkH (i:=3) rfl (by assumption) ?_
 try simp only [Act.put,sTA,sC0,sCS]
 refine tkH (i:=4) rfl (by assumption) ?_
 try simp only [Act.put,sTA,sC0,sCS]
 refine tkH (i:=6) rfl (by assumption) ?_
 try simp only [Act.put,sTA,sC0,sCS]
 refine tkH (i:=7) rfl (by assumption) ?_
 try simp only [Act.put,sTA,sC0,sCS]
 refine rdG (i:=2) (by kernel_rfl) rfl (fun K hK=>?_)
 obtain ⟨U,hU⟩:∃ z,u0.alloc (.cells #[] 100)=z:=⟨_,rfl⟩
 have hub:Below u0.heap.size u0 U:=by rw [← hU];exact balloc (Below.refl _ _) _
 have hGU:=GR.start (lo:=w.heap.size) (w:=u0) (by omega)
 rw [hU] at hGU
 have HG1:=Lib.hid hGU
 have HBU:=Lib.hid (bch Bu0.out hub)
 have HBUw:=Lib.hid (bch HBASE.out (bch Bu0.out hub))
 go_simp
 try rw [hU]
 have HU:=Lib.hid hU
 clear hU hub hGU
 refine hK.out _ _ ?hS7 (fun hHeld=>?_)
 case hS7=>exact fun _=>SB.out u0.heap.size hu0s _ (only_below HBU.out)
 replace hHeld:=hHeld (by decide)
 clear hK K
 try simp only [Act.put,sTA,sC0,sCS]
 refine rdG (i:=5) (by kernel_rfl) rfl (fun K hK=>?_)
 obtain ⟨svs1,hsO,hsT⟩:=HG1.out.own
 obtain ⟨ss1,htS,htT⟩:=HIN.out _ (HG1.out.from_ HBUw.out (by omega))
 have hsl1:svs1.length ≤ 400:=by rw [hsT.1];simp
 have htl1:ss1.length ≤ 400:=by rw [htT.1];omega
 have hsz1:=(HG1.out.from_ HBUw.out (by omega)).size
 have Hsv1:=Lib.hid (And.intro hsO (And.intro hsT (And.intro htS htT)))
 have htn1:=Lib.hid htT.1
 clear hsO hsT htS htT
 refine step_app2 rfl (.tmp 7) (.tmp 9) 30 rfl w.heap.size 100 _ 1 24 svC Tryz.underlying30 zeroRowW rfl (by decide) (by decide) svC_length svC_one _ svs1 rfl Hsv1.out.1 A xa.length c ss1 rfl htn1.out.symm Hsv1.out.2.2.1.sl (by omega) hsz1 ?_
 intro v1 w1 hown hgr hob
 have HG2:=Lib.hid (HG1.out.apps Hsv1.out.1 Hsv1.out.2.1 Hsv1.out.2.2.2 hown hgr hob)
 try rw [List.nil_append] at HG2
 clear hown hgr hob
 obtain ⟨A6,c6,rfl,hc11,hc12,_⟩:=HG2.out.shape
 refine hK.out _ _ ?hS8 (fun hHeld=>?_)
 case hS8=>exact fun _=>SB.out u0.heap.size hu0s _ (show Only (fun k=>k=u0.heap.size) W3 w1 from (only_below HBU.out).trans HG2.out.keep)
 replace hHeld:=hHeld (by decide)
 clear hK K
 try simp only [Act.put,sTA,sC0,sCS]
 refine rdG (i:=8) (by kernel_rfl) rfl (fun K hK=>?_)
 obtain ⟨svs2,hsO,hsT⟩:=HG2.out.own
 obtain ⟨ss2,htS,htT⟩:=HIN'.out _ (HG2.out.from_ HBUw.out (by omega))
 have hsl2:svs2.length ≤ 400:=by rw [hsT.1];omega
 have htl2:ss2.length ≤ 400:=by rw [htT.1];omega
 have hsz2:=(HG2.out.from_ HBUw.out (by omega)).size
 have Hsv2:=Lib.hid (And.intro hsO (And.intro hsT (And.intro htS htT)))
 have htn2:=Lib.hid htT.1
 clear hsO hsT htS htT
 refine step_app2 rfl (.tmp 10) (.tmp 12) 30 rfl w.heap.size 100 _ 1 24 svC Tryz.underlying30 zeroRowW rfl (by decide) (by decide) svC_length svC_one _ svs2 rfl Hsv2.out.1 A' xb.length c' ss2 rfl htn2.out.symm Hsv2.out.2.2.1.sl (by omega) hsz2 ?_
 intro v2 w2 hown hgr hob
 have HG3:=Lib.hid (HG2.out.apps Hsv2.out.1 Hsv2.out.2.1 Hsv2.out.2.2.2 hown hgr hob)
  
 clear hown hgr hob
 obtain ⟨A7,c7,rfl,hc21,hc22,_⟩:=HG3.out.shape
 refine hK.out _ _ ?hS9 (fun hHeld=>?_)
 case hS9=>exact fun _=>SB.out u0.heap.size hu0s _ (show Only (fun k=>k=u0.heap.size) W3 w2 from (only_below HBU.out).trans HG3.out.keep)
 replace hHeld:=hHeld (by decide)
 clear hK K
 try simp only [Act.put,sTA,sC0,sCS]
 refine rdG (i:=9) (by kernel_rfl) rfl (fun K hK=>?_)
 obtain ⟨svs,hsO,hsT⟩:=HG3.out.own
 have hTO:=tableOf_ok 0 W A7 c7 svs (xa ++ xb) w2 (Nat.zero_le _) (by rw [List.length_append];omega) (fun r hr=>by have:=rowValid_len (HLO.out r hr).1;omega) (by obtain ⟨_,_,hv,_,_,hs⟩:=hsO.shape svC_length;injection hv with hv1 _ _;subst hv1;exact hs.sl) hsT
 have HBw:=Lib.hid (HG3.out.from_ HBUw.out (by omega))
 have HO3:=Lib.hid (show Only (fun k=>k=u0.heap.size) W3 w2 from (only_below HBU.out).trans HG3.out.keep)
 have HRB:=Lib.hid (HR.out.2.2.only HO3.out (by omega))
 clear hsO hsT
 go_simp
 try rw [← List.length_append]
 go_at_call 47
 refine hTO.mono ?_
 intro e w6 h6
 obtain ⟨A6',c6',rfl,h61,h62,h63,hb6⟩:=h6.tb HLO.out
 have HR6:=Lib.hid (And.intro h61 (And.intro h62 (And.intro h63 hb6)))
 have HRQ:=Lib.hid (HRB.out.on hb6)
 clear h6 h61 h62 h63 hb6
 refine hK.out _ _ ?hS10 (fun hHeld=>?_)
 case hS10=>exact fun _=>SB.out u0.heap.size hu0s _ (HO3.out.below HR6.out.2.2.2)
 replace hHeld:=hHeld (by decide)
 clear hK K
 try simp only [Act.put,sTA,sC0,sCS]
 refine rdG (i:=10) (by kernel_rfl) rfl (fun K hK=>?_)
 obtain ⟨q0,q1,q2,q3,q4⟩:=tbox HRQ.out
 go_simp
 refine hK.out _ _ ?hS11 (fun hHeld=>?_)
 case hS11=>exact fun h=>absurd rfl h
 clear hK K
 try simp only [Act.put,sTA,sC0,sCS]
 refine wpAnyG_done (by kernel_rfl) ?_ _
 go_wp2
 exact bodyPost_ret (v:=.agg #[.int .i64 W,.slice A6' (colS (xa ++ xb)).length c6']) (by simp [results,Tryz.results51,go_sem,q0,q1,q2,q3,q4]) rfl ⟨A6',c6',rfl,HR6.out.1,HR6.out.2.1,HR6.out.2.2.1.put2 HRQ.out _ _,below_put (bch HBw.out HR6.out.2.2.2) (by omega) _ _⟩

def DiK (W:Int) (ob:Nat) (W2 wr:World) (v:Value) (rows:List Row1):Prop:=Only (fun k=>k=ob) W2 wr ∧ Row wr ob 32 [.int .i64 W,v] ∧ ∃ svs:List SV,Ow W2.heap.size 100 1 svC wr v svs ∧ RowsT 85 2 valC 0 wr svs rows
theorem DiK.below {W:Int} {ob:Nat} {W2 wr z:World} {v:Value} {rows:List Row1} (h:DiK W ob W2 wr v rows) (k:Below wr.heap.size wr z):DiK W ob W2 z v rows:=by
 obtain ⟨h1,h2,svs,h3,h4⟩:=h
 exact ⟨h1.below k,h2.on k,svs,h3.on k,h4.on k⟩
theorem dedT_len (rows:List Row1) (k:Nat) (hk:k ≤ rows.length):(dedT rows k).length ≤ k:=by
 have:=(dedT_sub rows k hk).length_le
 rw [List.length_take] at this
 omega
set_option maxRecDepth 20000 in
set_option maxHeartbeats 8000000 in
theorem distinctRows_ok (W:Int) (rows:List Row1) (A:Option Addr) (c:Nat) (w:World) (hT:TabOk W rows) (hin:InT w A rows) :
 Calls Tryz.prog 52 #[.agg #[.int .i64 W,.slice A rows.length c]] w (TbRes W (dedR rows) w):=by
 obtain ⟨W3,hW3⟩:∃ z,((w.alloc (.cells #[.int .i64 W,.slice A rows.length c] 32)).alloc (.cells #[.int .i64 0,.slice none 0 0] 32)).alloc (.cells #[.int .i64 W,.slice none 0 0] 32)=z:=⟨_,rfl⟩
 have s3:W3.heap.size=w.heap.size + 3:=by rw [← hW3];simp
 have B3:Below w.heap.size w W3:=by rw [← hW3];exact balloc (balloc (balloc (Below.refl _ _) _) _) _
 have r0:Row W3 w.heap.size 32 [.int .i64 W,.slice A rows.length c]:=by rw [← hW3];exact ((Row.new _ _ _).alloc _).alloc _
 have r1:Row W3 (w.heap.size + 1) 32 [.int .i64 0,.slice none 0 0]:=by rw [← hW3];exact (Row.second _ _ _ _).alloc _
 have r2:Row W3 (w.heap.size + 2) 32 [.int .i64 W,.slice none 0 0]:=by rw [← hW3];exact Row.third _ _ _ _ _
 obtain ⟨ob,hob⟩:∃ n,w.heap.size + 2=n:=⟨_,rfl⟩
 rw [hob] at r2
 have HBASE:=Lib.hid B3
 have HR:=Lib.hid (And.intro r0 r1)
 have HD3:=Lib.hid (show DiK W ob W3 W3 (.slice none 0 0) (dedT rows 0) from ⟨Only.refl _,r2,[],Ow.nil,RowsT.nil⟩)
 have HIN:=Lib.hid (fun (z:World) (hz:Below w.heap.size w z)=>hin.on hz)
 have hn4:=hT.2.2.1
 have HRO:=Lib.hid (tab_row hT)
 have hlo:w.heap.size + 2 ≤ ob:=by omega
 have hobl:ob < W3.heap.size:=by omega
 have HOB:=Lib.hid hob
 have HFR:=Lib.hid (fun (z:World) (v:Value) (l:List Row1) (h:DiK W ob W3 z v l)=>show Below w.heap.size w z from Only.from_ B3 rfl h.1 fun j (hj:j=ob)=>by omega)
 have HWW:=Lib.hid hW3
 clear hT hin hW3 B3 r0 r1 r2 s3 hob
 go_enter Tryz.func52,Tryz.ntmps52
 go_upto_region 2 with fail
 rw [HWW.out]
 try rw [show w.heap.size + 1 + 1=w.heap.size + 2 from rfl]
 rw [HOB.out]
 have t1:=HR.out.1.cell 1
 go_wp2
 go_loopg [4] rows.length (fun g iv wr=>∃ (i:Nat) (v:Value),i ≤ rows.length ∧ g=rows.length - i ∧ iv=.int .i64 i ∧ DiK W ob W3 wr v (dedT rows i))
 case atStart=>exact ⟨0,_,by omega,by omega,rfl,HD3.out⟩
 case round=>
  obtain ⟨i,v,hi,rfl,rfl,hd⟩:=hrel
  have HD:=Lib.hid hd
  have HB:=Lib.hid (HFR.out _ _ _ hd)
  have ht:=HR.out.1.only hd.1 (by omega)
  have t1:=ht.cell 1
  have htl:=ht.lt
  have hdl:=dedT_len rows i hi
  by_cases hil:i < rows.length
  ·have hiI:(i:Int) < (rows.length:Int):=by omega
   obtain ⟨b0,o0,s,rfl,hB0w,d0w,hs2,hs3,hslw⟩:=(HIN.out _ (Below.refl _ _)).at_ hil
   have d0:wr.cell? ⟨b0,o0 + i,none⟩=some (.slice s.A rows[i].length s.c):=(HB.out.cell (p:=⟨_,_,none⟩) hB0w).trans d0w
   have hB0:b0 < wr.heap.size:=by have:=HB.out.size;omega
   have hsl:=hslw.on HB.out
   have HBW:=Lib.hid hB0w
   clear d0w hslw hB0w
   have hrl6:=rowValid_len (HRO.out _ (List.getElem_mem hil)).1
   have Hf:=Lib.hid (show dedT rows (i + 1)=dedT rows i ++ (if keepD rows i then [rows[i]] else []) by
    rw [dedT,List.getD_eq_getElem?_getD,List.getElem?_eq_getElem hil];rfl)
   have hcmp:∃ q,keepD rows i=q:=⟨_,rfl⟩
   obtain ⟨q,hq⟩:=hcmp
   rw [hq] at Hf
   have HSl:=Lib.hid (And.intro hs2 (And.intro hs3 hsl))
   have HT1:=Lib.hid (And.intro htl t1)
   have HD0:=Lib.hid (And.intro hB0 d0)
   have REST:∀ (w2:World) (a':Act),Below wr.heap.size wr w2 → True:=fun _ _ _=>trivial
   have T1:=fun z:Aft wr.heap.size wr=>z.cell htl t1
   have D0:=fun z:Aft wr.heap.size wr=>z.cell hB0 d0
   have hmx:rows[i].length ≤ maxLen:=by unfold maxLen;omega
   clear ht hd REST
   by_cases h0:i=0
   ·have hq1:q=true:=by rw [← hq];unfold keepD;simp [h0]
    subst hq1
    have h0I:((i:Int) == 0)=true:=by simp [h0]
    rw [if_pos rfl] at Hf
    clear hq h0 hsl
    obtain ⟨r,hr⟩:∃ r,rows[i]=r:=⟨_,rfl⟩
    rw [hr] at Hf d0 hs2 HSl D0 HD0 hrl6
    clear hr hs2 d0 hmx
    unfold maxLen at hs3
    go_upto_region 5 with fail
    refine wp_region_aft wr.heap.size (by kernel_rfl) (by kernel_rfl) ?_
    repeat (go_big_quiet_step ((go_at_call 70;exact Calls.aft (Nat.le_refl _) ((specCompareRows_ok none none 0 0 [] [] _ (by decide) (by decide) Sl.nil Sl.nil _ rfl)))))
    refine wpQuiet_nil ?_
    intro w2 hw'
    obtain ⟨⟨_,hb2⟩,rfl⟩:=hw'
    have HD2:=Lib.hid (HD.out.below hb2)
    have HS2:=Lib.hid (HSl.out.2.2.on hb2)
    have HBb:=Lib.hid hb2
    clear t1 T1 D0 hb2
    obtain ⟨svs,hO,hRT⟩:=HD2.out.2.2
    obtain ⟨Av,cv,hve,hcv1,hcv2,_⟩:=hO.shape svC_length
    have Hsv:=Lib.hid (And.intro hO hRT)
    have hsl:svs.length ≤ 400:=by rw [hRT.1];omega
    obtain ⟨nv,hnv⟩:∃ n,svs.length=n:=⟨_,rfl⟩
    have hnv4:nv ≤ 400:=by omega
    rw [hnv] at hve hcv1
    subst hve
    have Hnv:=Lib.hid hnv
    have SB:=Lib.hid (fun (z:World) (hz:Below w2.heap.size w2 z)=>show z.cell? ⟨ob,1,none⟩=some (.slice Av nv cv) ∧ z.cell? ⟨w.heap.size,1,none⟩=some (.slice (some ⟨b0,o0,none⟩) rows.length c) ∧ z.cell? ⟨b0,o0 + i,none⟩=some (.slice s.A r.length s.c) from
     ⟨((HD2.out.below hz).2.1).cell 1,((bch HBb.out hz).cell (p:=⟨_,_,none⟩) HT1.out.1).trans HT1.out.2,((bch HBb.out hz).cell (p:=⟨_,_,none⟩) HD0.out.1).trans HD0.out.2⟩)
    obtain ⟨s0,_,_⟩:=SB.out _ (Below.refl _ _)
    obtain ⟨u0,hu0⟩:∃ z,w2.drew=z:=⟨_,rfl⟩
    have Bu0:=Lib.hid (show Below w2.heap.size w2 u0 from hu0 ▸ (Below.refl _ _).drew)
    have Hu0:=Lib.hid hu0
    unfold maxLen at hcv2
    clear hu0 hO hRT hnv s0
    go_upto_region 6 with fail
    refine wp_region_g 11 (fun z=>z.cell? ⟨ob,1,none⟩=some (.slice Av nv cv) ∧ z.cell? ⟨w.heap.size,1,none⟩=some (.slice (some ⟨b0,o0,none⟩) rows.length c) ∧ z.cell? ⟨b0,o0 + i,none⟩=some (.slice s.A r.length s.c)) (by kernel_rfl) ?_ (fun hHeld=>?_)
    ·exact SB.out _ (Below.refl _ _).drew
    rw [Hu0.out] at hHeld ⊢
    refine tkH (i:=0) rfl (by assumption) ?_
    try simp only [Act.put,sTA,sC0,sCS]
    refine tkH (i:=1) rfl (by assumption) ?_
    try simp only [Act.put,sTA,sC0,sCS]
    refine tkH (i:=2) rfl (by assumption) ?_
    try simp only [Act.put,sTA,sC0,sCS]
    refine tkH (i:=3) rfl (by assumption) ?_
    try simp only [Act.put,sTA,sC0,sCS]
    refine tkH (i:=4) rfl (by assumption) ?_
    try simp only [Act.put,sTA,sC0,sCS]
    refine tkH (i:=5) rfl (by assumption) ?_
    try simp only [Act.put,sTA,sC0,sCS]
    refine tkH (i:=6) rfl (by assumption) ?_
    try simp only [Act.put,sTA,sC0,sCS]
    refine rdG (i:=7) (by kernel_rfl) rfl (fun K hK=>?_)
    go_simp
    go_at_call 76
    refine (copyRow_ok s.A s.c r u0 (by omega) (HS2.out.sl.on Bu0.out)).mono ?_
    rintro e y1 ⟨v7,rfl,how7,hb⟩
    obtain ⟨A7,c7,rfl,hc71,hc72,hsl7⟩:=how7.shape valC_length
    have By1:=Lib.hid (bch Bu0.out hb)
    have HS7:=Lib.hid (And.intro hc71 (And.intro hc72 (hsl7.low (Nat.zero_le _))))
    clear hb how7 hsl7 hc71 hc72
    refine hK.out _ _ ?hS31 (fun hHeld=>?_)
    case hS31=>exact fun _=>SB.out _ By1.out
    replace hHeld:=hHeld (by decide)
    clear hK K
    try simp only [Act.put,sTA,sC0,sCS]
    refine rdG (i:=8) (by kernel_rfl) rfl (fun K hK=>?_)
    obtain ⟨U,hU⟩:∃ z,y1.alloc (.cells #[.slice A7 r.length c7] 100)=z:=⟨_,rfl⟩
    have hub:Below y1.heap.size y1 U:=by rw [← hU];exact balloc (Below.refl _ _) _
    have By2:=Lib.hid (bch By1.out hub)
    have HDU:=Lib.hid (HD2.out.below By2.out)
    have HOU:=Lib.hid (Hsv.out.1.on By2.out)
    have HTU:=Lib.hid (Hsv.out.2.on By2.out)
    have HSU:=Lib.hid (HS7.out.2.2.on hub)
    have HS5:=Lib.hid (show Sl 1 svC U U.heap.size (some ⟨y1.heap.size,0,none⟩) [(⟨A7,r.length,c7⟩:SV)] by rw [← hU];exact Row.sl' (t:=100) svC_length ((Row.new y1 _ _).of rfl))
    have hsz5:W3.heap.size ≤ U.heap.size:=HDU.out.1.size
    go_simp
    try rw [hU]
    have HU:=Lib.hid hU
    clear hU hub
    refine hK.out _ _ ?hS32 (fun hHeld=>?_)
    case hS32=>exact fun _=>SB.out _ By2.out
    replace hHeld:=hHeld (by decide)
    clear hK K
    try simp only [Act.put,sTA,sC0,sCS]
    refine rdG (i:=9) (by kernel_rfl) rfl (fun K hK=>?_)
    refine step_app2 rfl (.tmp 33) (.tmp 40) 30 rfl W3.heap.size 100 _ 1 24 svC Tryz.underlying30 zeroRowW rfl (by decide) (by decide) svC_length svC_one _ svs rfl HOU.out (some ⟨y1.heap.size,0,none⟩) 1 1 [(⟨A7,r.length,c7⟩:SV)] rfl rfl HS5.out (by simp only [List.length_singleton];omega) hsz5 ?_
    intro v' w' hown hgr hob
    obtain ⟨A8,c8,rfl,hc81,hc82,_⟩:=hown.shape svC_length
    have hgo:∀ k,(Value.slice Av nv cv).ownBlock=some k → W3.heap.size ≤ k:=fun k hk=>(HOU.out.ty k hk).1
    have HN:=Lib.hid (And.intro hown ((HTU.out.snoc (s:=⟨A7,r.length,c7⟩) (xs:=r) rfl HS7.out.1 HS7.out.2.1 HSU.out).grown hgr fun b hb=>.inr ⟨_,by decide,(HOU.out.ty b hb).2.2⟩))
    have HON:=Lib.hid (HDU.out.1.grown hgr fun k hk=>.inr (hgo k hk))
    have hgb:∀ k,k < W3.heap.size → k < U.heap.size → w'.heap[k]? = U.heap[k]?:=fun k hk hl=>hgr.block k hl fun e=>by have:=hgo k e.symm;omega
    have hro:=HDU.out.2.1.keep (hgb ob hobl HDU.out.2.1.lt)
    have HRo:=Lib.hid hro
    have hin':=HIN.out _ (Only.from_ HBASE.out rfl HON.out fun j (hj:j=ob)=>by omega)
    have Fo:=hro.frozen 1
    have Lo:=hro.lt
    have HRt:=Lib.hid ((HR.out.1.only HON.out (show ¬ w.heap.size=ob by omega)).cell 1)
    have HRr:=Lib.hid (show w'.cell? ⟨b0,o0 + i,none⟩=some (.slice s.A r.length s.c) from by
     have h1:=(SB.out _ By2.out).2.2
     have hb0:b0 < wr.heap.size:=HD0.out.1
     have hne:(Value.slice Av nv cv).ownBlock ≠ some b0:=fun e=>by have:=hgo b0 e;have:=HBW.out;omega
     exact (World.cell?_of_block (w:=U) (a:=⟨b0,o0 + i,none⟩) (hgr.block b0 (by have:=(bch HBb.out By2.out).size;omega) fun e=>hne e.symm)).trans h1)
    clear hown hgr hob hgo hgb hro hin'
    refine hK.out _ _ ?hS33 (fun hHeld=>?_)
    case hS33=>exact fun _=>⟨HRo.out.cell 1,HRt.out,HRr.out⟩
    replace hHeld:=hHeld (by decide)
    clear hK K
    try simp only [Act.put,sTA,sC0,sCS]
    refine tkH (i:=10) rfl (by assumption) ?_
    try simp only [Act.put,sTA,sC0,sCS]
    refine rdG (i:=11) (by kernel_rfl) rfl (fun K hK=>?_)
    go_simp
    refine hK.out _ _ ?hS35 (fun hHeld=>?_)
    case hS35=>exact fun h=>absurd rfl h
    clear hK K
    try simp only [Act.put,sTA,sC0,sCS]
    refine wpAnyG_done (by kernel_rfl) ?_ _
    go_wp2
    go_roundg (rows.length - (i + 1))
    case measure=>omega
    case rel=>
     have hle:(svs ++ [(⟨A7,r.length,c7⟩:SV)]).length=svs.length + 1:=by simp
     have hso:=Only.set (S:=fun k=>k=ob) (p:=⟨ob,1,none⟩) (Only.refl w') (.inl rfl) (.slice A8 (svs.length + 1) c8)
     have h1:=HN.out.1
     rw [hle] at h1
     refine ⟨i + 1,.slice A8 (svs.length + 1) c8,by omega,rfl,by go_num,HON.out.trans hso,HRo.out.set 1 _,svs ++ [(⟨A7,r.length,c7⟩:SV)],h1.only hso fun j (hj:j=ob)=>.inl (by omega),?_⟩
     rw [Hf.out]
     exact HN.out.2.only hso fun j (hj:j=ob)=>.inr ⟨_,by decide,hj ▸ HRo.out.ty⟩
   ·have h0I:((i:Int) == 0)=false:=by simp;omega
    have hi1:i - 1 < rows.length:=by omega
    obtain ⟨b1,o1,s1,hA1,hB1,e0,hs12,hs13,hsl1⟩:=(HIN.out _ HB.out).at_ hi1
    cases hA1
    have hrl61:=rowValid_len (HRO.out _ (List.getElem_mem hi1)).1
    have hmx1:rows[i - 1].length ≤ maxLen:=by unfold maxLen;omega
    obtain ⟨R,hR⟩:∃ R,rCmp rows[i - 1] rows[i]=R:=⟨_,rfl⟩
    have hqR:(R != 0)=q:=by
     rw [← hq,← hR]
     unfold keepD
     rw [List.getD_eq_getElem?_getD,List.getD_eq_getElem?_getD,List.getElem?_eq_getElem hil,List.getElem?_eq_getElem hi1]
     rw [Bool.eq_iff_iff,bne_iff_ne,decide_eq_true_iff]
     exact ⟨fun h=>.inr h,fun h=>h.elim (fun h=>absurd h h0) id⟩
    have HC:=Lib.hid (fun z:Aft wr.heap.size wr=>specCompareRows_ok s1.A s.A s1.c s.c rows[i - 1] rows[i] z.v hmx1 hmx (hsl1.sl.on z.h) (hsl.sl.on z.h) R hR)
    have hwi:IntKind.i64.wrap ((i:Int) - 1)=((i - 1:Nat):Int):=by rw [IntWalk.i64_in _ (by omega)];omega
    have hi1I:((i - 1:Nat):Int) < (rows.length:Int):=by omega
    have hsub:(i:Int) - 1=((i - 1:Nat):Int):=by omega
    obtain ⟨r1,hr1⟩:∃ r,rows[i - 1]'hi1=r:=⟨_,rfl⟩
    rw [hr1] at e0 HC
    obtain ⟨i1,hi1e⟩:∃ n,i - 1=n:=⟨_,rfl⟩
    rw [hi1e] at hwi hi1I hsub e0
    obtain ⟨r,hr⟩:∃ r,rows[i]=r:=⟨_,rfl⟩
    rw [hr] at Hf d0 hs2 HSl D0 HD0 hrl6 HC
    have E0:=fun z:Aft wr.heap.size wr=>z.cell hB1 e0
    clear hr hr1 hs2 d0 e0 hs12 hsl1 hsl hR hq hmx hmx1 hi1e hi1 hrl61
    unfold maxLen at hs3 hs13
    go_upto_region 5 with fail
    refine wp_region_aft wr.heap.size (by kernel_rfl) (by kernel_rfl) ?_
    repeat (go_big_quiet_step ((go_at_call 70;exact Calls.aft (Nat.le_refl _) (HC.out _))))
    refine wpQuiet_nil ?_
    intro w2 hw'
    obtain ⟨⟨_,hb2⟩,rfl⟩:=hw'
    cases q
    ·rw [if_neg (by decide),List.append_nil] at Hf
     go_wp2
     go_roundg (rows.length - (i + 1))
     case measure=>omega
     case rel=>exact ⟨i + 1,v,by omega,rfl,by go_num,by rw [Hf.out];exact HD.out.below hb2⟩
    ·rw [if_pos rfl] at Hf
     have HD2:=Lib.hid (HD.out.below hb2)
     have HS2:=Lib.hid (HSl.out.2.2.on hb2)
     have HBb:=Lib.hid hb2
     clear t1 T1 D0 hb2
     obtain ⟨svs,hO,hRT⟩:=HD2.out.2.2
     obtain ⟨Av,cv,hve,hcv1,hcv2,_⟩:=hO.shape svC_length
     have Hsv:=Lib.hid (And.intro hO hRT)
     have hsl:svs.length ≤ 400:=by rw [hRT.1];omega
     obtain ⟨nv,hnv⟩:∃ n,svs.length=n:=⟨_,rfl⟩
     have hnv4:nv ≤ 400:=by omega
     rw [hnv] at hve hcv1
     subst hve
     have Hnv:=Lib.hid hnv
     have SB:=Lib.hid (fun (z:World) (hz:Below w2.heap.size w2 z)=>show z.cell? ⟨ob,1,none⟩=some (.slice Av nv cv) ∧ z.cell? ⟨w.heap.size,1,none⟩=some (.slice (some ⟨b0,o0,none⟩) rows.length c) ∧ z.cell? ⟨b0,o0 + i,none⟩=some (.slice s.A r.length s.c) from
      ⟨((HD2.out.below hz).2.1).cell 1,((bch HBb.out hz).cell (p:=⟨_,_,none⟩) HT1.out.1).trans HT1.out.2,((bch HBb.out hz).cell (p:=⟨_,_,none⟩) HD0.out.1).trans HD0.out.2⟩)
     obtain ⟨s0,_,_⟩:=SB.out _ (Below.refl _ _)
     obtain ⟨u0,hu0⟩:∃ z,w2.drew=z:=⟨_,rfl⟩
     have Bu0:=Lib.hid (show Below w2.heap.size w2 u0 from hu0 ▸ (Below.refl _ _).drew)
     have Hu0:=Lib.hid hu0
     unfold maxLen at hcv2
     clear hu0 hO hRT hnv s0
     go_upto_region 6 with fail
     refine wp_region_g 11 (fun z=>z.cell? ⟨ob,1,none⟩=some (.slice Av nv cv) ∧ z.cell? ⟨w.heap.size,1,none⟩=some (.slice (some ⟨b0,o0,none⟩) rows.length c) ∧ z.cell? ⟨b0,o0 + i,none⟩=some (.slice s.A r.length s.c)) (by kernel_rfl) ?_ (fun hHeld=>?_)
     ·exact SB.out _ (Below.refl _ _).drew
     rw [Hu0.out] at hHeld ⊢
     refine tkH (i:=0) rfl (by assumption) ?_
     try simp only [Act.put,sTA,sC0,sCS]
     refine tkH (i:=1) rfl (by assumption) ?_
     try simp only [Act.put,sTA,sC0,sCS]
     refine tkH (i:=2) rfl (by assumption) ?_
     try simp only [Act.put,sTA,sC0,sCS]
     refine tkH (i:=3) rfl (by assumption) ?_
     try simp only [Act.put,sTA,sC0,sCS]
     refine tkH (i:=4) rfl (by assumption) ?_
     try simp only [Act.put,sTA,sC0,sCS]
     refine tkH (i:=5) rfl (by assumption) ?_
     try simp only [Act.put,sTA,sC0,sCS]
     refine tkH (i:=6) rfl (by assumption) ?_
     try simp only [Act.put,sTA,sC0,sCS]
     refine rdG (i:=7) (by kernel_rfl) rfl (fun K hK=>?_)
     go_simp
     go_at_call 76
     refine (copyRow_ok s.A s.c r u0 (by omega) (HS2.out.sl.on Bu0.out)).mono ?_
     rintro e y1 ⟨v7,rfl,how7,hb⟩
     obtain ⟨A7,c7,rfl,hc71,hc72,hsl7⟩:=how7.shape valC_length
     have By1:=Lib.hid (bch Bu0.out hb)
     have HS7:=Lib.hid (And.intro hc71 (And.intro hc72 (hsl7.low (Nat.zero_le _))))
     clear hb how7 hsl7 hc71 hc72
     refine hK.out _ _ ?hS19 (fun hHeld=>?_)
     case hS19=>exact fun _=>SB.out _ By1.out
     replace hHeld:=hHeld (by decide)
     clear hK K
     try simp only [Act.put,sTA,sC0,sCS]
     refine rdG (i:=8) (by kernel_rfl) rfl (fun K hK=>?_)
     obtain ⟨U,hU⟩:∃ z,y1.alloc (.cells #[.slice A7 r.length c7] 100)=z:=⟨_,rfl⟩
     have hub:Below y1.heap.size y1 U:=by rw [← hU];exact balloc (Below.refl _ _) _
     have By2:=Lib.hid (bch By1.out hub)
     have HDU:=Lib.hid (HD2.out.below By2.out)
     have HOU:=Lib.hid (Hsv.out.1.on By2.out)
     have HTU:=Lib.hid (Hsv.out.2.on By2.out)
     have HSU:=Lib.hid (HS7.out.2.2.on hub)
     have HS5:=Lib.hid (show Sl 1 svC U U.heap.size (some ⟨y1.heap.size,0,none⟩) [(⟨A7,r.length,c7⟩:SV)] by rw [← hU];exact Row.sl' (t:=100) svC_length ((Row.new y1 _ _).of rfl))
     have hsz5:W3.heap.size ≤ U.heap.size:=HDU.out.1.size
     go_simp
     try rw [hU]
     have HU:=Lib.hid hU
     clear hU hub
     refine hK.out _ _ ?hS20 (fun hHeld=>?_)
     case hS20=>exact fun _=>SB.out _ By2.out
     replace hHeld:=hHeld (by decide)
     clear hK K
     try simp only [Act.put,sTA,sC0,sCS]
     refine rdG (i:=9) (by kernel_rfl) rfl (fun K hK=>?_)
     refine step_app2 rfl (.tmp 33) (.tmp 40) 30 rfl W3.heap.size 100 _ 1 24 svC Tryz.underlying30 zeroRowW rfl (by decide) (by decide) svC_length svC_one _ svs rfl HOU.out (some ⟨y1.heap.size,0,none⟩) 1 1 [(⟨A7,r.length,c7⟩:SV)] rfl rfl HS5.out (by simp only [List.length_singleton];omega) hsz5 ?_
     intro v' w' hown hgr hob
     obtain ⟨A8,c8,rfl,hc81,hc82,_⟩:=hown.shape svC_length
     have hgo:∀ k,(Value.slice Av nv cv).ownBlock=some k → W3.heap.size ≤ k:=fun k hk=>(HOU.out.ty k hk).1
     have HN:=Lib.hid (And.intro hown ((HTU.out.snoc (s:=⟨A7,r.length,c7⟩) (xs:=r) rfl HS7.out.1 HS7.out.2.1 HSU.out).grown hgr fun b hb=>.inr ⟨_,by decide,(HOU.out.ty b hb).2.2⟩))
     have HON:=Lib.hid (HDU.out.1.grown hgr fun k hk=>.inr (hgo k hk))
     have hgb:∀ k,k < W3.heap.size → k < U.heap.size → w'.heap[k]? = U.heap[k]?:=fun k hk hl=>hgr.block k hl fun e=>by have:=hgo k e.symm;omega
     have hro:=HDU.out.2.1.keep (hgb ob hobl HDU.out.2.1.lt)
     have HRo:=Lib.hid hro
     have hin':=HIN.out _ (Only.from_ HBASE.out rfl HON.out fun j (hj:j=ob)=>by omega)
     have Fo:=hro.frozen 1
     have Lo:=hro.lt
     have HRt:=Lib.hid ((HR.out.1.only HON.out (show ¬ w.heap.size=ob by omega)).cell 1)
     have HRr:=Lib.hid (show w'.cell? ⟨b0,o0 + i,none⟩=some (.slice s.A r.length s.c) from by
      have h1:=(SB.out _ By2.out).2.2
      have hb0:b0 < wr.heap.size:=HD0.out.1
      have hne:(Value.slice Av nv cv).ownBlock ≠ some b0:=fun e=>by have:=hgo b0 e;have:=HBW.out;omega
      exact (World.cell?_of_block (w:=U) (a:=⟨b0,o0 + i,none⟩) (hgr.block b0 (by have:=(bch HBb.out By2.out).size;omega) fun e=>hne e.symm)).trans h1)
     clear hown hgr hob hgo hgb hro hin'
     refine hK.out _ _ ?hS21 (fun hHeld=>?_)
     case hS21=>exact fun _=>⟨HRo.out.cell 1,HRt.out,HRr.out⟩
     replace hHeld:=hHeld (by decide)
     clear hK K
     try simp only [Act.put,sTA,sC0,sCS]
     refine tkH (i:=10) rfl (by assumption) ?_
     try simp only [Act.put,sTA,sC0,sCS]
     refine rdG (i:=11) (by kernel_rfl) rfl (fun K hK=>?_)
     go_simp
     refine hK.out _ _ ?hS23 (fun hHeld=>?_)
     case hS23=>exact fun h=>absurd rfl h
     clear hK K
     try simp only [Act.put,sTA,sC0,sCS]
     refine wpAnyG_done (by kernel_rfl) ?_ _
     go_wp2
     go_roundg (rows.length - (i + 1))
     case measure=>omega
     case rel=>
      have hle:(svs ++ [(⟨A7,r.length,c7⟩:SV)]).length=svs.length + 1:=by simp
      have hso:=Only.set (S:=fun k=>k=ob) (p:=⟨ob,1,none⟩) (Only.refl w') (.inl rfl) (.slice A8 (svs.length + 1) c8)
      have h1:=HN.out.1
      rw [hle] at h1
      refine ⟨i + 1,.slice A8 (svs.length + 1) c8,by omega,rfl,by go_num,HON.out.trans hso,HRo.out.set 1 _,svs ++ [(⟨A7,r.length,c7⟩:SV)],h1.only hso fun j (hj:j=ob)=>.inl (by omega),?_⟩
      rw [Hf.out]
      exact HN.out.2.only hso fun j (hj:j=ob)=>.inr ⟨_,by decide,hj ▸ HRo.out.ty⟩
  ·have hiI:¬ (i:Int) < (rows.length:Int):=by omega
   have hte:dedT rows i=dedR rows:=by unfold dedR;rw [show i=rows.length by omega]
   rw [hte] at hd
   obtain ⟨hk1,hk2,svs,hO,hRT⟩:=hd
   obtain ⟨A5,c5,rfl,hc51,hc52,hsl5⟩:=hO.shape svC_length
   have HRES:=Lib.hid (And.intro hRT.1 (And.intro hc51 (And.intro hc52 (show InT wr A5 (dedR rows) from ⟨svs,hsl5.low (Nat.zero_le _),hRT⟩))))
   have HRB:=Lib.hid (HR.out.2.only hk1 (by omega))
   obtain ⟨q0,q1,q2,q3,q4⟩:=tbox HRB.out
   have o0:=hk2.cell 0
   have o1:=hk2.cell 1
   clear hk1 hk2 hO hRT hsl5 hte ht htl hdl
   go_wp2
   refine bodyPost_ret (v:=.agg #[.int .i64 W,.slice A5 svs.length c5]) (by simp [results,Tryz.results52,go_sem,q0,q1,q2,q3,q4]) rfl ⟨A5,c5,by rw [HRES.out.1],by rw [← HRES.out.1];exact HRES.out.2.1,HRES.out.2.2.1,HRES.out.2.2.2.put2 HRB.out _ _,below_put HB.out (by omega) _ _⟩
end Go.Proofs.YtcbfbgngkdiijaaGreat
