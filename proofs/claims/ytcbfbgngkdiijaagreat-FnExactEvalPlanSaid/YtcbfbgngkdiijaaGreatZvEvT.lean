import Derived.Test.YtcbfbgngkdiijaaGreatProg
import Derived.Test.YtcbfbgngkdiijaaGreatZvGrw
import Derived.Test.YtcbfbgngkdiijaaGreatZvEvS
import Derived.Test.YtcbfbgngkdiijaaGreatZvPln
namespace Go.Proofs.YtcbfbgngkdiijaaGreat
open Go.RowKit Go.Qo
set_option linter.unusedVariables false
set_option linter.unusedSimpArgs false

theorem tab_row {W:Int} {rows:List Row1} (h:TabOk W rows):∀ r ∈ rows,RowOk W r:=fun r hr=>h.2.2.2.1 r hr
theorem exs_at {w:World} {A:Option Addr} {es:List Ex} (h:ExsIn w w.heap.size A es) {i:Nat} (hi:i < es.length):∃ b o g,A=some ⟨b,o,none⟩ ∧ b < w.heap.size ∧ FeAt w b (o + i * 5) g ∧ ExIn w w.heap.size g es[i]:=h.at_ hi
theorem filter_snoc {P:Row1 → Bool} {xs:List Row1} {k:Nat} (h:k < xs.length):(xs.take (k + 1)).filter P=if P xs[k]=true then (xs.take k).filter P ++ [xs[k]] else (xs.take k).filter P:=by
 rw [List.take_add_one,List.getElem?_eq_getElem h,List.filter_append]
 by_cases hp:P xs[k]=true
 ·rw [if_pos hp];simp [hp]
 ·rw [if_neg hp];simp [hp]
theorem mapR_take {α β:Type} {f:α → β} {l:List α} {i:Nat} (h:i < l.length):(l.map f).take (i + 1)=(l.map f).take i ++ [f l[i]]:=by
 rw [List.take_add_one,List.getElem?_map,List.getElem?_eq_getElem h];rfl

set_option maxRecDepth 20000 in
set_option maxHeartbeats 4000000 in
theorem filterTable_ok (W:Int) (rows:List Row1) (A:Option Addr) (c:Nat) (x:Ex) (f:FE) (w:World) (hT:TabOk W rows) (hx:ExIn w w.heap.size f x) (hok:ExOk W 8 x) (hin:InT w A rows) :
 Calls Tryz.prog 48 #[.agg #[.int .i64 W,.slice A rows.length c],feV f] w (TbRes W (colS (rows.filter (holdsE x))) w):=by
 obtain ⟨W3,hW3⟩:∃ z,((w.alloc (.cells #[.int .i64 W,.slice A rows.length c] 32)).alloc (.cells #[.int .i64 f.kind,.int .i64 f.col,.bool f.val.1,.int .i64 f.val.2,.slice f.sv.A f.sv.n f.sv.c] 87)).alloc (.cells #[.int .i64 0,.slice none 0 0] 32)=z:=⟨_,rfl⟩
 have s3:W3.heap.size=w.heap.size + 3:=by rw [← hW3];simp
 have B3:Below w.heap.size w W3:=by rw [← hW3];exact balloc (balloc (balloc (Below.refl _ _) _) _) _
 have r0:Row W3 w.heap.size 32 [.int .i64 W,.slice A rows.length c]:=by rw [← hW3];exact ((Row.new _ _ _).alloc _).alloc _
 have r1:Row W3 (w.heap.size + 1) 87 [.int .i64 f.kind,.int .i64 f.col,.bool f.val.1,.int .i64 f.val.2,.slice f.sv.A f.sv.n f.sv.c]:=by rw [← hW3];exact (Row.second _ _ _ _).alloc _
 have r2:Row W3 (w.heap.size + 2) 32 [.int .i64 0,.slice none 0 0]:=by rw [← hW3];exact Row.third _ _ _ _ _
 obtain ⟨W4,hW4⟩:∃ z,W3.alloc (.cells #[] 100)=z:=⟨_,rfl⟩
 have b4:Below W3.heap.size W3 W4:=by rw [← hW4];exact balloc (Below.refl _ _) _
 have hG4:=GR.start (lo:=w.heap.size) (w:=W3) (by omega)
 rw [hW4] at hG4
 have HG4:=Lib.hid hG4
 have HR:=Lib.hid (And.intro (r0.on b4) (And.intro (r1.on b4) (r2.on b4)))
 have HBASE:=Lib.hid (bch B3 b4)
 have HIN:=Lib.hid (fun (z:World) (hz:Below w.heap.size w z)=>hin.on hz)
 have HX:=Lib.hid (fun (z:World) (hz:Below w.heap.size w z)=>hx.on hz)
 have HRO:=Lib.hid (tab_row hT)
 have hn4:=hT.2.2.1
 have hlt3:w.heap.size + 2 < W3.heap.size:=by omega
 have HOK:=Lib.hid hok
 have HWW:=Lib.hid (show ((w.alloc (.cells #[.int .i64 W,.slice A rows.length c] 32)).alloc (.cells #[.int .i64 f.kind,.int .i64 f.col,.bool f.val.1,.int .i64 f.val.2,.slice f.sv.A f.sv.n f.sv.c] 87)).alloc (.cells #[.int .i64 0,.slice none 0 0] 32)=W3 from hW3)
 have HW4:=Lib.hid hW4
 obtain ⟨L,hL⟩:∃ l,rows.filter (holdsE x)=l:=⟨_,rfl⟩
 rw [hL]
 have HLE:=Lib.hid hL
 have HLO:=Lib.hid (show ∀ r ∈ L,RowOk W r from fun r hr=>HRO.out r (List.mem_filter.1 (hL ▸ hr)).1)
 unfold feV
 clear hL hT hx hok hin hW3 hW4 B3 b4 r0 r1 r2 hG4 s3
 go_enter Tryz.func48,Tryz.ntmps48
 go_upto_region 1 with fail
 rw [HWW.out]
 go_upto_region 2 with fail
 rw [HW4.out]
 have t1:=HR.out.1.cell 1
 go_wp2
 go_loopg [5,6] rows.length (fun g v iv wr=>∃ i:Nat,i ≤ rows.length ∧ g=rows.length - i ∧ iv=.int .i64 i ∧ GR w.heap.size W3.heap.size W4 wr v ((rows.take i).filter (holdsE x)))
 case atStart=>exact ⟨0,by omega,by omega,rfl,HG4.out⟩
 case round=>
  obtain ⟨i,hi,rfl,rfl,hg⟩:=hrel
  have HG:=Lib.hid hg
  have HB:=Lib.hid (hg.from_ HBASE.out (by omega))
  have ht:=HR.out.1.only hg.keep (by omega)
  have he:=HR.out.2.1.only hg.keep (by omega)
  have t0:=ht.cell 0
  have t1:=ht.cell 1
  have htl:=ht.lt
  have hel:=he.lt
  have hfl:((rows.take i).filter (holdsE x)).length ≤ 400:=Nat.le_trans (List.length_filter_le _ _) (by rw [List.length_take];omega)
  by_cases hil:i < rows.length
  ·have hiI:(i:Int) < (rows.length:Int):=by omega
   obtain ⟨b0,o0,s,rfl,hB0,d0,hs2,hs3,hsl⟩:=(HIN.out _ HB.out).at_ hil
   have hro:=HRO.out _ (List.getElem_mem hil)
   obtain ⟨q,hq⟩:∃ q,holdsE x rows[i]=q:=⟨_,rfl⟩
   have HHO:=Lib.hid (fun z:Aft wr.heap.size wr=>specHolds_ok x f rows[i] s.A s.c W 8 z.v q (HX.out _ (bch HB.out z.h)) HOK.out hro (hsl.sl.on z.h) hq)
   unfold feV at HHO
   have Hf:=Lib.hid (filter_snoc (P:=holdsE x) hil)
   rw [hq] at Hf
   have Hro:=Lib.hid hro
   obtain ⟨r,hr⟩:∃ r,rows[i]=r:=⟨_,rfl⟩
   rw [hr] at HHO Hf d0 hs2 hsl
   have e0:=he.cell 0
   have e1:=he.cell 1
   have e2:=he.cell 2
   have e3:=he.cell 3
   have e4:=he.cell 4
   have T1:=fun z:Aft wr.heap.size wr=>z.cell htl t1
   have E0:=fun z:Aft wr.heap.size wr=>z.cell hel e0
   have E1:=fun z:Aft wr.heap.size wr=>z.cell hel e1
   have E2:=fun z:Aft wr.heap.size wr=>z.cell hel e2
   have E3:=fun z:Aft wr.heap.size wr=>z.cell hel e3
   have E4:=fun z:Aft wr.heap.size wr=>z.cell hel e4
   have D0:=fun z:Aft wr.heap.size wr=>z.cell hB0 d0
   have HD:=Lib.hid (And.intro hB0 d0)
   have HSl:=Lib.hid (And.intro hs2 (And.intro hs3 hsl))
   unfold maxLen at hs3
   clear hro hq hr ht he hg hsl e0 e1 e2 e3 e4
   go_upto_region 5 with fail
   refine wp_region_aft wr.heap.size (by kernel_rfl) (by kernel_rfl) ?_
   repeat (go_big_quiet_step ((go_at_call 72;exact Calls.aft (Nat.le_refl _) (HHO.out _))))
   refine wpQuiet_nil ?_
   intro w2 hw'
   obtain ⟨⟨_,hb2⟩,rfl⟩:=hw'
   have HG2:=Lib.hid (HG.out.below hb2)
   have HS2:=Lib.hid (HSl.out.2.2.on hb2)
   have t1':w2.cell? ⟨w.heap.size,1,none⟩=some (.slice (some ⟨b0,o0,none⟩) rows.length c):=Aft.cell ⟨w2,hb2⟩ htl t1
   have d0':w2.cell? ⟨b0,o0 + i,none⟩=some (.slice s.A r.length s.c):=Aft.cell ⟨w2,hb2⟩ HD.out.1 HD.out.2
   clear hb2 t0 t1 T1 E0 E1 E2 E3 E4 D0 d0 hB0
   cases q
   ·go_wp2
    go_roundg (rows.length - (i + 1))
    case measure=>omega
    case rel=>exact ⟨i + 1,by omega,rfl,by go_num,by rw [Hf.out];exact HG2.out⟩
   ·skip
    rw [if_pos rfl] at Hf
    obtain ⟨U,hU⟩:∃ z,w2.alloc (.cells #[.slice s.A r.length s.c] 100)=z:=⟨_,rfl⟩
    have hub:Below w2.heap.size w2 U:=by rw [← hU];exact balloc (Below.refl _ _) _
    have HGU:=Lib.hid (HG2.out.below hub)
    have HSU:=Lib.hid (HS2.out.on hub)
    have HS5:=Lib.hid (show Sl 1 svC U U.heap.size (some ⟨w2.heap.size,0,none⟩) [(⟨s.A,r.length,s.c⟩:SV)] by rw [← hU];exact Row.sl' (t:=100) svC_length ((Row.new w2 _ _).of rfl))
    have hsz5:w.heap.size ≤ U.heap.size:=(HGU.out.from_ HBASE.out (by omega)).size
    obtain ⟨svs,hsO,hsT⟩:=HGU.out.own
    have Hsv:=Lib.hid (And.intro hsO hsT)
    have hsl:svs.length ≤ 200000:=by rw [hsT.1];exact Nat.le_trans hfl (by omega)
    have HU:=Lib.hid hU
    clear hU hub hsO hsT
    go_wp2_with (at_builtin;rw [HU.out];refine wpList_app2 rfl (.tmp 22) (.tmp 28) 30 rfl w.heap.size 100 _ 1 24 svC Tryz.underlying30 zeroRowW rfl (by decide) (by decide) svC_length svC_one _ svs rfl Hsv.out.1 (some ⟨w2.heap.size,0,none⟩) 1 1 [(⟨s.A,r.length,s.c⟩:SV)] rfl rfl HS5.out (by simp only [List.length_singleton];omega) hsz5 ?_;intro v' w' hown hgr hob)
    have HGN:=Lib.hid (HGU.out.app (s:=⟨s.A,r.length,s.c⟩) (r:=r) Hsv.out.1 Hsv.out.2 rfl HSl.out.1 HSl.out.2.1 HSU.out hown hgr hob)
    clear hown hgr hob
    go_roundg (rows.length - (i + 1))
    case measure=>omega
    case rel=>exact ⟨i + 1,by omega,rfl,by go_num,by rw [Hf.out];exact HGN.out⟩
  ·have hiI:¬ (i:Int) < (rows.length:Int):=by omega
   have hte:(rows.take i).filter (holdsE x)=L:=by rw [List.take_of_length_le (by omega)];exact HLE.out
   rw [hte] at HG hg hfl
   obtain ⟨A5,c5,rfl,hc51,hc52,hinL⟩:=hg.shape
   obtain ⟨svs,hsO,hsT⟩:=hg.own
   have HSV:=Lib.hid (And.intro hsO hsT)
   have HTO:=Lib.hid (tableOf_ok 0 W A5 c5 svs L wr (Nat.zero_le _) (by omega) (fun r hr=>by have:=rowValid_len (HLO.out r hr).1;omega) (by obtain ⟨_,_,hv,_,_,hs⟩:=hsO.shape svC_length;injection hv with hv1 _ _;subst hv1;exact hs.sl) hsT)
   have HRR:=Lib.hid (HR.out.2.2.only hg.keep (by omega))
   clear hte hg hsO hsT hinL ht he htl hel
   go_wp2_with fail
   refine HTO.out.mono ?_
   intro e w6 h6
   obtain ⟨A6,c6,rfl,h61,h62,h63,hb6⟩:=h6.tb HLO.out
   have HR6:=Lib.hid (And.intro h61 (And.intro h62 (And.intro h63 hb6)))
   have HRQ:=Lib.hid (HRR.out.on hb6)
   obtain ⟨q0,q1,q2,q3,q4⟩:=tbox HRQ.out
   clear h6 h61 h62 h63 hb6 t0 t1
   go_wp2
   exact bodyPost_ret (v:=.agg #[.int .i64 W,.slice A6 (colS L).length c6]) (by simp [results,Tryz.results48,go_sem,q0,q1,q2,q3,q4]) rfl ⟨A6,c6,rfl,HR6.out.1,HR6.out.2.1,HR6.out.2.2.1.put2 HRQ.out _ _,below_put (bch HB.out HR6.out.2.2.2) (by omega) _ _⟩

set_option maxRecDepth 20000 in
set_option maxHeartbeats 8000000 in
theorem projectTable_ok (W:Int) (rows:List Row1) (A:Option Addr) (c:Nat) (es:List Ex) (Ae:Option Addr) (ce:Nat) (Wr:Int) (w:World) (hT:TabOk W rows) (hx:ExsIn w w.heap.size Ae es) (hok:∀ e ∈ es,ExOk W 8 e) (hes:es.length ≤ 6) (hin:InT w A rows) (hout:∀ r ∈ rows.map fun r=>es.map fun e=>exVal r e,RowOk Wr r) :
 Calls Tryz.prog 49 #[.agg #[.int .i64 W,.slice A rows.length c],.slice Ae es.length ce] w (TbRes es.length (colS (rows.map fun r=>es.map fun e=>exVal r e)) w):=by
 obtain ⟨W3,hW3⟩:∃ z,(w.alloc (.cells #[.int .i64 W,.slice A rows.length c] 32)).alloc (.cells #[.int .i64 0,.slice none 0 0] 32)=z:=⟨_,rfl⟩
 have s3:W3.heap.size=w.heap.size + 2:=by rw [← hW3];simp
 have B3:Below w.heap.size w W3:=by rw [← hW3];exact balloc (balloc (Below.refl _ _) _) _
 have r0:Row W3 w.heap.size 32 [.int .i64 W,.slice A rows.length c]:=by rw [← hW3];exact (Row.new _ _ _).alloc _
 have r2:Row W3 (w.heap.size + 1) 32 [.int .i64 0,.slice none 0 0]:=by rw [← hW3];exact Row.second _ _ _ _
 obtain ⟨W4,hW4⟩:∃ z,W3.alloc (.cells #[] 100)=z:=⟨_,rfl⟩
 have b4:Below W3.heap.size W3 W4:=by rw [← hW4];exact balloc (Below.refl _ _) _
 have hG4:=GR.start (lo:=w.heap.size) (w:=W3) (by omega)
 rw [hW4] at hG4
 have HG4:=Lib.hid hG4
 have HR:=Lib.hid (And.intro (r0.on b4) (r2.on b4))
 have HBASE:=Lib.hid (bch B3 b4)
 have HIN:=Lib.hid (fun (z:World) (hz:Below w.heap.size w z)=>hin.on hz)
 have HX:=Lib.hid hx
 have HXO:=Lib.hid (fun (z:World) (hz:Below w.heap.size w z)=>hx.on hz)
 have HRO:=Lib.hid (tab_row hT)
 have hn4:=hT.2.2.1
 have hlt3:w.heap.size + 1 < W3.heap.size:=by omega
 have HOK:=Lib.hid hok
 have HWW:=Lib.hid hW3
 have HW4:=Lib.hid hW4
 obtain ⟨L,hL⟩:∃ l,(rows.map fun r=>es.map fun e=>exVal r e)=l:=⟨_,rfl⟩
 rw [hL] at hout ⊢
 have HLE:=Lib.hid hL
 have HLO:=Lib.hid hout
 have HLl:=Lib.hid (show L.length=rows.length by rw [← hL];simp)
 clear hL hT hx hok hin hW3 hW4 B3 b4 r0 r2 hG4 s3 hout
 go_enter Tryz.func49,Tryz.ntmps49
 go_upto_region 1 with fail
 rw [HWW.out]
 go_upto_region 2 with fail
 rw [HW4.out]
 have t1:=HR.out.1.cell 1
 go_wp2
 go_loopg [5,6] rows.length (fun g v iv wr=>∃ i:Nat,i ≤ rows.length ∧ g=rows.length - i ∧ iv=.int .i64 i ∧ GR w.heap.size W3.heap.size W4 wr v (L.take i))
 case atStart=>exact ⟨0,by omega,by omega,rfl,HG4.out⟩
 case round=>
  obtain ⟨i,hi,rfl,rfl,hg⟩:=hrel
  have HG:=Lib.hid hg
  have HB:=Lib.hid (hg.from_ HBASE.out (by omega))
  have ht:=HR.out.1.only hg.keep (by omega)
  have t0:=ht.cell 0
  have t1:=ht.cell 1
  have htl:=ht.lt
  have hfl:(L.take i).length ≤ 400:=by rw [List.length_take,HLl.out];omega
  by_cases hil:i < rows.length
  ·have hiI:(i:Int) < (rows.length:Int):=by omega
   obtain ⟨b0,o0,s,rfl,hB0,d0,hs2,hs3,hsl⟩:=(HIN.out _ HB.out).at_ hil
   have hro:=HRO.out _ (List.getElem_mem hil)
   have Hf:=Lib.hid (show L.take (i + 1)=L.take i ++ [es.map fun e=>exVal rows[i] e] by rw [← HLE.out];exact mapR_take hil)
   have Hro:=Lib.hid hro
   obtain ⟨r,hr⟩:∃ r,rows[i]=r:=⟨_,rfl⟩
   rw [hr] at Hf d0 hs2 hsl Hro
   have HSl:=Lib.hid (And.intro hs2 (And.intro hs3 hsl))
   unfold maxLen at hs3
   obtain ⟨W5,hW5⟩:∃ z,wr.alloc (.cells #[] 85)=z:=⟨_,rfl⟩
   have b5:Below wr.heap.size wr W5:=by rw [← hW5];exact balloc (Below.refl _ _) _
   have HB5:=Lib.hid b5
   have HO5:=Lib.hid (show Ow wr.heap.size 85 2 valC W5 (.slice (some ⟨wr.heap.size,0,none⟩) 0 0) ([]:List Val) by rw [← hW5];exact Ow.lit (xs:=([]:List Val)) rfl rfl (Nat.le_refl _) (by decide))
   have HW5:=Lib.hid hW5
   have HKP:=Lib.hid (fun (z:World) (hz:Below wr.heap.size wr z)=>show z.cell? ⟨w.heap.size,1,none⟩=some (.slice (some ⟨b0,o0,none⟩) rows.length c) ∧ z.cell? ⟨b0,o0 + i,none⟩=some (.slice s.A r.length s.c) from ⟨(hz.cell (p:=⟨_,_,none⟩) htl).trans t1,(hz.cell (p:=⟨_,_,none⟩) hB0).trans d0⟩)
   obtain ⟨M,hM⟩:∃ l,(es.map fun e=>exVal r e)=l:=⟨_,rfl⟩
   rw [hM] at Hf
   have HM:=Lib.hid hM
   have HMl:=Lib.hid (show M.length=es.length by rw [← hM];simp)
   have HsB:=Lib.hid HB.out.size
   have hsB:=HB.out.size
   clear hro hr ht hg hsl hW5 b5 hM d0 t0 htl hB0
   obtain ⟨Wo,hWo⟩:∃ z,z=wr:=⟨_,rfl⟩
   subst hWo
   go_upto_region 6 with fail
   rw [HW5.out]
   clear t1
   go_wp2
   go_loopg [7,8] es.length (fun g v kv wt=>∃ k:Nat,k ≤ es.length ∧ g=es.length - k ∧ kv=.int .i64 k ∧ Ow Wo.heap.size 85 2 valC wt v (M.take k) ∧ Below Wo.heap.size Wo wt)
   case atStart=>exact ⟨0,by omega,by omega,rfl,HO5.out,HB5.out⟩
   case round=>
    obtain ⟨k,hk,rfl,rfl,how,hbk⟩:=hrel
    have HO:=Lib.hid how
    have HBk:=Lib.hid hbk
    obtain ⟨t1,d0⟩:=HKP.out _ hbk
    have hml:(M.take k).length ≤ 6:=by rw [List.length_take,HMl.out];omega
    by_cases hkl:k < es.length
    ·have hkI:(k:Int) < (es.length:Int):=by omega
     obtain ⟨bx,ox,gx,hAx,hBx,hxat,hxi⟩:=exs_at HX.out hkl
     have HXT:=Lib.hid hxat
     have Hm:=Lib.hid (show M.take (k + 1)=M.take k ++ [exVal r es[k]] by rw [← HM.out];exact mapR_take hkl)
     have HEV:=Lib.hid (fun (z:World) (hz:Below wr.heap.size wr z)=>specEval_ok es[k] gx r s.A s.c W 8 z (hxi.on (bch (bch HB.out HBk.out) hz)) (HOK.out _ (List.getElem_mem hkl)) Hro.out (HSl.out.2.2.sl.on (bch HBk.out hz)))
     obtain ⟨⟨rn,rm⟩,hr⟩:∃ v,exVal r es[k]=v:=⟨_,rfl⟩
     rw [hr] at HEV Hm
     unfold feV at HEV
     subst hAx
     have SB:=Lib.hid (fun (z:World) (hz:Below wr.heap.size wr z)=>show z.cell? ⟨w.heap.size,1,none⟩=some (.slice (some ⟨b0,o0,none⟩) rows.length c) ∧ z.cell? ⟨b0,o0 + i,none⟩=some (.slice s.A r.length s.c) ∧ z.cell? ⟨bx,ox + k * 5,none⟩=some (.int .i64 gx.kind) ∧ z.cell? ⟨bx,ox + k * 5 + 1,none⟩=some (.int .i64 gx.col) ∧ z.cell? ⟨bx,ox + k * 5 + 2,none⟩=some (.bool gx.val.1) ∧ z.cell? ⟨bx,ox + k * 5 + 3,none⟩=some (.int .i64 gx.val.2) ∧ z.cell? ⟨bx,ox + k * 5 + 4,none⟩=some (.slice gx.sv.A gx.sv.n gx.sv.c) from by
      obtain ⟨t1,d0⟩:=HKP.out _ (bch HBk.out hz)
      obtain ⟨x0,x1,x2,x3,x4⟩:=feAt_belowI HXT.out (bch (bch HB.out HBk.out) hz) hBx
      exact ⟨t1,d0,x0,x1,x2,x3,x4⟩)
     have SB2:=Lib.hid (fun (z:World) (hz:Below Wo.heap.size Wo z)=>show z.cell? ⟨w.heap.size,1,none⟩=some (.slice (some ⟨b0,o0,none⟩) rows.length c) ∧ z.cell? ⟨b0,o0 + i,none⟩=some (.slice s.A r.length s.c) ∧ z.cell? ⟨bx,ox + k * 5,none⟩=some (.int .i64 gx.kind) ∧ z.cell? ⟨bx,ox + k * 5 + 1,none⟩=some (.int .i64 gx.col) ∧ z.cell? ⟨bx,ox + k * 5 + 2,none⟩=some (.bool gx.val.1) ∧ z.cell? ⟨bx,ox + k * 5 + 3,none⟩=some (.int .i64 gx.val.2) ∧ z.cell? ⟨bx,ox + k * 5 + 4,none⟩=some (.slice gx.sv.A gx.sv.n gx.sv.c) from by
      obtain ⟨t1,d0⟩:=HKP.out _ hz
      obtain ⟨x0,x1,x2,x3,x4⟩:=feAt_belowI HXT.out (bch HB.out hz) hBx
      exact ⟨t1,d0,x0,x1,x2,x3,x4⟩)
     obtain ⟨u0,hu0⟩:∃ z,wr.drew=z:=⟨_,rfl⟩
     have Bu0:=Lib.hid (show Below wr.heap.size wr u0 from hu0 ▸ (Below.refl _ _).drew)
     have Hu0:=Lib.hid hu0
     clear hu0 hr hxi hxat how hbk
     go_upto_region 9 with fail
     refine wp_region_g 13 (fun z=>z.cell? ⟨w.heap.size,1,none⟩=some (.slice (some ⟨b0,o0,none⟩) rows.length c) ∧ z.cell? ⟨b0,o0 + i,none⟩=some (.slice s.A r.length s.c) ∧ z.cell? ⟨bx,ox + k * 5,none⟩=some (.int .i64 gx.kind) ∧ z.cell? ⟨bx,ox + k * 5 + 1,none⟩=some (.int .i64 gx.col) ∧ z.cell? ⟨bx,ox + k * 5 + 2,none⟩=some (.bool gx.val.1) ∧ z.cell? ⟨bx,ox + k * 5 + 3,none⟩=some (.int .i64 gx.val.2) ∧ z.cell? ⟨bx,ox + k * 5 + 4,none⟩=some (.slice gx.sv.A gx.sv.n gx.sv.c)) (by kernel_rfl) ?_ (fun hHeld=>?_)
     ·exact SB.out _ (Below.refl _ _).drew
     rw [Hu0.out] at hHeld ⊢
     refine tkH (i:=0) rfl (by assumption) ?_
     try simp only [Act.put,sTA,sC0,sCS]
     refine tkH (i:=1) rfl (by assumption) ?_
     try simp only [Act.put,sTA,sC0,sCS]
     refine tkH (i:=2) rfl (by assumption) ?_
     try simp only [Act.put,sTA,sC0,sCS]
     refine tkH (i:=3) rfl (by assumption) ?_
     try simp only [Act.put,sTA,sC0,sCS]
     refine tkH (i:=4) rfl (by assumption) ?_
     try simp only [Act.put,sTA,sC0,sCS]
     refine tkH (i:=5) rfl (by assumption) ?_
     try simp only [Act.put,sTA,sC0,sCS]
     refine tkH (i:=6) rfl (by assumption) ?_
     try simp only [Act.put,sTA,sC0,sCS]
     refine tkH (i:=7) rfl (by assumption) ?_
     try simp only [Act.put,sTA,sC0,sCS]
     refine tkH (i:=8) rfl (by assumption) ?_
     try simp only [Act.put,sTA,sC0,sCS]
     refine tkH (i:=9) rfl (by assumption) ?_
     try simp only [Act.put,sTA,sC0,sCS]
     refine rdG (i:=10) (by kernel_rfl) rfl (fun K hK=>?_)
     go_simp
     go_at_call 73
     refine (HEV.out u0 Bu0.out).mono ?_
     rintro e y1 ⟨rfl,hb⟩
     have By1:=Lib.hid (bch Bu0.out hb)
     clear hb
     refine hK.out _ _ ?hS11 (fun hHeld=>?_)
     case hS11=>exact fun _=>SB.out _ By1.out
     replace hHeld:=hHeld (by decide)
     clear hK K
     try simp only [Act.put,sTA,sC0,sCS]
     refine rdG (i:=11) (by kernel_rfl) rfl (fun K hK=>?_)
     obtain ⟨U,hU⟩:∃ z,y1.alloc (.cells #[.bool rn,.int .i64 rm] 85)=z:=⟨_,rfl⟩
     have hub:Below y1.heap.size y1 U:=by rw [← hU];exact balloc (Below.refl _ _) _
     have HS9:=Lib.hid (show Sl 2 valC U U.heap.size (some ⟨y1.heap.size,0,none⟩) [((rn,rm):Val)] by rw [← hU];exact Row.sl' (t:=85) valC_length ((Row.new y1 _ _).of rfl))
     have By2:=Lib.hid (bch By1.out hub)
     have HO9:=Lib.hid (HO.out.on By2.out)
     have hsz9:=(bch HBk.out By2.out).size
     go_simp
     try rw [hU]
     have HU:=Lib.hid hU
     clear hU hub
     refine hK.out _ _ ?hS12 (fun hHeld=>?_)
     case hS12=>exact fun _=>SB.out _ By2.out
     replace hHeld:=hHeld (by decide)
     clear hK K
     try simp only [Act.put,sTA,sC0,sCS]
     refine rdG (i:=12) (by kernel_rfl) rfl (fun K hK=>?_)
     refine step_app2 rfl (.tmp 24) (.tmp 35) 100 rfl _ 85 _ 2 16 valC Tryz.underlying100 zeroVal rfl (by decide) (by decide) valC_length valC_one _ (M.take k) rfl HO9.out (some ⟨y1.heap.size,0,none⟩) 1 1 [((rn,rm):Val)] rfl rfl HS9.out (by simp only [List.length_singleton];omega) hsz9 ?_
     intro v' w' hown hgr hob
     have HN9:=Lib.hid (And.intro hown ((bch HBk.out By2.out).grown hgr hsz9 fun j hj=>(HO9.out.ty j hj).1))
     clear hown hgr hob
     refine hK.out _ _ ?hS13 (fun hHeld=>?_)
     case hS13=>exact fun _=>SB2.out _ HN9.out.2
     replace hHeld:=hHeld (by decide)
     clear hK K
     try simp only [Act.put,sTA,sC0,sCS]
     refine rdG (i:=13) (by kernel_rfl) rfl (fun K hK=>?_)
     go_simp
     refine hK.out _ _ ?hS14 (fun hHeld=>?_)
     case hS14=>exact fun h=>absurd rfl h
     clear hK K
     try simp only [Act.put,sTA,sC0,sCS]
     refine wpAnyG_done (by kernel_rfl) ?_ _
     go_wp2
     go_roundg (es.length - (k + 1))
     case measure=>omega
     case rel=>exact ⟨k + 1,by omega,rfl,by go_num,by rw [Hm.out];exact HN9.out.1,HN9.out.2⟩
    ·have hkI:¬ (k:Int) < (es.length:Int):=by omega
     obtain ⟨A7,c7,rfl,hc71,hc72,hsl7⟩:=how.shape valC_length
     have hte:M.take k=M:=List.take_of_length_le (by rw [HMl.out];omega)
     rw [hte] at hc71 hsl7
     rw [hte]
     have HS7:=Lib.hid (hsl7.low (Nat.zero_le _))
     have HGk:=Lib.hid (HG.out.below hbk)
     clear how hbk hte hsl7 t1 d0
     obtain ⟨U,hU⟩:∃ z,wr.alloc (.cells #[.slice A7 M.length c7] 100)=z:=⟨_,rfl⟩
     have hub:Below wr.heap.size wr U:=by rw [← hU];exact balloc (Below.refl _ _) _
     have HGU:=Lib.hid (HGk.out.below hub)
     have HSU:=Lib.hid (HS7.out.on hub)
     have HS5:=Lib.hid (show Sl 1 svC U U.heap.size (some ⟨wr.heap.size,0,none⟩) [(⟨A7,M.length,c7⟩:SV)] by rw [← hU];exact Row.sl' (t:=100) svC_length ((Row.new wr _ _).of rfl))
     have hsz5:w.heap.size ≤ U.heap.size:=(HGU.out.from_ HBASE.out (by omega)).size
     obtain ⟨svs,hsO,hsT⟩:=HGU.out.own
     have Hsv:=Lib.hid (And.intro hsO hsT)
     have hsl:svs.length ≤ 200000:=by rw [hsT.1];rw [List.length_take,HLl.out];omega
     have HU:=Lib.hid hU
     clear hU hub hsO hsT
     go_wp2_with (at_builtin;rw [HU.out];refine wpList_app2 rfl (.tmp 37) (.tmp 39) 30 rfl w.heap.size 100 _ 1 24 svC Tryz.underlying30 zeroRowW rfl (by decide) (by decide) svC_length svC_one _ svs rfl Hsv.out.1 (some ⟨wr.heap.size,0,none⟩) 1 1 [(⟨A7,M.length,c7⟩:SV)] rfl rfl HS5.out (by simp only [List.length_singleton];omega) hsz5 ?_;intro v' w' hown hgr hob)
     have HGN:=Lib.hid (HGU.out.app (s:=⟨A7,M.length,c7⟩) (r:=M) Hsv.out.1 Hsv.out.2 rfl hc71 hc72 HSU.out hown hgr hob)
     clear hown hgr hob
     go_roundg (rows.length - (i + 1))
     case measure=>omega
     case rel=>exact ⟨i + 1,by omega,rfl,by go_num,by rw [Hf.out];exact HGN.out⟩
  ·have hiI:¬ (i:Int) < (rows.length:Int):=by omega
   have hte:L.take i=L:=List.take_of_length_le (by rw [HLl.out];omega)
   rw [hte] at HG hg hfl
   have HRB:=Lib.hid (HR.out.2.only hg.keep (by omega))
   clear hte ht htl
   obtain ⟨A5,c5,rfl,hc51,hc52,hinL⟩:=hg.shape
   obtain ⟨svs,hsO,hsT⟩:=hg.own
   have HTO:=Lib.hid (tableOf_ok 0 ((es.length:Int)) A5 c5 svs L wr (Nat.zero_le _) (by omega) (fun r hr=>by have:=rowValid_len (HLO.out r hr).1;omega) (by obtain ⟨_,_,hv,_,_,hs⟩:=hsO.shape svC_length;injection hv with hv1 _ _;subst hv1;exact hs.sl) hsT)
   clear hg hsO hsT hinL
   go_wp2_with fail
   refine HTO.out.mono ?_
   intro e w6 h6
   obtain ⟨A6,c6,rfl,h61,h62,h63,hb6⟩:=h6.tb HLO.out
   have HR6:=Lib.hid (And.intro h61 (And.intro h62 (And.intro h63 hb6)))
   have HRQ:=Lib.hid (HRB.out.on hb6)
   obtain ⟨q0,q1,q2,q3,q4⟩:=tbox HRQ.out
   clear h6 h61 h62 h63 hb6 t0 t1
   go_wp2
   exact bodyPost_ret (v:=.agg #[.int .i64 ((es.length:Int)),.slice A6 (colS L).length c6]) (by simp [results,Tryz.results49,go_sem,q0,q1,q2,q3,q4]) rfl ⟨A6,c6,rfl,HR6.out.1,HR6.out.2.1,HR6.out.2.2.1.put2 HRQ.out _ _,below_put (bch HB.out HR6.out.2.2.2) (by omega) _ _⟩
end Go.Proofs.YtcbfbgngkdiijaaGreat
