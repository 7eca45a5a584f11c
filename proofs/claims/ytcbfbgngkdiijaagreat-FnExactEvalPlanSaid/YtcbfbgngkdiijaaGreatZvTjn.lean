import Derived.Test.YtcbfbgngkdiijaaGreatProg
import Derived.Test.YtcbfbgngkdiijaaGreatZvEvT
import Derived.Test.YtcbfbgngkdiijaaGreatZvGra
import Derived.Test.YtcbfbgngkdiijaaGreatZvPln
namespace Go.Proofs.YtcbfbgngkdiijaaGreat
open Go.RowKit Go.Qo
set_option linter.unusedVariables false
set_option linter.unusedSimpArgs false

set_option maxHeartbeats 1000000 in
theorem nulls_ok' (n:Nat) (w:World) (hn:n ≤ 6):Calls Tryz.prog 75 #[.int .i64 n] w (OneRow (List.replicate n ((true,0):Val)) w):=by
 obtain ⟨W4,hW4⟩:∃ z,w.alloc (.cells #[] 85)=z:=⟨_,rfl⟩
 have b4:Below w.heap.size w W4:=by rw [← hW4];exact balloc (Below.refl _ _) _
 have HO4:=Lib.hid (show Ow w.heap.size 85 2 valC W4 (.slice (some ⟨w.heap.size,0,none⟩) 0 0) ([]:List Val) by rw [← hW4];exact Ow.lit (xs:=([]:List Val)) rfl rfl (Nat.le_refl _) (by decide))
 have HB4:=Lib.hid b4
 have HW4:=Lib.hid hW4
 clear hW4 b4
 go_enter Tryz.func75,Tryz.ntmps75
 go_upto_region 2 with fail
 rw [HW4.out]
 go_wp2
 go_loopg [3,4] n (fun g v iv wr=>∃ (i:Nat),i ≤ n ∧ g=n - i ∧ iv=.int .i64 i ∧ Ow w.heap.size 85 2 valC wr v (List.replicate i ((true,0):Val)) ∧ Below w.heap.size w wr)
 case atStart=>exact ⟨0,by omega,by omega,rfl,HO4.out,HB4.out⟩
 case round=>
  obtain ⟨i,hi,rfl,rfl,how,hb⟩:=hrel
  have HO:=Lib.hid how
  have HB:=Lib.hid hb
  clear how hb
  by_cases hil:i < n
  ·have hiI:(i:Int) < (n:Int):=by omega
   obtain ⟨U,hU⟩:∃ z,wr.alloc (.cells #[.bool true,.int .i64 0] 85)=z:=⟨_,rfl⟩
   have hub:Below wr.heap.size wr U:=by rw [← hU];exact balloc (Below.refl _ _) _
   have HB5:=Lib.hid (bch HB.out hub)
   have HO5:=Lib.hid (HO.out.on hub)
   have HS5:=Lib.hid (show Sl 2 valC U U.heap.size (some ⟨wr.heap.size,0,none⟩) [((true,0):Val)] by rw [← hU];exact Row.sl' (t:=85) valC_length ((Row.new wr _ _).of rfl))
   have hsz6:w.heap.size ≤ U.heap.size:=HB5.out.size
   have hrl:(List.replicate i ((true,0):Val)).length ≤ 6:=by rw [List.length_replicate];omega
   have HU:=Lib.hid hU
   clear hU hub
   go_wp2_with (at_builtin;rw [HU.out];refine wpList_app rfl (.tmp 11) (.tmp 13) 100 rfl w.heap.size 85 _ 2 16 valC Tryz.underlying100 zeroVal rfl (by decide) (by decide) valC_length valC_one _ (List.replicate i ((true,0):Val)) rfl HO5.out (some ⟨wr.heap.size,0,none⟩) 1 1 [((true,0):Val)] rfl rfl HS5.out (by simp only [List.length_singleton];omega) hsz6 ?_;intro v' w' hown hgr)
   go_roundg (n - (i + 1))
   case measure=>omega
   case rel=>exact ⟨i + 1,by omega,rfl,by go_num,by rw [List.replicate_succ'];exact hown,HB5.out.grown hgr hsz6 fun k hk=>(HO5.out.ty k hk).1⟩
  ·have hiI:¬ (i:Int) < (n:Int):=by omega
   have hie:i=n:=by omega
   have HIE:=Lib.hid hie
   clear hie
   go_wp2
   go_ret
   exact ⟨_,rfl,by rw [← HIE.out];exact HO.out,HB.out⟩
theorem flat_take {α β:Type} {f:α → List β} {l:List α} {i:Nat} (h:i < l.length):(l.take (i + 1)).flatMap f=(l.take i).flatMap f ++ f l[i]:=by
 rw [List.take_add_one,List.getElem?_eq_getElem h,List.flatMap_append];simp
theorem any_snoc {P:Row1 → Bool} {xs:List Row1} {k:Nat} (h:k < xs.length):(xs.take (k + 1)).any P=((xs.take k).any P || P xs[k]):=by
 rw [List.take_add_one,List.getElem?_eq_getElem h,List.any_append];simp

set_option maxRecDepth 20000 in
set_option maxHeartbeats 8000000 in
theorem joinTables_ok (Wa Wb:Int) (xa xb:List Row1) (A A':Option Addr) (c c':Nat) (x:Ex) (f:FE) (outer:Bool) (w:World) (hT:TabOk Wa xa) (hT':TabOk Wb xb) (hx:ExIn w w.heap.size f x) (hok:ExOk (Wa + Wb) 8 x) (h6:Wa + Wb ≤ 6) (hin:InT w A xa) (hin':InT w A' xb) :
 Calls Tryz.prog 50 #[.agg #[.int .i64 Wa,.slice A xa.length c],.agg #[.int .i64 Wb,.slice A' xb.length c'],feV f,.bool outer] w (TbRes (Wa + Wb) (colS (joinR x outer Wb.toNat xa xb)) w):=by
 obtain ⟨W3,hW3⟩:∃ z,(((w.alloc (.cells #[.int .i64 Wa,.slice A xa.length c] 32)).alloc (.cells #[.int .i64 Wb,.slice A' xb.length c'] 32)).alloc (.cells #[.int .i64 f.kind,.int .i64 f.col,.bool f.val.1,.int .i64 f.val.2,.slice f.sv.A f.sv.n f.sv.c] 87)).alloc (.cells #[.int .i64 0,.slice none 0 0] 32)=z:=⟨_,rfl⟩
 have s3:W3.heap.size=w.heap.size + 4:=by rw [← hW3];simp
 have B3:Below w.heap.size w W3:=by rw [← hW3];exact balloc (balloc (balloc (balloc (Below.refl _ _) _) _) _) _
 have r0:Row W3 w.heap.size 32 [.int .i64 Wa,.slice A xa.length c]:=by rw [← hW3];exact (((Row.new _ _ _).alloc _).alloc _).alloc _
 have r1:Row W3 (w.heap.size + 1) 32 [.int .i64 Wb,.slice A' xb.length c']:=by rw [← hW3];exact ((Row.second _ _ _ _).alloc _).alloc _
 have r2:Row W3 (w.heap.size + 2) 87 [.int .i64 f.kind,.int .i64 f.col,.bool f.val.1,.int .i64 f.val.2,.slice f.sv.A f.sv.n f.sv.c]:=by rw [← hW3];exact (Row.third _ _ _ _ _).alloc _
 have r3:Row W3 (w.heap.size + 3) 32 [.int .i64 0,.slice none 0 0]:=by
  have h:=Row.third (w.alloc (.cells #[.int .i64 Wa,.slice A xa.length c] 32)) (.cells #[.int .i64 Wb,.slice A' xb.length c'] 32) (.cells #[.int .i64 f.kind,.int .i64 f.col,.bool f.val.1,.int .i64 f.val.2,.slice f.sv.A f.sv.n f.sv.c] 87) 32 #[.int .i64 0,.slice none 0 0]
  rw [hW3] at h
  have e:(w.alloc (.cells #[.int .i64 Wa,.slice A xa.length c] 32)).heap.size + 2=w.heap.size + 3:=by simp
  rw [e] at h
  exact h
 obtain ⟨W4,hW4⟩:∃ z,W3.alloc (.cells #[] 100)=z:=⟨_,rfl⟩
 have b4:Below W3.heap.size W3 W4:=by rw [← hW4];exact balloc (Below.refl _ _) _
 have hG4:=GR.start (lo:=w.heap.size) (w:=W3) (by omega)
 rw [hW4] at hG4
 have HG4:=Lib.hid hG4
 have HR:=Lib.hid (And.intro (r0.on b4) (And.intro (r1.on b4) (And.intro (r2.on b4) (r3.on b4))))
 have HBASE:=Lib.hid (bch B3 b4)
 have HIN:=Lib.hid (fun (z:World) (hz:Below w.heap.size w z)=>hin.on hz)
 have HIN':=Lib.hid (fun (z:World) (hz:Below w.heap.size w z)=>hin'.on hz)
 have HX:=Lib.hid (fun (z:World) (hz:Below w.heap.size w z)=>hx.on hz)
 have HRO:=Lib.hid (tab_row hT)
 have HRO':=Lib.hid (tab_row hT')
 have hn4:=hT.2.2.1
 have hn4':=hT'.2.2.1
 have hWb:=And.intro hT'.1 hT'.2.1
 have hWa:=And.intro hT.1 hT.2.1
 obtain ⟨nb,hnb⟩:=Int.eq_ofNat_of_zero_le (show 0 ≤ Wb by omega)
 subst hnb
 rw [Int.toNat_natCast]
 have hlt3:w.heap.size + 3 < W3.heap.size:=by omega
 have HOK:=Lib.hid hok
 have H6:=Lib.hid h6
 have hsum:IntKind.i64.wrap (Wa + (nb:Int))=Wa + (nb:Int):=IntWalk.i64_in _ (by omega)
 have HWW:=Lib.hid hW3
 have HW4:=Lib.hid hW4
 obtain ⟨J,hJ⟩:∃ j:Row1 → List Row1,(fun r=>joinOne x outer nb r xb)=j:=⟨_,rfl⟩
 have HJ:=Lib.hid (show ∀ r,J r=(xb.filter fun o=>holdsE x (r ++ o)).map (fun o=>r ++ o) ++ (if outer && !(xb.any fun o=>holdsE x (r ++ o)) then [r ++ List.replicate nb (true,0)] else []) from fun r=>by rw [← hJ];rfl)
 obtain ⟨L,hL⟩:∃ l,joinR x outer nb xa xb=l:=⟨_,rfl⟩
 rw [hL]
 have HLE:=Lib.hid (show xa.flatMap J=L by rw [← hL,← hJ];rfl)
 have HLO:=Lib.hid (show ∀ r ∈ L,RowOk (Wa + (nb:Int)) r by rw [← hL];exact joinR_ok (tab_row hT) (tab_row hT') rfl h6 hWb)
 have hLl:L.length ≤ 160400:=by rw [← hL];exact joinR_len hn4 hn4'
 have HTL:=Lib.hid (show ∀ i,((xa.take i).flatMap J).length ≤ 160400 from fun i=>by rw [← hJ];exact joinR_len (by rw [List.length_take];omega) hn4')
 unfold feV
 clear hL hJ hT hT' hx hok hin hin' hW3 hW4 B3 b4 r0 r1 r2 r3 hG4 s3 h6
 go_enter Tryz.func50,Tryz.ntmps50
 go_upto_region 1 with fail
 rw [HWW.out]
 go_upto_region 2 with fail
 rw [HW4.out]
 have t1:=HR.out.1.cell 1
 go_wp2
 go_loopg [9,10] xa.length (fun g v iv wr=>∃ i:Nat,i ≤ xa.length ∧ g=xa.length - i ∧ iv=.int .i64 i ∧ GR w.heap.size W3.heap.size W4 wr v ((xa.take i).flatMap J))
 case atStart=>exact ⟨0,by omega,by omega,rfl,HG4.out⟩
 case round=>
  obtain ⟨i,hi,rfl,rfl,hg⟩:=hrel
  have HG:=Lib.hid hg
  have HB:=Lib.hid (hg.from_ HBASE.out (by omega))
  have ht:=HR.out.1.only hg.keep (by omega)
  have hu:=HR.out.2.1.only hg.keep (by omega)
  have t0:=ht.cell 0
  have t1:=ht.cell 1
  have u0':=hu.cell 0
  have u1':=hu.cell 1
  by_cases hil:i < xa.length
  ·have hiI:(i:Int) < (xa.length:Int):=by omega
   obtain ⟨b0,o0,s,hAe,hB0,d0,hs2,hs3,hsl⟩:=(HIN.out _ (Below.refl _ _)).at_ hil
   subst hAe
   have hro:=HRO.out _ (List.getElem_mem hil)
   have Hf:=Lib.hid (show (xa.take (i + 1)).flatMap J=(xa.take i).flatMap J ++ J xa[i] from flat_take hil)
   have hdone:=HTL.out i
   obtain ⟨D,hD⟩:∃ l,(xa.take i).flatMap J=l:=⟨_,rfl⟩
   obtain ⟨r,hr⟩:∃ r,xa[i]=r:=⟨_,rfl⟩
   rw [hD] at Hf HG hdone
   rw [hr] at Hf d0 hs2 hsl hro
   rw [HJ.out r] at Hf
   have Hro:=Lib.hid hro
   have HSl:=Lib.hid (And.intro hs2 (And.intro hs3 hsl))
   have HKA:=Lib.hid (fun (z:World) (hz:Only (fun k=>k=W3.heap.size) W4 z)=>show z.cell? ⟨w.heap.size,1,none⟩=some (.slice (some ⟨b0,o0,none⟩) xa.length c) ∧ z.cell? ⟨w.heap.size + 1,1,none⟩=some (.slice A' xb.length c') ∧ z.cell? ⟨b0,o0 + i,none⟩=some (.slice s.A r.length s.c) from
    ⟨(HR.out.1.only hz (by omega)).cell 1,(HR.out.2.1.only hz (by omega)).cell 1,((Only.from_ HBASE.out rfl hz fun j (hj:j=W3.heap.size)=>by omega).cell (p:=⟨b0,o0 + i,none⟩) hB0).trans d0⟩)
   have HB0:=Lib.hid hB0
   unfold maxLen at hs3
   clear hro hr ht hu hg hsl hD t0 u0' d0
   go_wp2
   go_loopg [9,11,12] xb.length (fun g v fv kv wt=>∃ k:Nat,k ≤ xb.length ∧ g=xb.length - k ∧ kv=.int .i64 k ∧ fv=.bool ((xb.take k).any fun o=>holdsE x (r ++ o)) ∧ GR w.heap.size W3.heap.size W4 wt v (D ++ ((xb.take k).filter fun o=>holdsE x (r ++ o)).map (fun o=>r ++ o)))
   case atStart=>exact ⟨0,by omega,by omega,rfl,rfl,by simpa using HG.out⟩
   case round=>
    obtain ⟨k,hk,rfl,rfl,rfl,hgk⟩:=hrel
    have HGk:=Lib.hid hgk
    have HBk:=Lib.hid (hgk.from_ HBASE.out (by omega))
    obtain ⟨t1,u1',d0⟩:=HKA.out _ hgk.keep
    have hmk:(D ++ ((xb.take k).filter fun o=>holdsE x (r ++ o)).map (fun o=>r ++ o)).length ≤ 160800:=by
     rw [List.length_append,List.length_map]
     have:=List.length_filter_le (fun o=>holdsE x (r ++ o)) (xb.take k)
     rw [List.length_take] at this
     omega
    by_cases hkl:k < xb.length
    ·have hkI:(k:Int) < (xb.length:Int):=by omega
     obtain ⟨b3,o3,s',hAf,hB3,d3,hs2',hs3',hsl'⟩:=(HIN'.out _ (Below.refl _ _)).at_ hkl
     subst hAf
     have hro':=HRO'.out _ (List.getElem_mem hkl)
     have Hq:=Lib.hid (filter_snoc (P:=fun o=>holdsE x (r ++ o)) hkl)
     have Ha:=Lib.hid (any_snoc (P:=fun o=>holdsE x (r ++ o)) hkl)
     obtain ⟨o,ho⟩:∃ o,xb[k]=o:=⟨_,rfl⟩
     rw [ho] at d3 hs2' hsl' hro' Hq Ha
     have hjo:=rowOk_append Hro.out hro' H6.out
     have Hjo:=Lib.hid hjo
     have hjl:=rowValid_len hjo.1
     obtain ⟨R7,hR7⟩:∃ l,r ++ o=l:=⟨_,rfl⟩
     have HR7:=Lib.hid hR7
     rw [hR7] at hjl
     clear hR7
     obtain ⟨q,hq⟩:∃ q,holdsE x (r ++ o)=q:=⟨_,rfl⟩
     have HQ:=Lib.hid hq
     obtain ⟨F,hF⟩:∃ l,((xb.take k).filter fun o=>holdsE x (r ++ o))=l:=⟨_,rfl⟩
     obtain ⟨fd,hfd⟩:∃ b,((xb.take k).any fun o=>holdsE x (r ++ o))=b:=⟨_,rfl⟩
     rw [hF] at Hq HGk hmk
     rw [hfd] at Ha
     rw [hfd]
     have HSl':=Lib.hid (And.intro hs2' (And.intro hs3' hsl'))
     have SB:=Lib.hid (fun (z:World) (hz:Only (fun k=>k=W3.heap.size) W4 z)=>show z.cell? ⟨w.heap.size,1,none⟩=some (.slice (some ⟨b0,o0,none⟩) xa.length c) ∧ z.cell? ⟨w.heap.size + 1,1,none⟩=some (.slice (some ⟨b3,o3,none⟩) xb.length c') ∧ z.cell? ⟨b0,o0 + i,none⟩=some (.slice s.A r.length s.c) ∧ z.cell? ⟨b3,o3 + k,none⟩=some (.slice s'.A o.length s'.c) from by
      obtain ⟨t1,u1',d0⟩:=HKA.out _ hz
      exact ⟨t1,u1',d0,((Only.from_ HBASE.out rfl hz fun j (hj:j=W3.heap.size)=>by omega).cell (p:=⟨b3,o3 + k,none⟩) hB3).trans d3⟩)
     obtain ⟨u0,hu0⟩:∃ z,wr.drew=z:=⟨_,rfl⟩
     have Bu0:=Lib.hid (show Below wr.heap.size wr u0 from hu0 ▸ (Below.refl _ _).drew)
     have Hu0:=Lib.hid hu0
     unfold maxLen at hs3'
     clear hu0 hgk hsl' hro' hq hF hfd ho hjo d3
     go_upto_region 9 with fail
     refine wp_region_g 11 (fun z=>z.cell? ⟨w.heap.size,1,none⟩=some (.slice (some ⟨b0,o0,none⟩) xa.length c) ∧ z.cell? ⟨w.heap.size + 1,1,none⟩=some (.slice (some ⟨b3,o3,none⟩) xb.length c') ∧ z.cell? ⟨b0,o0 + i,none⟩=some (.slice s.A r.length s.c) ∧ z.cell? ⟨b3,o3 + k,none⟩=some (.slice s'.A o.length s'.c)) (by kernel_rfl) ?_ (fun hHeld=>?_)
     ·exact SB.out _ (HGk.out.below (Below.refl _ _).drew).keep
     rw [Hu0.out] at hHeld ⊢
     refine tkH (i:=0) rfl (by assumption) ?_
     try simp only [Act.put,sTA,sC0,sCS]
     refine tkH (i:=1) rfl (by assumption) ?_
     try simp only [Act.put,sTA,sC0,sCS]
     refine tkH (i:=2) rfl (by assumption) ?_
     try simp only [Act.put,sTA,sC0,sCS]
     refine tkH (i:=3) rfl (by assumption) ?_
     try simp only [Act.put,sTA,sC0,sCS]
     refine tkH (i:=4) rfl (by assumption) ?_
     try simp only [Act.put,sTA,sC0,sCS]
     refine tkH (i:=5) rfl (by assumption) ?_
     try simp only [Act.put,sTA,sC0,sCS]
     refine tkH (i:=6) rfl (by assumption) ?_
     try simp only [Act.put,sTA,sC0,sCS]
     refine tkH (i:=7) rfl (by assumption) ?_
     try simp only [Act.put,sTA,sC0,sCS]
     refine tkH (i:=8) rfl (by assumption) ?_
     try simp only [Act.put,sTA,sC0,sCS]
     refine tkH (i:=9) rfl (by assumption) ?_
     try simp only [Act.put,sTA,sC0,sCS]
     refine rdG (i:=10) (by kernel_rfl) rfl (fun K hK=>?_)
     go_simp
     go_at_call 74
     refine (grConcat_ok s.A s'.A s.c s'.c r o u0 (by have:=HSl.out;have:=rowValid_len Hro.out.1;omega) (by have h1:=Hjo.out.2;rw [List.length_append] at h1;omega) (HSl.out.2.2.sl.on (bch HBk.out Bu0.out)) (HSl'.out.2.2.sl.on (bch HBk.out Bu0.out))).mono ?_
     rintro e y1 ⟨v7,rfl,how7,hb⟩
     rw [HR7.out] at how7
     obtain ⟨A7,c7,rfl,hc71,hc72,hsl7⟩:=how7.shape valC_length
     have By1:=Lib.hid (bch Bu0.out hb)
     have HS7:=Lib.hid (And.intro hc71 (And.intro hc72 (hsl7.low (Nat.zero_le _))))
     clear hb how7 hsl7 hc71 hc72
     refine hK.out _ _ ?hS11 (fun hHeld=>?_)
     case hS11=>exact fun _=>SB.out _ (HGk.out.below By1.out).keep
     replace hHeld:=hHeld (by decide)
     clear hK K
     try simp only [Act.put,sTA,sC0,sCS]
     refine rdG (i:=11) (by kernel_rfl) rfl (fun K hK=>?_)
     go_simp
     refine hK.out _ _ ?hS12 (fun hHeld=>?_)
     case hS12=>exact fun h=>absurd rfl h
     clear hK K
     try simp only [Act.put,sTA,sC0,sCS]
     refine wpAnyG_done (by kernel_rfl) ?_ _
     have HG1:=Lib.hid (HGk.out.below By1.out)
     have HBy:=Lib.hid (HG1.out.from_ HBASE.out (by omega))
     have HHO:=Lib.hid (specHolds_ok x f R7 A7 c7 (Wa + (nb:Int)) 8 y1 q (HX.out _ HBy.out) HOK.out (HR7.out ▸ Hjo.out) HS7.out.2.2.sl (HR7.out ▸ HQ.out))
     unfold feV at HHO
     have he:=HR.out.2.2.1.only HG1.out.keep (by omega)
     have e0:=he.cell 0
     have e1:=he.cell 1
     have e2:=he.cell 2
     have e3:=he.cell 3
     have e4:=he.cell 4
     clear he t1 u1' d0
     go_upto_region 10 with fail
     go_wp2_with fail
     refine HHO.out.mono ?_
     rintro e y2 ⟨rfl,hb⟩
     have HG2:=Lib.hid (HG1.out.below hb)
     have HS8:=Lib.hid (HS7.out.2.2.on hb)
     have hc71:=HS7.out.1
     have hc72:=HS7.out.2.1
     unfold maxLen at hc72
     clear hb e0 e1 e2 e3 e4
     cases q
     ·rw [HQ.out,if_neg (by decide)] at Hq
      rw [HQ.out,Bool.or_false] at Ha
      go_wp2
      go_roundg (xb.length - (k + 1))
      case measure=>omega
      case rel=>exact ⟨k + 1,by omega,rfl,by go_num,by rw [Ha.out],by rw [Hq.out];exact HG2.out⟩
     ·rw [HQ.out,if_pos rfl] at Hq
      rw [HQ.out,Bool.or_true] at Ha
      obtain ⟨U,hU⟩:∃ z,y2.alloc (.cells #[.slice A7 R7.length c7] 100)=z:=⟨_,rfl⟩
      have hub:Below y2.heap.size y2 U:=by rw [← hU];exact balloc (Below.refl _ _) _
      have HGU:=Lib.hid (HG2.out.below hub)
      have HSU:=Lib.hid (HS8.out.on hub)
      have HS5:=Lib.hid (show Sl 1 svC U U.heap.size (some ⟨y2.heap.size,0,none⟩) [(⟨A7,R7.length,c7⟩:SV)] by rw [← hU];exact Row.sl' (t:=100) svC_length ((Row.new y2 _ _).of rfl))
      have hsz5:w.heap.size ≤ U.heap.size:=(HGU.out.from_ HBASE.out (by omega)).size
      obtain ⟨svs,hsO,hsT⟩:=HGU.out.own
      have Hsv:=Lib.hid (And.intro hsO hsT)
      have hsl:svs.length ≤ 200000:=by rw [hsT.1];exact Nat.le_trans hmk (by omega)
      have HU:=Lib.hid hU
      clear hU hub hsO hsT
      go_wp2_with (at_builtin;rw [HU.out];refine wpList_app2 rfl (.tmp 43) (.tmp 45) 30 rfl w.heap.size 100 _ 1 24 svC Tryz.underlying30 zeroRowW rfl (by decide) (by decide) svC_length svC_one _ svs rfl Hsv.out.1 (some ⟨y2.heap.size,0,none⟩) 1 1 [(⟨A7,R7.length,c7⟩:SV)] rfl rfl HS5.out (by simp only [List.length_singleton];omega) hsz5 ?_;intro v' w' hown hgr hob)
      have HGN:=Lib.hid (HGU.out.app (s:=⟨A7,R7.length,c7⟩) (r:=R7) Hsv.out.1 Hsv.out.2 rfl HS7.out.1 HS7.out.2.1 HSU.out hown hgr hob)
      clear hown hgr hob
      go_roundg (xb.length - (k + 1))
      case measure=>omega
      case rel=>exact ⟨k + 1,by omega,rfl,by go_num,by rw [Ha.out],by rw [Hq.out,List.map_append,← List.append_assoc];show GR _ _ _ _ _ (_ ++ [r ++ o]);rw [HR7.out];exact HGN.out⟩
    ·have hkI:¬ (k:Int) < (xb.length:Int):=by omega
     have hte:xb.take k=xb:=List.take_of_length_le (by omega)
     rw [hte] at HGk hmk hgk
     rw [hte]
     obtain ⟨fd,hfd⟩:∃ b,(xb.any fun o=>holdsE x (r ++ o))=b:=⟨_,rfl⟩
     rw [hfd] at Hf
     rw [hfd]
     obtain ⟨G,hGd⟩:∃ l,D ++ (xb.filter fun o=>holdsE x (r ++ o)).map (fun o=>r ++ o)=l:=⟨_,rfl⟩
     have Hf2:=Lib.hid (show (xa.take (i + 1)).flatMap J=G ++ (if (outer && !fd)=true then [r ++ List.replicate nb (true,0)] else []) by rw [Hf.out,← hGd,List.append_assoc])
     rw [hGd] at HGk hmk hgk
     have hsk:=hgk.keep
     clear hte hfd hGd
     have hcase:(outer && !fd)=false ∨ (outer=true ∧ fd=false):=by cases outer <;> cases fd <;> simp
     rcases hcase with hof | ⟨rfl,rfl⟩
     ·rw [if_neg (by rw [hof];decide),List.append_nil] at Hf2
      have hofc:outer=false ∨ (outer=true ∧ fd=true):=by cases outer <;> cases fd <;> simp at hof ⊢
      clear hof hgk hsk d0
      rcases hofc with rfl | ⟨rfl,rfl⟩
      all_goals
       go_wp2
       go_roundg (xa.length - (i + 1))
       case measure=>omega
       case rel=>exact ⟨i + 1,by omega,rfl,by go_num,by rw [Hf2.out];exact HGk.out⟩
     ·rw [if_pos (show (true && !false)=true from rfl)] at Hf2
      have SC:=Lib.hid (fun (z:World) (hz:Only (fun k=>k=W3.heap.size) W4 z)=>show z.cell? ⟨w.heap.size,1,none⟩=some (.slice (some ⟨b0,o0,none⟩) xa.length c) ∧ z.cell? ⟨b0,o0 + i,none⟩=some (.slice s.A r.length s.c) ∧ z.cell? ⟨w.heap.size + 1,0,none⟩=some (.int .i64 (nb:Int)) from by
       obtain ⟨t1,u1',d0⟩:=HKA.out _ hz
       exact ⟨t1,d0,(HR.out.2.1.only hz (by omega)).cell 0⟩)
      obtain ⟨u0,hu0⟩:∃ z,wr.drew=z:=⟨_,rfl⟩
      have Bu0:=Lib.hid (show Below wr.heap.size wr u0 from hu0 ▸ (Below.refl _ _).drew)
      have Hu0:=Lib.hid hu0
      have hro:=Hro.out
      have hrl6:=rowValid_len hro.1
      clear hu0 hgk hsk d0 hro
      go_upto_region 14 with fail
      refine wp_region_g 12 (fun z=>z.cell? ⟨w.heap.size,1,none⟩=some (.slice (some ⟨b0,o0,none⟩) xa.length c) ∧ z.cell? ⟨b0,o0 + i,none⟩=some (.slice s.A r.length s.c) ∧ z.cell? ⟨w.heap.size + 1,0,none⟩=some (.int .i64 (nb:Int))) (by kernel_rfl) ?_ (fun hHeld=>?_)
      ·exact SC.out _ (HGk.out.below (Below.refl _ _).drew).keep
      rw [Hu0.out] at hHeld ⊢
      refine tkH (i:=0) rfl (by assumption) ?_
      try simp only [Act.put,sTA,sC0,sCS]
      refine tkH (i:=1) rfl (by assumption) ?_
      try simp only [Act.put,sTA,sC0,sCS]
      refine tkH (i:=2) rfl (by assumption) ?_
      try simp only [Act.put,sTA,sC0,sCS]
      refine tkH (i:=3) rfl (by assumption) ?_
      try simp only [Act.put,sTA,sC0,sCS]
      refine tkH (i:=4) rfl (by assumption) ?_
      try simp only [Act.put,sTA,sC0,sCS]
      refine tkH (i:=5) rfl (by assumption) ?_
      try simp only [Act.put,sTA,sC0,sCS]
      refine tkH (i:=6) rfl (by assumption) ?_
      try simp only [Act.put,sTA,sC0,sCS]
      refine tkH (i:=7) rfl (by assumption) ?_
      try simp only [Act.put,sTA,sC0,sCS]
      refine rdG (i:=8) (by kernel_rfl) rfl (fun K hK=>?_)
      go_simp
      go_at_call 75
      refine (nulls_ok' nb u0 (by omega)).mono ?_
      rintro e y1 ⟨v7,rfl,how7,hb⟩
      obtain ⟨A7,c7,rfl,hc71,hc72,hsl7⟩:=how7.shape valC_length
      have By1:=Lib.hid (bch Bu0.out hb)
      have HS7:=Lib.hid hsl7.sl
      clear hb how7 hsl7 hc71
      refine hK.out _ _ ?hS21 (fun hHeld=>?_)
      case hS21=>exact fun _=>SC.out _ (HGk.out.below By1.out).keep
      replace hHeld:=hHeld (by decide)
      clear hK K
      try simp only [Act.put,sTA,sC0,sCS]
      refine rdG (i:=9) (by kernel_rfl) rfl (fun K hK=>?_)
      go_simp
      go_at_call 74
      have hcc:=grConcat_ok s.A A7 s.c c7 r (List.replicate nb ((true,0):Val)) y1 (by omega) (by rw [List.length_replicate];omega) (HSl.out.2.2.sl.on (bch HBk.out By1.out)) HS7.out
      try rw [List.length_replicate] at hcc
      refine hcc.mono ?_
      rintro e y2 ⟨v8,rfl,how8,hb⟩
      obtain ⟨A8,c8,rfl,hc81,hc82,hsl8⟩:=how8.shape valC_length
      have By2:=Lib.hid (bch By1.out hb)
      have HS8:=Lib.hid (And.intro hc81 (And.intro hc82 (hsl8.low (Nat.zero_le _))))
      clear hb how8 hsl8 hc81 hc82 hcc
      refine hK.out _ _ ?hS22 (fun hHeld=>?_)
      case hS22=>exact fun _=>SC.out _ (HGk.out.below By2.out).keep
      replace hHeld:=hHeld (by decide)
      clear hK K
      try simp only [Act.put,sTA,sC0,sCS]
      refine rdG (i:=10) (by kernel_rfl) rfl (fun K hK=>?_)
      obtain ⟨R8,hR8⟩:∃ l,r ++ List.replicate nb ((true,0):Val)=l:=⟨_,rfl⟩
      rw [hR8] at HS8 Hf2
      rw [hR8]
      obtain ⟨U,hU⟩:∃ z,y2.alloc (.cells #[.slice A8 R8.length c8] 100)=z:=⟨_,rfl⟩
      have hub:Below y2.heap.size y2 U:=by rw [← hU];exact balloc (Below.refl _ _) _
      have By3:=Lib.hid (bch By2.out hub)
      have HGU:=Lib.hid (HGk.out.below By3.out)
      have HSU:=Lib.hid (HS8.out.2.2.on hub)
      have HS5:=Lib.hid (show Sl 1 svC U U.heap.size (some ⟨y2.heap.size,0,none⟩) [(⟨A8,R8.length,c8⟩:SV)] by rw [← hU];exact Row.sl' (t:=100) svC_length ((Row.new y2 _ _).of rfl))
      have hsz5:w.heap.size ≤ U.heap.size:=(HGU.out.from_ HBASE.out (by omega)).size
      obtain ⟨svs,hsO,hsT⟩:=HGU.out.own
      have Hsv:=Lib.hid (And.intro hsO hsT)
      have hsl:svs.length ≤ 200000:=by rw [hsT.1];exact Nat.le_trans hmk (by omega)
      go_simp
      try rw [hU]
      have HU:=Lib.hid hU
      clear hU hub hsO hsT hR8
      refine hK.out _ _ ?hS23 (fun hHeld=>?_)
      case hS23=>exact fun _=>SC.out _ HGU.out.keep
      replace hHeld:=hHeld (by decide)
      clear hK K
      try simp only [Act.put,sTA,sC0,sCS]
      refine rdG (i:=11) (by kernel_rfl) rfl (fun K hK=>?_)
      refine step_app2 rfl (.tmp 52) (.tmp 62) 30 rfl w.heap.size 100 _ 1 24 svC Tryz.underlying30 zeroRowW rfl (by decide) (by decide) svC_length svC_one _ svs rfl Hsv.out.1 (some ⟨y2.heap.size,0,none⟩) 1 1 [(⟨A8,R8.length,c8⟩:SV)] rfl rfl HS5.out (by simp only [List.length_singleton];omega) hsz5 ?_
      intro v' w' hown hgr hob
      have HGN:=Lib.hid (HGU.out.app (s:=⟨A8,R8.length,c8⟩) (r:=R8) Hsv.out.1 Hsv.out.2 rfl HS8.out.1 HS8.out.2.1 HSU.out hown hgr hob)
      clear hown hgr hob
      refine hK.out _ _ ?hS24 (fun hHeld=>?_)
      case hS24=>exact fun _=>SC.out _ HGN.out.keep
      replace hHeld:=hHeld (by decide)
      clear hK K
      try simp only [Act.put,sTA,sC0,sCS]
      refine rdG (i:=12) (by kernel_rfl) rfl (fun K hK=>?_)
      go_simp
      refine hK.out _ _ ?hS25 (fun hHeld=>?_)
      case hS25=>exact fun h=>absurd rfl h
      clear hK K
      try simp only [Act.put,sTA,sC0,sCS]
      refine wpAnyG_done (by kernel_rfl) ?_ _
      go_wp2
      go_roundg (xa.length - (i + 1))
      case measure=>omega
      case rel=>exact ⟨i + 1,by omega,rfl,by go_num,by rw [Hf2.out];exact HGN.out⟩
  ·have hiI:¬ (i:Int) < (xa.length:Int):=by omega
   have hte:(xa.take i).flatMap J=L:=by rw [List.take_of_length_le (by omega)];exact HLE.out
   rw [hte] at HG hg
   have HRB:=Lib.hid (HR.out.2.2.2.only hg.keep (by omega))
   clear hte ht hu u1'
   obtain ⟨A5,c5,rfl,hc51,hc52,hinL⟩:=hg.shape
   obtain ⟨svs,hsO,hsT⟩:=hg.own
   have HTO:=Lib.hid (tableOf_ok 0 (Wa + (nb:Int)) A5 c5 svs L wr (Nat.zero_le _) (by omega) (fun r hr=>by have:=rowValid_len (HLO.out r hr).1;omega) (by obtain ⟨_,_,hv,_,_,hs⟩:=hsO.shape svC_length;injection hv with hv1 _ _;subst hv1;exact hs.sl) hsT)
   clear hg hsO hsT hinL
   go_wp2_with fail
   refine HTO.out.mono ?_
   intro e w6 h6
   obtain ⟨A6,c6,rfl,h61,h62,h63,hb6⟩:=h6.tb HLO.out
   have HR6:=Lib.hid (And.intro h61 (And.intro h62 (And.intro h63 hb6)))
   have HRQ:=Lib.hid (HRB.out.on hb6)
   obtain ⟨q0,q1,q2,q3,q4⟩:=tbox HRQ.out
   clear h6 h61 h62 h63 hb6 t0 t1 u0'
   go_wp2
   exact bodyPost_ret (v:=.agg #[.int .i64 (Wa + (nb:Int)),.slice A6 (colS L).length c6]) (by simp [results,Tryz.results50,go_sem,q0,q1,q2,q3,q4]) rfl ⟨A6,c6,rfl,HR6.out.1,HR6.out.2.1,HR6.out.2.2.1.put2 HRQ.out _ _,below_put (bch HB.out HR6.out.2.2.2) (by omega) _ _⟩
end Go.Proofs.YtcbfbgngkdiijaaGreat
