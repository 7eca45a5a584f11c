import Derived.Test.YtcbfbgngkdiijaaGreatProg
import Derived.Test.YtcbfbgngkdiijaaGreatZvTjn
import Derived.Test.YtcbfbgngkdiijaaGreatZvGra
import Derived.Test.YtcbfbgngkdiijaaGreatZvEvp
namespace Go.Proofs.YtcbfbgngkdiijaaGreat
open Go.RowKit Go.Qo
set_option linter.unusedVariables false
set_option linter.unusedSimpArgs false

def cntL (cols:List Int) (l:List Row1):List Int:=(keysOf cols l).map fun q=>((inG cols q l).length:Int)
theorem cntL_len (cols:List Int) (l:List Row1):(cntL cols l).length=(keysOf cols l).length:=by simp [cntL]
theorem cnt_found {cols:List Int} {l:List Row1} {r:Row1} {k:Nat} (hk:(keysOf cols l)[k]? = some (pickR cols r)):keysOf cols (l ++ [r])=keysOf cols l ∧ cntL cols (l ++ [r])=(cntL cols l).set k (((inG cols (pickR cols r) l).length:Int) + 1) ∧ (cntL cols l)[k]? = some ((inG cols (pickR cols r) l).length:Int):=by
 have hm:=List.mem_of_getElem? hk
 have he:keysOf cols (l ++ [r])=keysOf cols l:=by rw [keysOf_snoc,if_pos hm]
 have hnd:=List.pairwise_iff_getElem.1 (keysOf_nodup cols l)
 have hkl:=(List.getElem?_eq_some_iff.1 hk).1
 have hke:=(List.getElem?_eq_some_iff.1 hk).2
 refine ⟨he,?_,by unfold cntL;rw [List.getElem?_map,hk];rfl⟩
 unfold cntL
 rw [he]
 apply List.ext_getElem (by simp)
 intro j h1 h2
 rw [List.length_map] at h1
 rw [List.getElem_map,List.getElem_set,inG_snoc]
 by_cases hj:k=j
 ·subst hj
  rw [if_pos rfl,if_pos hke.symm,hke];simp
 ·rw [if_neg hj,List.getElem_map,if_neg]
  intro e
  rw [← hke] at e
  rcases Nat.lt_or_gt_of_ne hj with h | h
  ·exact hnd k j hkl h1 h e
  ·exact hnd j k h1 hkl h e.symm
theorem cnt_new {cols:List Int} {l:List Row1} {r:Row1} (h:pickR cols r ∉ keysOf cols l):keysOf cols (l ++ [r])=keysOf cols l ++ [pickR cols r] ∧ cntL cols (l ++ [r])=(cntL cols l ++ [0]).set (keysOf cols l).length (0 + 1):=by
 have he:keysOf cols (l ++ [r])=keysOf cols l ++ [pickR cols r]:=by rw [keysOf_snoc,if_neg h]
 refine ⟨he,?_⟩
 unfold cntL
 rw [he]
 have hl:(keysOf cols l).length=((keysOf cols l).map (fun q=>((inG cols q l).length:Int))).length:=by simp
 rw [List.map_append,hl,List.set_append_right _ _ (Nat.le_refl _),Nat.sub_self]
 congr 1
 ·apply List.map_congr_left
  intro q hq
  rw [inG_snoc,if_neg (fun e:pickR cols r=q=>h (by rw [e];exact hq))]
 ·simp [inG_snoc,inG_ne h]
def cgR (cols:List Int) (l:List Row1):List Row1:=(keysOf cols l).map fun q=>q ++ [((false,((inG cols q l).length:Int)):Val)]
theorem cgR_grp {cols:List Int} {l:List Row1} (hl:l.length ≤ 400):cgR cols l=grpRows cols 0 1 l:=by
 unfold cgR grpRows
 refine List.map_congr_left fun q _=>?_
 have h1:(inG cols q l).length ≤ 400:=Nat.le_trans (List.length_filter_le _ _) hl
 unfold grpRow aggF numV
 rw [if_pos rfl]
 have h2:(valG 0 (inG cols q l)).length=(inG cols q l).length:=by simp [valG]
 rw [h2,if_pos (by omega)]
theorem flat_setJ:∀ (xs:List Int) (j:Nat) (y:Int),(xs.flatMap intC).set j (.int .i64 y)=(xs.set j y).flatMap intC
 | [],j,y=>by simp
 | x :: xs,0,y=>by simp [intC]
 | x :: xs,j + 1,y=>by
   have ih:=flat_setJ xs j y
   simpa [intC] using ih
theorem intC_atJ:∀ (xs:List Int),xs.flatMap intC=xs.map (Value.int .i64)
 | []=>rfl
 | a :: l=>by simp [intC];exact intC_atJ l
theorem zeroIntJ:(Tryz.prog.info? 3).map (fun i=>(i.zero,i.size,i.bytes))=some (some (.int .i64 0),1,8):=by kernel_rfl
structure GC (lo mk mc:Nat) (W2 wr:World) (vk vc:Value) (keys:List Row1) (cn:List Int):Prop where
 keep:Only (fun k=>k=mk ∨ k=mc) W2 wr
 keys:∃ svs:List SV,Ow lo 100 1 svC wr vk svs ∧ RowsT 85 2 valC 0 wr svs keys
 cnts:Ow lo 3 1 intC wr vc cn
 ak:∀ k,vk.ownBlock=some k → k=mk ∨ W2.heap.size ≤ k
 ac:∀ k,vc.ownBlock=some k → k=mc ∨ W2.heap.size ≤ k
theorem GC.below {lo mk mc:Nat} {W2 wr z:World} {vk vc:Value} {keys:List Row1} {cn:List Int} (h:GC lo mk mc W2 wr vk vc keys cn) (k:Below wr.heap.size wr z):GC lo mk mc W2 z vk vc keys cn:=by
 obtain ⟨svs,h1,h2⟩:=h.keys
 exact ⟨h.keep.below k,⟨svs,h1.on k,h2.on k⟩,h.cnts.on k,h.ak,h.ac⟩
theorem GC.key {lo mk mc:Nat} {W2 U w':World} {vk vc v':Value} {keys:List Row1} {cn:List Int} {svs:List SV} (h:GC lo mk mc W2 U vk vc keys cn) (hO:Ow lo 100 1 svC U vk svs) (hT:RowsT 85 2 valC 0 U svs keys) {s:SV} {r:Row1}
 (h1:s.n=r.length) (h2:r.length ≤ s.c) (h3:s.c ≤ maxLen) (h4:SlT 85 2 valC 0 U s.A r) (hown:Ow lo 100 1 svC w' v' (svs ++ [s])) (hgr:U.grownBy w' vk.ownBlock) (hob:v'.ownBlock=vk.ownBlock ∨ v'.ownBlock=some U.heap.size):GC lo mk mc W2 w' v' vc (keys ++ [r]) cn:=by
 refine ⟨h.keep.grown hgr fun k hk=>(h.ak k hk).imp_left .inl,⟨svs ++ [s],hown,(hT.snoc h1 h2 h3 h4).grown hgr fun b hb=>.inr ⟨_,by decide,(hO.ty b hb).2.2⟩⟩,h.cnts.keep fun b _ hl ht=>hgr.block b hl fun e=>?_,fun k hk=>?_,h.ac⟩
 ·have:=(hO.ty b e.symm).2.2
  exact TyAt.ne this ht (by decide) rfl
 ·rcases hob with e | e
  ·exact h.ak k (by rw [← e];exact hk)
  ·rw [e] at hk;cases hk;exact .inr h.keep.size
theorem GC.cnt {lo mk mc:Nat} {W2 U w':World} {vk vc v':Value} {keys:List Row1} {cn cn':List Int} (h:GC lo mk mc W2 U vk vc keys cn) (hown:Ow lo 3 1 intC w' v' cn') (hgr:U.grownBy w' vc.ownBlock) (hob:v'.ownBlock=vc.ownBlock ∨ v'.ownBlock=some U.heap.size):GC lo mk mc W2 w' vk v' keys cn':=by
 obtain ⟨svs,h1,h2⟩:=h.keys
 refine ⟨h.keep.grown hgr fun k hk=>(h.ac k hk).imp_left .inr,⟨svs,h1.keep fun b _ hl ht=>hgr.block b hl fun e=>?_,h2.grown hgr fun b hb=>.inr ⟨_,by decide,(h.cnts.ty b hb).2.2⟩⟩,hown,h.ak,fun k hk=>?_⟩
 ·have:=(h.cnts.ty b e.symm).2.2
  exact TyAt.ne this ht (by decide) rfl
 ·rcases hob with e | e
  ·exact h.ac k (by rw [← e];exact hk)
  ·rw [e] at hk;cases hk;exact .inr h.keep.size
theorem GC.put {lo mk mc g n c:Nat} {W2 U:World} {vk:Value} {keys:List Row1} {cn:List Int} (h:GC lo mk mc W2 U vk (.slice (some ⟨g,0,none⟩) n c) keys cn) (k:Nat) (y:Int):GC lo mk mc W2 (U.setCell ⟨g,k,none⟩ (.int .i64 y)) vk (.slice (some ⟨g,0,none⟩) n c) keys (cn.set k y):=by
 obtain ⟨svs,h1,h2⟩:=h.keys
 have hty:=h.cnts.ty g rfl
 have hso:=Only.set (S:=fun k=>k=g) (p:=⟨g,k,none⟩) (Only.refl U) (.inl rfl) (.int .i64 y)
 refine ⟨h.keep.set (p:=⟨g,k,none⟩) ((h.ac g rfl).imp_left .inr) _,⟨svs,h1.only hso fun b hb=>.inr ⟨_,by decide,hb ▸ hty.2.2⟩,h2.only hso fun b hb=>.inr ⟨_,by decide,hb ▸ hty.2.2⟩⟩,?_,h.ak,h.ac⟩
 have h3:=Ow.put h.cnts k (.int .i64 y)
 rw [flat_setJ] at h3
 show (U.setCell ⟨g,k,none⟩ (.int .i64 y)).ownsRow _ _ _ _ (cn.set k y).length _
 rw [List.length_set]
 exact h3
theorem gc_last {lo mk mc n:Nat} {W2 w:World} {vk v:Value} {keys:List Row1} {cn:List Int} (h:GC lo mk mc W2 w vk v keys (cn ++ [0])) (hn:cn.length=n):∃ (g c:Nat),v=.slice (some ⟨g,0,none⟩) (n + 1) c ∧ g < w.heap.size ∧ w.cell? ⟨g,n,none⟩=some (.int .i64 0) ∧ w.frozen? ⟨g,n,none⟩=false ∧ n + 1 ≤ c ∧ c ≤ maxLen:=by
 obtain ⟨A,c,rfl,h1,h2,_⟩:=h.cnts.shape intC_length
 have hl:(cn ++ [0]).length=n + 1:=by simp [hn]
 obtain ⟨g,rfl,_,_,hg,_,hf,hc⟩:=h.cnts.head intC_length (by omega)
 exact ⟨g,c,by rw [hl],hg,hc n _ (by rw [intC_atJ,List.getElem?_map,List.getElem?_append_right (by omega),hn,Nat.sub_self];rfl),hf n,by rw [← hl];exact h1,h2⟩
theorem ht6 {b:Nat} {W5 wr:World} {t:TypeId} {cs:List Value} (h:Row W5 b t cs) (hs:W5.heap.size ≤ wr.heap.size):b < wr.heap.size:=Nat.lt_of_lt_of_le h.lt hs

set_option maxRecDepth 20000 in
set_option maxHeartbeats 8000000 in
theorem groupTable_ok (W:Int) (rows:List Row1) (cols:List Int) (A A':Option Addr) (c c':Nat) (w:World) (hT:TabOk W rows) (hl:cols.length < 6) (hc:∀ x ∈ cols,0 ≤ x ∧ x < W) (hin:InT w A rows) (hcs:Sl 1 intC w w.heap.size A' cols) :
 Calls Tryz.prog 53 #[.agg #[.int .i64 W,.slice A rows.length c],.slice A' cols.length c'] w (TbRes (cols.length + 1) (colS (srtRows cols 0 1 rows)) w):=by
 obtain ⟨W3,hW3⟩:∃ z,(w.alloc (.cells #[.int .i64 W,.slice A rows.length c] 32)).alloc (.cells #[.int .i64 0,.slice none 0 0] 32)=z:=⟨_,rfl⟩
 have s3:W3.heap.size=w.heap.size + 2:=by rw [← hW3];simp
 have B3:Below w.heap.size w W3:=by rw [← hW3];exact balloc (balloc (Below.refl _ _) _) _
 have r0:Row W3 w.heap.size 32 [.int .i64 W,.slice A rows.length c]:=by rw [← hW3];exact (Row.new _ _ _).alloc _
 have r1:Row W3 (w.heap.size + 1) 32 [.int .i64 0,.slice none 0 0]:=by rw [← hW3];exact Row.second _ _ _ _
 obtain ⟨W4,hW4⟩:∃ z,W3.alloc (.cells #[] 100)=z:=⟨_,rfl⟩
 obtain ⟨W5,hW5⟩:∃ z,W4.alloc (.cells #[] 3)=z:=⟨_,rfl⟩
 have b4:Below W3.heap.size W3 W4:=by rw [← hW4];exact balloc (Below.refl _ _) _
 have b5:Below W4.heap.size W4 W5:=by rw [← hW5];exact balloc (Below.refl _ _) _
 have s4:W4.heap.size=w.heap.size + 3:=by rw [← hW4];simp [s3]
 have o4:Ow w.heap.size 100 1 svC W4 (.slice (some ⟨W3.heap.size,0,none⟩) 0 0) ([]:List SV):=by rw [← hW4];exact Ow.lit (xs:=([]:List SV)) rfl rfl (by omega) (by decide)
 have o5:Ow w.heap.size 3 1 intC W5 (.slice (some ⟨W4.heap.size,0,none⟩) 0 0) ([]:List Int):=by rw [← hW5];exact Ow.lit (xs:=([]:List Int)) rfl rfl (by omega) (by decide)
 have HG5:=Lib.hid (show GC w.heap.size W3.heap.size W4.heap.size W5 W5 (.slice (some ⟨W3.heap.size,0,none⟩) 0 0) (.slice (some ⟨W4.heap.size,0,none⟩) 0 0) (keysOf cols (rows.take 0)) (cntL cols (rows.take 0)) from
  ⟨Only.refl _,⟨[],o4.on b5,RowsT.nil⟩,o5,fun k hk=>by cases hk;exact .inl rfl,fun k hk=>by cases hk;exact .inl rfl⟩)
 have HR:=Lib.hid (And.intro ((r0.on b4).on b5) ((r1.on b4).on b5))
 have HBASE:=Lib.hid (bch (bch B3 b4) b5)
 have HIN:=Lib.hid (fun (z:World) (hz:Below w.heap.size w z)=>hin.on hz)
 have HCS:=Lib.hid (fun (z:World) (hz:Below w.heap.size w z)=>hcs.on hz)
 have HRO:=Lib.hid (tab_row hT)
 have hW6:=hT.2.1
 have hW1:=hT.1
 have hn4:=hT.2.2.1
 have hlt3:w.heap.size + 1 < W3.heap.size:=by omega
 have hlt4:w.heap.size + 1 < W4.heap.size:=by omega
 have HC:=Lib.hid hc
 have HFR:=Lib.hid (fun (z:World) (hz:Only (fun k=>k=W3.heap.size ∨ k=W4.heap.size) W5 z)=>show Below w.heap.size w z from Only.from_ (bch (bch B3 b4) b5) rfl hz fun j hj=>by rcases hj with h | h <;> omega)
 have HWW:=Lib.hid hW3
 have HW4:=Lib.hid hW4
 have HW5:=Lib.hid hW5
 obtain ⟨L,hL⟩:∃ l,cgR cols rows=l:=⟨_,rfl⟩
 have hgp:=grp_perm (col:=0) (kind:=1) fun r h=>keyS_ok (tab_row hT r h) hc
 have hso:=srtRows_ok (kind:=1) (tab_row hT) hT.1 hc hl
 have hpm:(srtRows cols 0 1 rows).Perm L:=by rw [← hL,cgR_grp hn4];exact hgp
 have hcol:colS (srtRows cols 0 1 rows)=colS L:=colS_perm hpm hso
 rw [hcol]
 have HLO:=Lib.hid (show ∀ r ∈ L,RowOk (cols.length + 1) r from fun r hr=>hso r (hpm.mem_iff.2 hr))
 have HLE:=Lib.hid hL
 have HLl:=Lib.hid (show L.length=(keysOf cols rows).length by rw [← hL];simp [cgR])
 clear hL hT hin hcs hW3 hW4 hW5 B3 b4 b5 r0 r1 s3 s4 o4 o5 hc hgp hso hpm hcol
 go_enter Tryz.func53,Tryz.ntmps53
 go_upto_region 1 with fail
 rw [HWW.out]
 go_upto_region 2 with fail
 rw [HW4.out]
 go_upto_region 3 with fail
 rw [HW5.out]
 have t1:=HR.out.1.cell 1
 go_wp2
 go_loopg [5,6,7] rows.length (fun g vk vc iv wr=>∃ i:Nat,i ≤ rows.length ∧ g=rows.length - i ∧ iv=.int .i64 i ∧ GC w.heap.size W3.heap.size W4.heap.size W5 wr vk vc (keysOf cols (rows.take i)) (cntL cols (rows.take i)))
 case atStart=>exact ⟨0,by omega,by omega,rfl,HG5.out⟩
 case round=>
  obtain ⟨i,hi,rfl,rfl,hg⟩:=hrel
  have HG:=Lib.hid hg
  have HB:=Lib.hid (HFR.out _ hg.keep)
  have ht:=HR.out.1.only hg.keep (by omega)
  have t1:=ht.cell 1
  have hkl:=keysOf_len cols (rows.take i)
  rw [List.length_take] at hkl
  have hcl:=cntL_len cols (rows.take i)
  obtain ⟨KS,hKS⟩:∃ l,keysOf cols (rows.take i)=l:=⟨_,rfl⟩
  obtain ⟨CS,hCS⟩:∃ l,cntL cols (rows.take i)=l:=⟨_,rfl⟩
  rw [hKS] at hkl hcl hg HG
  rw [hCS] at hcl hg HG
  obtain ⟨svs,hkO,hkT⟩:=hg.keys
  obtain ⟨Ak,ck,hve,hck1,hck2,hsk⟩:=hkO.shape svC_length
  obtain ⟨Ac,cc,hvc,hcc1,hcc2,hsc⟩:=hg.cnts.shape intC_length
  rw [hkT.1] at hve hck1
  rw [hcl] at hvc hcc1
  subst hve
  subst hvc
  obtain ⟨nk,hnk⟩:∃ n,KS.length=n:=⟨_,rfl⟩
  rw [hnk] at hkl hck1 hcc1 HG hg hkO hcl
  rw [hnk]
  have hnk4:nk ≤ 400:=by omega
  have HNK:=Lib.hid (And.intro hnk hcl)
  have HKS:=Lib.hid hKS
  have HCSe:=Lib.hid hCS
  have HInK:=Lib.hid (show InT wr Ak KS from ⟨svs,hsk.low (Nat.zero_le _),hkT⟩)
  unfold maxLen at hck2 hcc2
  clear hg hkO hkT hsk hsc hKS hCS hkl hcl hnk ht
  by_cases hil:i < rows.length
  ·have hiI:(i:Int) < (rows.length:Int):=by omega
   obtain ⟨b0,o0,s,rfl,hB0,d0,hs2,hs3,hsl⟩:=(HIN.out _ HB.out).at_ hil
   have hro:=HRO.out _ (List.getElem_mem hil)
   have hx:=Lib.hid (show rows.take (i + 1)=rows.take i ++ [rows[i]] by rw [List.take_add_one,List.getElem?_eq_getElem hil];rfl)
   obtain ⟨r,hr⟩:∃ r,rows[i]=r:=⟨_,rfl⟩
   rw [hr] at hx d0 hs2 hsl hro
   have hrl:(r.length:Int)=W:=hro.2
   have HPK:=Lib.hid (pickCols_ok s.A A' s.c c' r cols wr (by omega) (by omega) (fun x hx=>by have:=HC.out x hx;omega) hsl.sl (HCS.out _ HB.out))
   obtain ⟨key,hkey⟩:∃ k,pickR cols r=k:=⟨_,rfl⟩
   have hkeyl:key.length=cols.length:=by rw [← hkey,pickR_length]
   rw [hkey] at HPK
   have HKEY:=Lib.hid hkey
   unfold maxLen at hs3
   obtain ⟨Lr,hLr⟩:∃ n,r.length=n:=⟨_,rfl⟩
   rw [hLr] at d0 hs2 HPK
   clear hr hro hsl hkey hrl hLr
   go_wp2_with fail
   refine HPK.out.mono ?_
   rintro e w6 ⟨v8,rfl,how8,hb6⟩
   obtain ⟨A8,c8,rfl,hc81,hc82,hs8⟩:=how8.shape valC_length
   have HK8:=Lib.hid (And.intro hc81 (And.intro hc82 (hs8.low (Nat.zero_le _))))
   have HG6:=Lib.hid (HG.out.below hb6)
   have HIn6:=Lib.hid (HInK.out.on hb6)
   rw [hkeyl]
   rw [hkeyl] at hc81
   unfold maxLen at hc82
   clear how8 hs8 hb6 t1 d0 hB0 hs2
   go_wp2
   go_loopg [9] nk (fun g kv wr=>∃ k:Nat,k ≤ nk ∧ g=nk - k ∧ kv=.int .i64 k ∧ Below w6.heap.size w6 wr ∧ ∀ j,j < k → KS[j]? ≠ some key)
   case atStart=>exact ⟨0,by omega,by omega,rfl,Below.refl _ _,fun j hj=>absurd hj (by omega)⟩
   case round=>
    obtain ⟨k,hk,rfl,rfl,hbk,hne⟩:=hrel
    have HBK:=Lib.hid hbk
    have HNE:=Lib.hid hne
    clear hne
    by_cases hkn:k < nk
    ·have hknI:(k:Int) < (nk:Int):=by omega
     have hkn':k < KS.length:=by have:=HNK.out.1;omega
     obtain ⟨gk,ok,sk,hAk,hgk,ck',hsk2,hsk3,hsk4⟩:=(HIn6.out.on hbk).at_ hkn'
     have hks:KS[k]? = some KS[k]:=List.getElem?_eq_getElem hkn'
     obtain ⟨rk,hrk⟩:∃ r,KS[k]=r:=⟨_,rfl⟩
     rw [hrk] at ck' hsk2 hsk4 hks
     have hrkl:rk.length=cols.length:=by
      have h1:=List.mem_of_getElem? hks
      rw [← HKS.out] at h1
      obtain ⟨q,_,hq⟩:=mem_keysOf.1 h1
      rw [← hq,pickR_length]
     obtain ⟨R,hR⟩:∃ R,rCmp rk key=R:=⟨_,rfl⟩
     have hCM:=specCompareRows_ok sk.A A8 sk.c c8 rk key wr (by unfold maxLen;omega) (by unfold maxLen;omega) hsk4.sl (HK8.out.2.2.sl.on hbk) R hR
     rw [hrkl,hkeyl] at hCM
     rw [hrkl] at ck'
     have HCM:=Lib.hid hCM
     have HZ:=Lib.hid (show R=0 ↔ rk=key by rw [← hR];exact rCmp_zero (by rw [hrkl,hkeyl]))
     have HKSk:=Lib.hid hks
     unfold maxLen at hsk3
     subst hAk
     clear hCM hsk4 hks hR hrkl hrk hbk hsk2 hkn'
     by_cases hR0:R=0
     ·have hrk:rk=key:=HZ.out.1 hR0
      subst hrk
      subst hR0
      have hcf:=cnt_found (cols:=cols) (l:=rows.take i) (r:=r) (k:=k) (by rw [HKS.out,HKEY.out];exact HKSk.out)
      rw [HKS.out,HCSe.out,HKEY.out] at hcf
      obtain ⟨n0,hn0⟩:∃ n,(inG cols rk (rows.take i)).length=n:=⟨_,rfl⟩
      have hn04:n0 ≤ 400:=by rw [← hn0];exact Nat.le_trans (List.length_filter_le _ _) (by rw [List.length_take];omega)
      rw [hn0] at hcf
      have HCF:=Lib.hid hcf
      clear hcf hn0
      go_wp2_with fail
      refine HCM.out.mono ?_
      rintro e w8 ⟨rfl,hb8⟩
      have HGx:=Lib.hid (HG6.out.below (bch HBK.out hb8))
      have hkne:((k:Int) == (nk:Int))=false:=by simp;omega
      have hcpos:0 < CS.length:=by have:=HNK.out.2;omega
      obtain ⟨gc,hAc,hnn,_,hgcl,_,hgf,hgcs⟩:=HGx.out.cnts.head intC_length hcpos
      subst hAc
      clear hnn
      have e1:w8.cell? ⟨gc,k,none⟩=some (.int .i64 (n0:Int)):=hgcs k _ (by rw [intC_atJ,List.getElem?_map,HCF.out.2.2];rfl)
      have e2:=hgf k
      clear hb8 hgf hgcs hcpos ck'
      go_wp2
      go_roundg (rows.length - (i + 1))
      case measure=>omega
      case rel=>
       refine ⟨i + 1,by omega,rfl,by go_num,?_⟩
       rw [hx.out,HCF.out.1,HCF.out.2.1]
       exact HGx.out.put k _
     ·have hRI:(R != 0)=true:=by simp [hR0]
      have HR0:=Lib.hid hR0
      clear hR0
      go_wp2_with fail
      refine HCM.out.mono ?_
      rintro e w8 ⟨rfl,hb8⟩
      have HB8:=Lib.hid (bch HBK.out hb8)
      clear hb8 ck'
      go_wp2
      go_roundg (nk - (k + 1))
      case measure=>omega
      case rel=>
       refine ⟨k + 1,by omega,rfl,by go_num,HB8.out,fun j hj=>?_⟩
       by_cases hjk:j=k
       ·rw [hjk,HKSk.out]
        exact fun e=>HR0.out (HZ.out.2 (Option.some.inj e))
       ·exact HNE.out j (by omega)
    ·have hknI:¬ (k:Int) < (nk:Int):=by omega
     have hke:k=nk:=by omega
     have hkeI:((k:Int) == (nk:Int))=true:=by simp [hke]
     have hnm:pickR cols r ∉ keysOf cols (rows.take i):=fun h=>by
      rw [HKS.out,HKEY.out] at h
      obtain ⟨j,hj,hje⟩:=List.getElem_of_mem h
      exact HNE.out j (by have:=HNK.out.1;omega) (by rw [List.getElem?_eq_getElem hj,hje])
     have hcn:=cnt_new (cols:=cols) (l:=rows.take i) (r:=r) hnm
     rw [HKS.out,HCSe.out,HKEY.out,HNK.out.1] at hcn
     have HCN:=Lib.hid hcn
     have HKE:=Lib.hid hke
     have HGx:=Lib.hid (HG6.out.below hbk)
     have HK8x:=Lib.hid (HK8.out.2.2.on hbk)
     obtain ⟨U,hU⟩:∃ z,wr.alloc (.cells #[.slice A8 cols.length c8] 100)=z:=⟨_,rfl⟩
     have hub:Below wr.heap.size wr U:=by rw [← hU];exact balloc (Below.refl _ _) _
     have HGU:=Lib.hid (HGx.out.below hub)
     have HSU:=Lib.hid (HK8x.out.on hub)
     have HS5:=Lib.hid (show Sl 1 svC U U.heap.size (some ⟨wr.heap.size,0,none⟩) [(⟨A8,cols.length,c8⟩:SV)] by rw [← hU];exact Row.sl' (t:=100) svC_length ((Row.new wr _ _).of rfl))
     have hsz5:w.heap.size ≤ U.heap.size:=(HFR.out _ HGU.out.keep).size
     obtain ⟨svx,hsO,hsT⟩:=HGU.out.keys
     have Hsv:=Lib.hid (And.intro hsO hsT)
     have hsl:svx.length ≤ 400:=by rw [hsT.1,HNK.out.1];omega
     have HU:=Lib.hid hU
     clear hU hub hsO hsT hnm hcn hbk hke
     go_wp2_with (at_builtin;first | (rw [HU.out];refine wpList_app2 rfl (.tmp 47) (.tmp 49) 30 rfl w.heap.size 100 _ 1 24 svC Tryz.underlying30 zeroRowW rfl (by decide) (by decide) svC_length svC_one _ svx rfl Hsv.out.1 (some ⟨wr.heap.size,0,none⟩) 1 1 [(⟨A8,cols.length,c8⟩:SV)] rfl rfl HS5.out (by simp only [List.length_singleton];omega) hsz5 ?_;intro vk' wk hown hgr hob;have HGN:=Lib.hid (HGU.out.key (s:=⟨A8,cols.length,c8⟩) (r:=key) Hsv.out.1 Hsv.out.2 hkeyl.symm (hkeyl.symm ▸ hc81) HK8.out.2.1 HSU.out hown hgr hob);clear hown hgr hob;obtain ⟨U2,hU2⟩:∃ z,wk.alloc (.cells #[.int .i64 0] 3)=z:=⟨_,rfl⟩;have HGM:=Lib.hid (HGN.out.below (show Below wk.heap.size wk U2 by rw [← hU2];exact balloc (Below.refl _ _) _));have HS6:=Lib.hid (show Sl 1 intC U2 U2.heap.size (some ⟨wk.heap.size,0,none⟩) [(0:Int)] by rw [← hU2];exact Row.sl' (t:=3) intC_length ((Row.new wk _ _).of rfl));have hsz6:w.heap.size ≤ U2.heap.size:=(HFR.out _ HGM.out.keep).size;have HU2:=Lib.hid hU2;clear hU2) | (rw [HU2.out];refine wpList_app2 rfl (.tmp 51) (.tmp 52) 23 rfl w.heap.size 3 _ 1 8 intC Tryz.underlying23 zeroIntJ rfl (by decide) (by decide) intC_length intC_one _ CS rfl HGM.out.cnts (some ⟨wk.heap.size,0,none⟩) 1 1 [(0:Int)] rfl rfl HS6.out (by simp only [List.length_singleton];have:=HNK.out.2;omega) hsz6 ?_;intro vc' wc hown hgr hob;have HGP:=Lib.hid (HGM.out.cnt hown hgr hob);clear hown hgr hob;obtain ⟨gc,hcc,hvc,hgcl,e1,e2,hcc1,hcc2⟩:=gc_last HGP.out HNK.out.2;subst hvc;rw [← HKE.out] at e1 e2 hcc1))
     have hk1I:(k:Int) < (nk:Int) + 1:=by omega
     have hk1I':(k:Int) < ((nk + 1:Nat):Int):=by omega
     have hk1N:k < nk + 1:=by omega
     go_wp2
     go_roundg (rows.length - (i + 1))
     case measure=>omega
     case rel=>
      refine ⟨i + 1,by omega,rfl,by go_num,?_⟩
      rw [hx.out,HCN.out.1,HCN.out.2]
      have h:=HGP.out.put nk (0 + 1)
      rw [← HKE.out] at h ⊢
      exact h
  ·have hiI:¬ (i:Int) < (rows.length:Int):=by omega
   have hte:rows.take i=rows:=List.take_of_length_le (by omega)
   rw [hte] at HKS HCSe
   clear hte
   obtain ⟨W6,hW6⟩:∃ z,wr.alloc (.cells #[] 100)=z:=⟨_,rfl⟩
   have b6:Below wr.heap.size wr W6:=by rw [← hW6];exact balloc (Below.refl _ _) _
   have hG6:=GR.start (lo:=w.heap.size) (w:=wr) HB.out.size
   rw [hW6] at hG6
   have HG6:=Lib.hid hG6
   have HGC:=Lib.hid (HG.out.below b6)
   have HBB:=Lib.hid (bch HB.out b6)
   have HR6:=Lib.hid (And.intro ((HR.out.1.only HG.out.keep (by omega)).on b6) ((HR.out.2.only HG.out.keep (by omega)).on b6))
   have hwl:w.heap.size + 1 < wr.heap.size:=by have:=HG.out.keep.size;have:=HBASE.out.size;have:=ht6 HR.out.2 HG.out.keep.size;omega
   have HBASE6:=Lib.hid (bch HB.out b6)
   have HInW:=Lib.hid HInK.out
   have HCW:=Lib.hid HG.out.cnts
   have HW6:=Lib.hid hW6
   have HKl:=Lib.hid (show L.length=nk by rw [HLl.out,HKS.out];exact HNK.out.1)
   have HLe:=Lib.hid (show ∀ j (hj:j < nk),L.take (j + 1)=L.take j ++ [(KS[j]'(by rw [HNK.out.1];exact hj)) ++ [((false,CS[j]'(by rw [HNK.out.2];exact hj)):Val)]] from fun j hj=>by
    have e1:j < (keysOf cols rows).length:=by rw [HKS.out,HNK.out.1];exact hj
    rw [← HLE.out]
    unfold cgR
    rw [mapR_take e1]
    have e2:(keysOf cols rows)[j]=KS[j]'(by rw [HNK.out.1];exact hj):=by simp only [← HKS.out]
    have e3:CS[j]'(by rw [HNK.out.2];exact hj)=((inG cols (keysOf cols rows)[j] rows).length:Int):=by simp only [← HCSe.out];unfold cntL;rw [List.getElem_map]
    rw [e3,e2])
   clear hW6 b6 hG6
   obtain ⟨Wo,hWo⟩:∃ z,z=wr:=⟨_,rfl⟩
   subst hWo
   go_upto_region 15 with fail
   rw [HW6.out]
   go_wp2
   go_loopg [10,11] nk (fun g v iv wt=>∃ j:Nat,j ≤ nk ∧ g=nk - j ∧ iv=.int .i64 j ∧ GR w.heap.size Wo.heap.size W6 wt v (L.take j))
   case atStart=>exact ⟨0,by omega,by omega,rfl,HG6.out⟩
   case round=>
    obtain ⟨j,hj,rfl,rfl,hgj⟩:=hrel
    have HGj:=Lib.hid hgj
    have HBj:=Lib.hid (hgj.from_ HBASE6.out (by omega))
    have htl:(L.take j).length ≤ 400:=by rw [List.length_take,HKl.out];omega
    by_cases hjl:j < nk
    ·have hjI:(j:Int) < (nk:Int):=by omega
     have hjK:j < KS.length:=by rw [HNK.out.1];exact hjl
     have hjC:j < CS.length:=by rw [HNK.out.2];exact hjl
     obtain ⟨bk,ok,sk,hAk,hbk,dk,hsk2,hsk3,hsk4⟩:=HInW.out.at_ hjK
     obtain ⟨gc,hAc,hnn,_,hgcl,_,_,hgcs⟩:=HCW.out.head intC_length (by omega)
     clear hnn
     have ec:=hgcs j (.int .i64 CS[j]) (by rw [intC_atJ,List.getElem?_map,List.getElem?_eq_getElem hjC];rfl)
     have Hf:=Lib.hid (HLe.out j hjl)
     obtain ⟨rk,hrk⟩:∃ r,KS[j]'hjK=r:=⟨_,rfl⟩
     obtain ⟨cn,hcn⟩:∃ n,CS[j]'hjC=n:=⟨_,rfl⟩
     rw [hrk] at dk hsk2 hsk4 Hf
     rw [hcn] at ec Hf
     have hrkl:rk.length ≤ 6:=by
      have h1:=List.getElem_mem hjK
      rw [hrk,← HKS.out] at h1
      obtain ⟨q,_,hq⟩:=mem_keysOf.1 h1
      rw [← hq,pickR_length];omega
     subst hAk
     subst hAc
     have HSK:=Lib.hid hsk4
     have SB:=Lib.hid (fun (z:World) (hz:Only (fun k=>k=Wo.heap.size) W6 z)=>show z.cell? ⟨bk,ok + j,none⟩=some (.slice sk.A rk.length sk.c) ∧ z.cell? ⟨gc,j,none⟩=some (.int .i64 cn) from by
      have hb:Below Wo.heap.size Wo z:=Only.from_ (by rw [← HW6.out];exact balloc (Below.refl _ _) _) rfl hz fun i (hi:i=Wo.heap.size)=>by omega
      exact ⟨(hb.cell (p:=⟨_,_,none⟩) hbk).trans dk,(hb.cell (p:=⟨_,_,none⟩) hgcl).trans ec⟩)
     have HBZ:=Lib.hid (fun (z:World) (hz:Only (fun k=>k=Wo.heap.size) W6 z)=>show Below Wo.heap.size Wo z from Only.from_ (by rw [← HW6.out];exact balloc (Below.refl _ _) _) rfl hz fun i (hi:i=Wo.heap.size)=>by omega)
     obtain ⟨u0,hu0⟩:∃ z,wr.drew=z:=⟨_,rfl⟩
     have Bu0:=Lib.hid (show Below wr.heap.size wr u0 from hu0 ▸ (Below.refl _ _).drew)
     have Hu0:=Lib.hid hu0
     unfold maxLen at hsk3
     clear hu0 hgj hsk4 hgcs hrk hcn dk ec
     go_upto_region 18 with fail
     refine wp_region_g 14 (fun z=>z.cell? ⟨bk,ok + j,none⟩=some (.slice sk.A rk.length sk.c) ∧ z.cell? ⟨gc,j,none⟩=some (.int .i64 cn)) (by kernel_rfl) ?_ (fun hHeld=>?_)
     ·exact SB.out _ (HGj.out.below (Below.refl _ _).drew).keep
     rw [Hu0.out] at hHeld ⊢
     refine tkH (i:=0) rfl (by assumption) ?_
     try simp only [Act.put,sTA,sC0,sCS]
     refine tkH (i:=1) rfl (by assumption) ?_
     try simp only [Act.put,sTA,sC0,sCS]
     refine tkH (i:=2) rfl (by assumption) ?_
     try simp only [Act.put,sTA,sC0,sCS]
     refine tkH (i:=3) rfl (by assumption) ?_
     try simp only [Act.put,sTA,sC0,sCS]
     refine tkH (i:=4) rfl (by assumption) ?_
     try simp only [Act.put,sTA,sC0,sCS]
     refine tkH (i:=5) rfl (by assumption) ?_
     try simp only [Act.put,sTA,sC0,sCS]
     refine tkH (i:=6) rfl (by assumption) ?_
     try simp only [Act.put,sTA,sC0,sCS]
     refine tkH (i:=7) rfl (by assumption) ?_
     try simp only [Act.put,sTA,sC0,sCS]
     refine tkH (i:=8) rfl (by assumption) ?_
     try simp only [Act.put,sTA,sC0,sCS]
     refine tkH (i:=9) rfl (by assumption) ?_
     try simp only [Act.put,sTA,sC0,sCS]
     refine rdG (i:=10) (by kernel_rfl) rfl (fun K hK=>?_)
     obtain ⟨y1,hy1⟩:∃ z,u0.alloc (.cells #[.bool false,.int .i64 cn] 85)=z:=⟨_,rfl⟩
     have hyb:Below u0.heap.size u0 y1:=by rw [← hy1];exact balloc (Below.refl _ _) _
     have HSc:=Lib.hid (show Sl 2 valC y1 y1.heap.size (some ⟨u0.heap.size,0,none⟩) [((false,cn):Val)] by rw [← hy1];exact Row.sl' (t:=85) valC_length ((Row.new u0 _ _).of rfl))
     have By1:=Lib.hid (bch Bu0.out hyb)
     go_simp
     try rw [hy1]
     have Hy1:=Lib.hid hy1
     clear hy1 hyb
     refine hK.out _ _ ?hS11 (fun hHeld=>?_)
     case hS11=>exact fun _=>SB.out _ (HGj.out.below By1.out).keep
     replace hHeld:=hHeld (by decide)
     clear hK K
     try simp only [Act.put,sTA,sC0,sCS]
     refine rdG (i:=11) (by kernel_rfl) rfl (fun K hK=>?_)
     go_simp
     go_at_call 74
     refine (grConcat_ok sk.A (some ⟨u0.heap.size,0,none⟩) sk.c 1 rk [((false,cn):Val)] y1 (by omega) (by simp) (HSK.out.sl.on (HBZ.out _ (HGj.out.below By1.out).keep)) HSc.out).mono ?_
     rintro e y2 ⟨v8,rfl,how8,hb⟩
     obtain ⟨R8,hR8⟩:∃ l,rk ++ [((false,cn):Val)]=l:=⟨_,rfl⟩
     rw [hR8] at how8 Hf
     obtain ⟨A8,c8,rfl,hc81,hc82,hsl8⟩:=how8.shape valC_length
     have By2:=Lib.hid (bch By1.out hb)
     have HS8:=Lib.hid (And.intro hc81 (And.intro hc82 (hsl8.low (Nat.zero_le _))))
     clear hb how8 hsl8 hc81 hc82 hR8
     refine hK.out _ _ ?hS12 (fun hHeld=>?_)
     case hS12=>exact fun _=>SB.out _ (HGj.out.below By2.out).keep
     replace hHeld:=hHeld (by decide)
     clear hK K
     try simp only [Act.put,sTA,sC0,sCS]
     refine rdG (i:=12) (by kernel_rfl) rfl (fun K hK=>?_)
     obtain ⟨U,hU⟩:∃ z,y2.alloc (.cells #[.slice A8 R8.length c8] 100)=z:=⟨_,rfl⟩
     have hub:Below y2.heap.size y2 U:=by rw [← hU];exact balloc (Below.refl _ _) _
     have By3:=Lib.hid (bch By2.out hub)
     have HGU:=Lib.hid (HGj.out.below By3.out)
     have HSU:=Lib.hid (HS8.out.2.2.on hub)
     have HS5:=Lib.hid (show Sl 1 svC U U.heap.size (some ⟨y2.heap.size,0,none⟩) [(⟨A8,R8.length,c8⟩:SV)] by rw [← hU];exact Row.sl' (t:=100) svC_length ((Row.new y2 _ _).of rfl))
     have hsz5:w.heap.size ≤ U.heap.size:=(HGU.out.from_ HBASE6.out (by omega)).size
     obtain ⟨svx,hsO,hsT⟩:=HGU.out.own
     have Hsv:=Lib.hid (And.intro hsO hsT)
     have hsl:svx.length ≤ 400:=by rw [hsT.1];omega
     go_simp
     try rw [hU]
     have HU:=Lib.hid hU
     clear hU hub hsO hsT
     refine hK.out _ _ ?hS13 (fun hHeld=>?_)
     case hS13=>exact fun _=>SB.out _ HGU.out.keep
     replace hHeld:=hHeld (by decide)
     clear hK K
     try simp only [Act.put,sTA,sC0,sCS]
     refine rdG (i:=13) (by kernel_rfl) rfl (fun K hK=>?_)
     refine step_app2 rfl (.tmp 69) (.tmp 81) 30 rfl w.heap.size 100 _ 1 24 svC Tryz.underlying30 zeroRowW rfl (by decide) (by decide) svC_length svC_one _ svx rfl Hsv.out.1 (some ⟨y2.heap.size,0,none⟩) 1 1 [(⟨A8,R8.length,c8⟩:SV)] rfl rfl HS5.out (by simp only [List.length_singleton];omega) hsz5 ?_
     intro v' w' hown hgr hob
     have HGN:=Lib.hid (HGU.out.app (s:=⟨A8,R8.length,c8⟩) (r:=R8) Hsv.out.1 Hsv.out.2 rfl HS8.out.1 HS8.out.2.1 HSU.out hown hgr hob)
     clear hown hgr hob
     refine hK.out _ _ ?hS14 (fun hHeld=>?_)
     case hS14=>exact fun _=>SB.out _ HGN.out.keep
     replace hHeld:=hHeld (by decide)
     clear hK K
     try simp only [Act.put,sTA,sC0,sCS]
     refine rdG (i:=14) (by kernel_rfl) rfl (fun K hK=>?_)
     go_simp
     refine hK.out _ _ ?hS15 (fun hHeld=>?_)
     case hS15=>exact fun h=>absurd rfl h
     clear hK K
     try simp only [Act.put,sTA,sC0,sCS]
     refine wpAnyG_done (by kernel_rfl) ?_ _
     go_wp2
     go_roundg (nk - (j + 1))
     case measure=>omega
     case rel=>exact ⟨j + 1,by omega,rfl,by go_num,by rw [Hf.out];exact HGN.out⟩
    ·have hjI:¬ (j:Int) < (nk:Int):=by omega
     have hte:L.take j=L:=List.take_of_length_le (by rw [HKl.out];omega)
     have hg:=hgj
     rw [hte] at hg htl
     have HB:=Lib.hid HBj.out
     have HRB:=Lib.hid (HR6.out.2.only hg.keep (by omega))
     have hcl1:IntKind.i64.wrap ((cols.length:Int) + 1)=(cols.length:Int) + 1:=IntWalk.i64_in _ (by omega)
     clear hte hgj
     obtain ⟨A5,c5,rfl,hc51,hc52,hinL⟩:=hg.shape
     obtain ⟨svs,hsO,hsT⟩:=hg.own
     have HTO:=Lib.hid (tableOf_ok 0 ((cols.length:Int) + 1) A5 c5 svs L wr (Nat.zero_le _) (by omega) (fun r hr=>by have:=rowValid_len (HLO.out r hr).1;omega) (by obtain ⟨_,_,hv,_,_,hs⟩:=hsO.shape svC_length;injection hv with hv1 _ _;subst hv1;exact hs.sl) hsT)
     clear hg hsO hsT hinL
     go_wp2_with fail
     refine HTO.out.mono ?_
     intro e w6 h6
     obtain ⟨A6,c6,rfl,h61,h62,h63,hb6⟩:=h6.tb HLO.out
     have HR6:=Lib.hid (And.intro h61 (And.intro h62 (And.intro h63 hb6)))
     have HRQ:=Lib.hid (HRB.out.on hb6)
     obtain ⟨q0,q1,q2,q3,q4⟩:=tbox HRQ.out
     clear h6 h61 h62 h63 hb6
     go_wp2
     exact bodyPost_ret (v:=.agg #[.int .i64 ((cols.length:Int) + 1),.slice A6 (colS L).length c6]) (by simp [results,Tryz.results53,go_sem,q0,q1,q2,q3,q4]) rfl ⟨A6,c6,rfl,HR6.out.1,HR6.out.2.1,HR6.out.2.2.1.put2 HRQ.out _ _,below_put (bch HB.out HR6.out.2.2.2) (by omega) _ _⟩
end Go.Proofs.YtcbfbgngkdiijaaGreat
