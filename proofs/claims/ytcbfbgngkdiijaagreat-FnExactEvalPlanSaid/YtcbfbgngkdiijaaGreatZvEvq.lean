import Derived.Test.YtcbfbgngkdiijaaGreatProg
import Derived.Test.YtcbfbgngkdiijaaGreatZvEvI
import Derived.Test.YtcbfbgngkdiijaaGreatZvEvp
import Derived.Test.YtcbfbgngkdiijaaGreatZvUng
import Derived.Test.YtcbfbgngkdiijaaGreatZvGf
import Derived.Test.YtcbfbgngkdiijaaGreatZvGrb
import Derived.Test.YtcbfbgngkdiijaaGreatZvCopy
import Derived.Sort.QuietIn
import Derived.Deep.RegionHeld3
namespace Go.Proofs.YtcbfbgngkdiijaaGreat
open Go.RowKit Go.Qo
set_option linter.unusedVariables false
set_option linter.unusedSimpArgs false
attribute [local go_sem] Oper.semAt_some

theorem plIn_more {w:World} {B B':Nat} {f:FP} {p:Pl} (h:PlIn w B f p) (hB:B ≤ B'):PlIn w B' f p:=by
 obtain ⟨n,h⟩:=h
 refine ⟨n,?_⟩
 have hx:∀ {A:Option Addr} {es:List Ex},ExsIn w B A es → ExsIn w B' A es:=fun ⟨fs,h1,h2,h3⟩=>⟨fs,h1,h2.more hB,fun i g x hg hx=>(h3 i g x hg hx).imp fun m h=>ExAt.map (fun A fs h=>h.more hB) m g x h⟩
 have:∀ (n:Nat) (f:FP) (p:Pl),PlAt w B n f p → PlAt w B' n f p:=fun n=>by
  induction n with
  | zero=>exact fun f p h=>h.elim
  | succ n ih=>exact fun f p ⟨h1,h2,h3,h4,h5,h6,h7,fs,h8,h9,h10⟩=>⟨h1,h2,h3,h4,h5,hx h6,h7.more hB,fs,h8,h9.more hB,fun i g x hg hx=>ih g x (h10 i g x hg hx)⟩
 exact this n f p h
theorem fpAt_belowF {w w':World} {B b o:Nat} {f:FP} (h:FpAt w b o f) (hb:Below B w w') (hB:b < B):FpAt w' b o f:=
 ⟨(hb.cell (p:=⟨_,_,none⟩) hB).trans h.1,(hb.cell (p:=⟨_,_,none⟩) hB).trans h.2.1,(hb.cell (p:=⟨_,_,none⟩) hB).trans h.2.2.1,(hb.cell (p:=⟨_,_,none⟩) hB).trans h.2.2.2.1,(hb.cell (p:=⟨_,_,none⟩) hB).trans h.2.2.2.2⟩
structure PcAt (w:World) (b o:Nat) (f:FP) (p:Pl):Prop where
 lt:b < w.heap.size
 at_:FpAt w b o f
 in_:PlIn w w.heap.size f p
theorem PcAt.on {w w':World} {b o:Nat} {f:FP} {p:Pl} (h:PcAt w b o f p) (hb:Below w.heap.size w w'):PcAt w' b o f p:=⟨Nat.lt_of_lt_of_le h.lt hb.size,fpAt_belowF h.at_ hb h.lt,h.in_.on hb⟩
theorem PcAt.cells {w:World} {b o:Nat} {f:FP} {p:Pl} (h:PcAt w b o f p):w.cell? ⟨b,o,none⟩=some (.int .i64 p.kind) ∧ w.cell? ⟨b,o + 1,none⟩=some (.int .i64 p.table) ∧ w.cell? ⟨b,o + 2,none⟩=some (.slice f.es.A p.exprs.length f.es.c) ∧ w.cell? ⟨b,o + 3,none⟩=some (.slice f.cs.A p.cols.length f.cs.c) ∧ w.cell? ⟨b,o + 4,none⟩=some (.slice f.ks.A p.kids.length f.ks.c):=by
 obtain ⟨a1,a2,⟨a3,_,_⟩,⟨a4,_,_⟩,⟨a5,_,_⟩,_,_⟩:=h.in_.flat
 obtain ⟨c0,c1,c2,c3,c4⟩:=h.at_
 rw [a1] at c0
 rw [a2] at c1
 rw [a3] at c2
 rw [a4] at c3
 rw [a5] at c4
 exact ⟨c0,c1,c2,c3,c4⟩
theorem PcAt.val {w:World} {b o:Nat} {f:FP} {p:Pl} (h:PcAt w b o f p) {i:Nat} (hi:i < p.exprs.length) {W d:Int} (hok:ExOk W d p.exprs[i]) :
 ∃ eb eo,f.es.A=some ⟨eb,eo,none⟩ ∧ ∀ (z:World),Below w.heap.size w z → ∀ (row:Row1) (A:Option Addr) (c:Nat),RowOk W row → Sl 2 valC z z.heap.size A row →
   Calls Tryz.prog 108 #[.pointer (some ⟨eb,eo + i * 5,none⟩),.slice A row.length c] z fun e w'=>e=.returned (.agg #[.bool (exVal row p.exprs[i]).1,.int .i64 (exVal row p.exprs[i]).2]) ∧ Below z.heap.size z w':=by
 obtain ⟨_,_,_,_,_,a6,_⟩:=h.in_.flat
 obtain ⟨eb,eo,g,hA,hlt,hat,hin⟩:=a6.at_ hi
 refine ⟨eb,eo,hA,fun z hz row A c hro hsl=>value_ok _ g eb _ row A c W d z (Nat.lt_of_lt_of_le hlt hz.size) (feAt_belowI hat hz hlt) (hin.on hz) hok hro hsl⟩

set_option maxRecDepth 100000 in
set_option maxHeartbeats 4000000 in
theorem filteredIt_ok (W:Int) (tb pb b o:Nat) (f:FP) (p:Pl) (A:Option Addr) (c:Nat) (ps:List SRw) (w:World) (hn:ps.length ≤ 1048576)
 (hRt:Row w tb 32 [.int .i64 W,.slice A ps.length c]) (hRp:Row w pb 66 [.pointer (some ⟨b,o,none⟩)]) (hP:PcAt w b o f p) (hp0:0 < p.exprs.length) {d:Int} (hok:ExOk W d (eAt p 0)) (hA:Sl 1 svC w w.heap.size A (ps.map (·.1))) (hS:∀ q ∈ ps,SRs W w q) :
 SeqStopsK Fence.wide 5 Tryz.prog 106 #[.pointer (some ⟨tb,0,none⟩),.pointer (some ⟨pb,0,none⟩)] (fun x:Src W w=>#[encSR x.1]) (KpC w.heap.size)
  (fun xs=>xs.map (·.1)=ps.filter (fun q=>holdsE (eAt p 0) q.2)) (fun pre=>pre.map (·.1) <+: ps.filter (fun q=>holdsE (eAt p 0) q.2)) ps.length w:=by
 intro l J Jx z hz hJ hJx hY h0
 rw [eAt_at hp0] at hok ⊢
 obtain ⟨eb,eo,hEA,hVal⟩:=hP.val hp0 hok
 simp only [Nat.zero_mul,Nat.add_zero] at hVal
 obtain ⟨x,hx⟩:∃ x,p.exprs[0]=x:=⟨_,rfl⟩
 rw [hx] at hVal ⊢
 have a0:z.cell? ⟨tb,1,none⟩=some (.slice A ps.length c):=(hRt.on hz).cell 1
 have HA:=Lib.hid hA
 have HS:=Lib.hid hS
 have HY:=Lib.hid hY
 have HZ:=Lib.hid hz
 have HPP:=Lib.hid hVal
 have HF:=Lib.hid (fun (z:World) (hz:Below w.heap.size w z)=>show z.cell? ⟨pb,0,none⟩=some (.pointer (some ⟨b,o,none⟩)) ∧ z.cell? ⟨b,o + 2,none⟩=some (.slice (some ⟨eb,eo,none⟩) p.exprs.length f.es.c) from by
  obtain ⟨_,_,c2,_,_⟩:=(hP.on hz).cells
  rw [hEA] at c2
  exact ⟨(hRp.on hz).cell 0,c2⟩)
 have HJ:=Lib.hid hJ
 have hp0I:(0:Int) < (p.exprs.length:Int):=by omega
 clear hA hS hY hz hRt hRp hP hJ hVal hEA hx hok
 show CallsIn _ _ _ _ #[.func (.yield l) #[] #[],.pointer (some ⟨tb,0,none⟩),.pointer (some ⟨pb,0,none⟩)] _ _
 refine callsIn_of_wp Tryz.func106 rfl trivial ?_ rfl
 simp only [Tryz.ntmps106,List.size_toArray,List.length_cons,List.length_nil,Nat.reduceAdd,Nat.reduceSub,Array.replicate_succ,Array.replicate_zero,List.push_toArray,List.append_toArray,List.nil_append,List.cons_append]
 gi_wp2
 gi_loopw [9] (fun i wr=>∃ (k:Nat) (pre:List (Src W w)),k ≤ ps.length ∧ i=.int .i64 k ∧ pre.map (·.1)=(ps.take k).filter (fun q=>holdsE x q.2) ∧ J pre wr ∧ Below w.heap.size w wr ∧ z.heap.size ≤ wr.heap.size)
  (fun i _=>ps.length - (intOf i).toNat)
 case atStart=>exact ⟨0,[],Nat.zero_le _,rfl,rfl,h0,HZ.out,Nat.le_refl _⟩
 case round=>
  obtain ⟨k,pre,hk,rfl,hpre,hJs,hb,hzz⟩:=hrel
  by_cases hlt:k < ps.length
  ·obtain ⟨q,hq⟩:∃ q,ps[k]? = some q:=⟨_,List.getElem?_eq_getElem hlt⟩
   have hqs:=HS.out q (List.mem_of_getElem? hq)
   obtain ⟨bt,off,hAA,hB,hc⟩:=HA.out (by rw [List.length_map];omega)
   subst hAA
   have c2:wr.cell? ⟨bt,off + k,none⟩=some (.slice q.1.A q.1.n q.1.c):=by
    rw [hb.cell (p:=⟨bt,_,none⟩) hB]
    have:=hc k q.1 (by rw [List.getElem?_map,hq];rfl) 0 _ rfl
    rwa [Nat.mul_one,Nat.add_zero] at this
   obtain ⟨c3,c4⟩:=HF.out wr hb
   have hlen:pre.length < ps.length:=by
    have:=congrArg List.length hpre
    have h2:=List.length_filter_le (fun q:SRw=>holdsE x q.2) (ps.take k)
    rw [List.length_map] at this
    rw [List.length_take] at h2
    omega
   obtain ⟨⟨vn,vm⟩,hv⟩:∃ v,exVal q.2 x=v:=⟨_,rfl⟩
   have HVk:=Lib.hid (show Calls Tryz.prog 108 #[.pointer (some ⟨eb,eo,none⟩),.slice q.1.A q.1.n q.1.c] wr (fun e w'=>e=.returned (.agg #[.bool vn,.int .i64 vm]) ∧ Below wr.heap.size wr w') from by
    have:=HPP.out wr hb q.2 q.1.A q.1.c hqs.1 (hqs.2.2.2.2.on hb)
    rw [hv,← hqs.2.1] at this
    exact this)
   have HTk:=Lib.hid (fun (z:World)=>show Calls Tryz.prog 107 #[.agg #[.bool vn,.int .i64 vm]] z (fun e w'=>e=.returned (.int .i64 (trI (vn,vm))) ∧ Below z.heap.size z w') from truthOf_ok (vn,vm) z)
   obtain ⟨ta,hta⟩:∃ t,trI ((vn,vm):Val)=t:=⟨_,rfl⟩
   rw [hta] at HTk
   have HH:=Lib.hid (show holdsE x q.2=(ta == 2) by unfold holdsE;rw [hv,hta])
   have HP:=Lib.hid (And.intro hq (And.intro hpre (And.intro hJs (And.intro hb (And.intro hlen hzz)))))
   clear hq hpre hc hlen hb hJs hzz hv hta
   gi_wp2_with fail
   refine ⟨trivial,?_⟩
   refine (callsIn_wide.2 HVk.out).mono ?_
   rintro e w1 ⟨rfl,hb1⟩
   have H0:=Lib.hid hb1
   clear hb1
   gi_wp2_with fail
   refine ⟨trivial,?_⟩
   refine (callsIn_wide.2 (HTk.out _)).mono ?_
   rintro e w2 ⟨rfl,hb2⟩
   have hb12:=bch H0.out hb2
   have hj1:J pre w2:=Go.Qo.AbidesFrom.below HJ.out HP.out.2.2.1 hb12
   have H1:=Lib.hid (And.intro hj1 hb12)
   clear hj1 hb2 hb12
   by_cases h2:ta=2
   ·subst h2
    have HT:=Lib.hid (show holdsE x q.2=true by rw [HH.out];rfl)
    have hyl:=HY.out pre ⟨q,hqs⟩ w2 H1.out.1 HP.out.2.2.2.2.1
    change YieldAt _ _ _ l #[.slice q.1.A q.1.n q.1.c] w2 _ at hyl
    obtain ⟨fn,tmps,assign,body,hy,hR⟩:=hyl
    gi_wp2
    refine hR.mono ?_
    have hsn:(pre ++ [(⟨q,hqs⟩:Src W w)]).map (·.1)=(ps.take (k + 1)).filter (fun q=>holdsE x q.2):=by
     rw [List.map_append,HP.out.2.1,filter_take_succ (holdsE x) ps k q HP.out.1,HT.out]
     rfl
    have HSN:=Lib.hid hsn
    clear hsn
    rintro e W3 (⟨rfl,hJ3,hk3⟩ | ⟨rfl,hJx3⟩)
    ·have H3:=Lib.hid (And.intro hJ3 hk3)
     clear hJ3 hk3
     gi_wp2
     go_roundw
     case rel=>
      have hbw:=bch HP.out.2.2.2.1 H1.out.2
      exact ⟨k + 1,_,by omega,by simp,HSN.out,H3.out.1,hbw.trans (H3.out.2.belowN hbw.size),Nat.le_trans HP.out.2.2.2.2.2 (Nat.le_trans H1.out.2.size H3.out.2.size)⟩
     case measure=>simp [intOf];omega
    ·have H3:=Lib.hid hJx3
     clear hJx3
     gi_wp2
     refine bodyPost_ret (results_none rfl _ _ _) rfl ?_
     refine ⟨⟨_,rfl⟩,.inr ⟨_,?_,H3.out⟩⟩
     rw [HSN.out]
     have hpf:=(List.take_prefix (k + 1) ps).filter (fun q:SRw=>holdsE x q.2)
     exact hpf
   ·have h2':(ta == 2)=false:=by simpa using h2
    have HT:=Lib.hid (show holdsE x q.2=false by rw [HH.out,h2'])
    clear h2
    gi_wp2
    refine ⟨fun f h=>(by cases h),?_⟩
    gi_wp2
    go_roundw
    case rel=>
     refine ⟨k + 1,pre,by omega,by simp,?_,H1.out.1,bch HP.out.2.2.2.1 H1.out.2,Nat.le_trans HP.out.2.2.2.2.2 H1.out.2.size⟩
     rw [HP.out.2.1,filter_take_succ (holdsE x) ps k q HP.out.1,HT.out]
     simp
    case measure=>simp [intOf];omega
  ·obtain rfl:k=ps.length:=by omega
   gi_wp2
   go_end0
   exact ⟨⟨_,rfl⟩,.inl ⟨pre,by rw [hpre,List.take_length],hJs⟩⟩
theorem entersFiltered1:EntersF 106:=enters_of Tryz.func106 (by kernel_rfl) rfl
set_option maxHeartbeats 1000000 in
theorem filtered_ok (b o:Nat) (W:Int) (A:Option Addr) (n c:Nat) (w:World) :
 Calls Tryz.prog 84 #[.pointer (some ⟨b,o,none⟩),.agg #[.int .i64 W,.slice A n c]] w fun e w'=>e=.returned (.func (.func 106) #[] #[.pointer (some ⟨w.heap.size + 1,0,none⟩),.pointer (some ⟨w.heap.size,0,none⟩)]) ∧ Below w.heap.size w w' ∧ Row w' w.heap.size 66 [.pointer (some ⟨b,o,none⟩)] ∧ Row w' (w.heap.size + 1) 32 [.int .i64 W,.slice A n c]:=by
 go_enter Tryz.func84,Tryz.ntmps84
 go_wp2
 go_ret
 exact ⟨rfl,balloc (balloc (Below.refl _ _) _) _,Row.first _ _ _ _,Row.second _ _ _ _⟩

def dedQ (ps:List SRw):Nat → List SRw
 | 0=>[]
 | k + 1=>dedQ ps k ++ (if keepD (ps.map (·.2)) k then (ps[k]?).toList else [])
theorem dedQ_map (ps:List SRw):∀ k,k ≤ ps.length → (dedQ ps k).map (·.2)=dedT (ps.map (·.2)) k
 | 0,_=>rfl
 | k + 1,h=>by
   unfold dedQ dedT
   rw [List.map_append,dedQ_map ps k (by omega)]
   congr 1
   have hg:ps[k]? = some (ps[k]'(by omega)):=List.getElem?_eq_getElem (by omega)
   have hd:(ps.map (·.2)).getD k []=(ps[k]'(by omega)).2:=by rw [List.getD_eq_getElem?_getD,List.getElem?_map,hg];rfl
   split
   ·rw [hd,hg];rfl
   ·rfl
theorem dedQ_len (ps:List SRw):∀ k,(dedQ ps k).length ≤ k
 | 0=>by simp [dedQ]
 | k + 1=>by
   have:=dedQ_len ps k
   unfold dedQ
   rw [List.length_append]
   split
   ·cases ps[k]? <;> simp <;> omega
   ·simp;omega
theorem dedQ_pre (ps:List SRw) (k:Nat):∀ n,dedQ ps k <+: dedQ ps (k + n)
 | 0=>List.prefix_refl _
 | n + 1=>(dedQ_pre ps k n).trans (by rw [show k + (n + 1)=(k + n) + 1 by omega];conv=>rhs;unfold dedQ
                                      exact List.prefix_append _ _)
set_option maxRecDepth 100000 in
set_option maxHeartbeats 4000000 in
theorem differentIt_ok (W:Int) (tb:Nat) (A:Option Addr) (c:Nat) (ps:List SRw) (w:World) (hn:ps.length ≤ 1048576)
 (hRt:Row w tb 30 [.slice A ps.length c]) (hA:Sl 1 svC w w.heap.size A (ps.map (·.1))) (hS:∀ q ∈ ps,SRs W w q) :
 SeqStopsK Fence.wide 5 Tryz.prog 113 #[.pointer (some ⟨tb,0,none⟩)] (fun x:Src W w=>#[encSR x.1]) (KpC w.heap.size)
  (fun xs=>xs.map (·.1)=dedQ ps ps.length) (fun pre=>pre.map (·.1) <+: dedQ ps ps.length) ps.length w:=by
 intro l J Jx z hz hJ hJx hY h0
 have a0:z.cell? ⟨tb,0,none⟩=some (.slice A ps.length c):=(hRt.on hz).cell 0
 have HA:=Lib.hid hA
 have HS:=Lib.hid hS
 have HY:=Lib.hid hY
 have HZ:=Lib.hid hz
 have HF:=Lib.hid (fun (z:World) (hz:Below w.heap.size w z)=>show z.cell? ⟨tb,0,none⟩=some (.slice A ps.length c) from (hRt.on hz).cell 0)
 have HC:=Lib.hid (fun (k:Nat) (q:SRw) (hq:ps[k]? = some q) (z:World) (hz:Below w.heap.size w z)=>show ∃ bt off,A=some ⟨bt,off,none⟩ ∧ bt < w.heap.size ∧ z.cell? ⟨bt,off + k,none⟩=some (.slice q.1.A q.1.n q.1.c) from by
  have hlt:=(List.getElem?_eq_some_iff.1 hq).1
  obtain ⟨bt,off,hAA,hB,hc⟩:=hA (by rw [List.length_map];omega)
  refine ⟨bt,off,hAA,hB,?_⟩
  rw [hz.cell (p:=⟨bt,_,none⟩) hB]
  have:=hc k q.1 (by rw [List.getElem?_map,hq];rfl) 0 _ rfl
  rwa [Nat.mul_one,Nat.add_zero] at this)
 have HJ:=Lib.hid hJ
 clear hA hS hY hz hRt hJ
 show CallsIn _ _ _ _ #[.func (.yield l) #[] #[],.pointer (some ⟨tb,0,none⟩)] _ _
 refine callsIn_of_wp Tryz.func113 rfl trivial ?_ rfl
 simp only [Tryz.ntmps113,List.size_toArray,List.length_cons,List.length_nil,Nat.reduceAdd,Nat.reduceSub,Array.replicate_succ,Array.replicate_zero,List.push_toArray,List.append_toArray,List.nil_append,List.cons_append]
 gi_wp2
 gi_loopw [7] (fun i wr=>∃ (k:Nat) (pre:List (Src W w)),k ≤ ps.length ∧ i=.int .i64 k ∧ pre.map (·.1)=dedQ ps k ∧ J pre wr ∧ Below w.heap.size w wr ∧ z.heap.size ≤ wr.heap.size)
  (fun i _=>ps.length - (intOf i).toNat)
 case atStart=>exact ⟨0,[],Nat.zero_le _,rfl,rfl,h0,HZ.out,Nat.le_refl _⟩
 case round=>
  obtain ⟨k,pre,hk,rfl,hpre,hJs,hb,hzz⟩:=hrel
  by_cases hlt:k < ps.length
  ·obtain ⟨q,hq⟩:∃ q,ps[k]? = some q:=⟨_,List.getElem?_eq_getElem hlt⟩
   have hqs:=HS.out q (List.mem_of_getElem? hq)
   obtain ⟨bt,off,hAA,hB,c2⟩:=HC.out k q hq wr hb
   subst hAA
   have c3:=HF.out wr hb
   have hlen:pre.length < ps.length:=by
    have:=congrArg List.length hpre
    have h2:=dedQ_len ps k
    rw [List.length_map] at this
    omega
   have HK1:=Lib.hid (show keepD (ps.map (·.2)) k=true → dedQ ps (k + 1)=dedQ ps k ++ [q] from fun h=>by show dedQ ps k ++ _=_;rw [if_pos h,hq];rfl)
   have HK0:=Lib.hid (show keepD (ps.map (·.2)) k=false → dedQ ps (k + 1)=dedQ ps k from fun h=>by show dedQ ps k ++ _=_;rw [if_neg (by rw [h];simp),List.append_nil])
   have hkI:(k:Int) < (ps.length:Int):=by omega
   have HKP:=Lib.hid (show ∀ q',0 < k → ps[k - 1]? = some q' → keepD (ps.map (·.2)) k=decide (rpCmp q'.2 q.2 ≠ 0) from fun q' h0 hq'=>by
    have hq's:=HS.out q' (List.mem_of_getElem? hq')
    unfold keepD
    rw [List.getD_eq_getElem?_getD,List.getD_eq_getElem?_getD,List.getElem?_map,List.getElem?_map,hq,hq']
    show decide (k=0 ∨ rCmp q'.2 q.2 ≠ 0)=_
    rw [RowOk.rp hq's.1 hqs.1]
    congr 1
    apply propext
    constructor
    ·rintro (h | h)
     ·omega
     ·exact h
    ·exact fun h=>.inr h)
   have HP:=Lib.hid (And.intro hq (And.intro hpre (And.intro hJs (And.intro hb (And.intro hlen hzz)))))
   by_cases hk0:k=0
   ·subst hk0
    have HT:=Lib.hid (show keepD (ps.map (·.2)) 0=true by unfold keepD;simp)
    rw [Nat.add_zero] at c2
    have hkI:(0:Int) < (ps.length:Int):=by omega
    have hyl:=HY.out pre ⟨q,hqs⟩ wr hJs hlen
    change YieldAt _ _ _ l #[.slice q.1.A q.1.n q.1.c] wr _ at hyl
    obtain ⟨fn,tmps,assign,body,hy,hR⟩:=hyl
    have hsn:(pre ++ [(⟨q,hqs⟩:Src W w)]).map (·.1)=dedQ ps (0 + 1):=by rw [HK1.out HT.out,List.map_append,hpre];rfl
    have HSN:=Lib.hid hsn
    clear hq hpre hlen hb hJs hzz hsn
    gi_wp2
    refine ⟨trivial,?_⟩
    gi_wp2
    refine hR.mono ?_
    rintro e W3 (⟨rfl,hJ3,hk3⟩ | ⟨rfl,hJx3⟩)
    ·have H3:=Lib.hid (And.intro hJ3 hk3)
     clear hJ3 hk3
     gi_wp2
     go_roundw
     case rel=>exact ⟨0 + 1,_,by omega,by simp,HSN.out,H3.out.1,HP.out.2.2.2.1.trans (H3.out.2.belowN HP.out.2.2.2.1.size),Nat.le_trans HP.out.2.2.2.2.2 H3.out.2.size⟩
     case measure=>simp [intOf];omega
    ·have H3:=Lib.hid hJx3
     clear hJx3
     gi_wp2
     refine bodyPost_ret (results_none rfl _ _ _) rfl ?_
     refine ⟨⟨_,rfl⟩,.inr ⟨_,?_,H3.out⟩⟩
     rw [HSN.out]
     have:=dedQ_pre ps (0 + 1) (ps.length - (0 + 1))
     rwa [show 0 + 1 + (ps.length - (0 + 1))=ps.length by omega] at this
   ·have hkpos:(0:Int) < (k:Int):=by omega
    have hkw:IntKind.i64.wrap ((k:Int) - 1)=((k - 1:Nat):Int):=by rw [IntWalk.i64_in _ (by omega)];omega
    obtain ⟨q',hq'⟩:∃ q',ps[k - 1]? = some q':=⟨_,List.getElem?_eq_getElem (by omega)⟩
    have hqs':=HS.out q' (List.mem_of_getElem? hq')
    obtain ⟨bt',off',hAA',hB',c4⟩:=HC.out (k - 1) q' hq' wr hb
    cases hAA'
    have hkp:=HKP.out q' (by omega) hq'
    have hkI1:((k - 1:Nat):Int) < (ps.length:Int):=by omega
    have hkI2:(0:Int) ≤ ((k - 1:Nat):Int):=by omega
    obtain ⟨rc,hrc⟩:∃ r,rpCmp q'.2 q.2=r:=⟨_,rfl⟩
    rw [hrc] at hkp
    have HCM:=Lib.hid (show Calls Tryz.prog 102 #[.slice q'.1.A q'.1.n q'.1.c,.slice q.1.A q.1.n q.1.c] wr (fun e w'=>e=.returned (.int .i64 rc) ∧ Below wr.heap.size wr w') from by
     have l1:=(rowValid_len hqs.1.1).2
     have l2:=(rowValid_len hqs'.1.1).2
     have:=implCompareRowsD_ok q'.1.A q.1.A q'.1.c q.1.c q'.2 q.2 wr (by unfold maxLen;omega) (by unfold maxLen;omega) (hqs'.2.2.2.2.on hb) (hqs.2.2.2.2.on hb)
     rw [hrc,← hqs.2.1,← hqs'.2.1] at this
     exact this.mono fun e w' h=>⟨h.1,h.2.1⟩)
    have HKK:=Lib.hid hkp
    clear hq hpre hlen hb hJs hzz hq' hrc hkp hqs'
    obtain ⟨j,hj⟩:∃ j,k - 1=j:=⟨_,rfl⟩
    rw [hj] at hkw c4 hkI1 hkI2
    clear hj
    gi_wp2_with fail
    refine ⟨trivial,?_⟩
    refine (callsIn_wide.2 HCM.out).mono ?_
    rintro e w1 ⟨rfl,hb1⟩
    have hj1:J pre w1:=Go.Qo.AbidesFrom.below HJ.out HP.out.2.2.1 hb1
    have H1:=Lib.hid (And.intro hj1 hb1)
    clear hj1 hb1
    by_cases hr0:rc=0
    ·have HT:=Lib.hid (show keepD (ps.map (·.2)) k=false by rw [HKK.out];simp [hr0])
     subst hr0
     gi_wp2
     go_roundw
     case rel=>exact ⟨k + 1,pre,by omega,by simp,by rw [HK0.out HT.out];exact HP.out.2.1,H1.out.1,bch HP.out.2.2.2.1 H1.out.2,Nat.le_trans HP.out.2.2.2.2.2 H1.out.2.size⟩
     case measure=>simp [intOf];omega
    ·have HT:=Lib.hid (show keepD (ps.map (·.2)) k=true by rw [HKK.out];simp [hr0])
     have hr0':(rc == 0)=false:=by simpa using hr0
     have hyl:=HY.out pre ⟨q,hqs⟩ w1 H1.out.1 HP.out.2.2.2.2.1
     change YieldAt _ _ _ l #[.slice q.1.A q.1.n q.1.c] w1 _ at hyl
     obtain ⟨fn,tmps,assign,body,hy,hR⟩:=hyl
     have hsn:(pre ++ [(⟨q,hqs⟩:Src W w)]).map (·.1)=dedQ ps (k + 1):=by rw [HK1.out HT.out,List.map_append,HP.out.2.1];rfl
     have HSN:=Lib.hid hsn
     clear hsn hr0
     gi_wp2
     refine hR.mono ?_
     rintro e W3 (⟨rfl,hJ3,hk3⟩ | ⟨rfl,hJx3⟩)
     ·have H3:=Lib.hid (And.intro hJ3 hk3)
      clear hJ3 hk3
      gi_wp2
      go_roundw
      case rel=>
       have hbw:=bch HP.out.2.2.2.1 H1.out.2
       exact ⟨k + 1,_,by omega,by simp,HSN.out,H3.out.1,hbw.trans (H3.out.2.belowN hbw.size),Nat.le_trans HP.out.2.2.2.2.2 (Nat.le_trans H1.out.2.size H3.out.2.size)⟩
      case measure=>simp [intOf];omega
     ·have H3:=Lib.hid hJx3
      clear hJx3
      gi_wp2
      refine bodyPost_ret (results_none rfl _ _ _) rfl ?_
      refine ⟨⟨_,rfl⟩,.inr ⟨_,?_,H3.out⟩⟩
      rw [HSN.out]
      have:=dedQ_pre ps (k + 1) (ps.length - (k + 1))
      rwa [show k + 1 + (ps.length - (k + 1))=ps.length by omega] at this
  ·obtain rfl:k=ps.length:=by omega
   gi_wp2
   go_end0
   exact ⟨⟨_,rfl⟩,.inl ⟨pre,hpre,hJs⟩⟩
theorem entersDifferent1:EntersF 113:=enters_of Tryz.func113 (by kernel_rfl) rfl
set_option maxHeartbeats 1000000 in
theorem different_ok (A:Option Addr) (n c:Nat) (w:World) :
 Calls Tryz.prog 88 #[.slice A n c] w fun e w'=>e=.returned (.func (.func 113) #[] #[.pointer (some ⟨w.heap.size,0,none⟩)]) ∧ Below w.heap.size w w' ∧ Row w' w.heap.size 30 [.slice A n c]:=by
 go_enter Tryz.func88,Tryz.ntmps88
 go_wp2
 go_ret
 exact ⟨rfl,balloc (Below.refl _ _) _,Row.new _ _ _⟩
end Go.Proofs.YtcbfbgngkdiijaaGreat

namespace Go.Proofs.YtcbfbgngkdiijaaGreat
open Go.RowKit Go.Qo
set_option linter.unusedVariables false
set_option linter.unusedSimpArgs false
attribute [local go_sem] Oper.semAt_some

theorem bufRow_set {w:World} {b:Nat} {t:TypeId} {buf:List Val} (h:Row w b t (buf.flatMap valC)) {i:Nat} (hi:i < buf.length) (v:Val) :
 Row ((w.setCell ⟨b,i * 2,none⟩ (.bool v.1)).setCell ⟨b,i * 2 + 1,none⟩ (.int .i64 v.2)) b t ((buf.set i v).flatMap valC):=
 ((h.set _ _).set _ _).of (flat_setV buf i v hi)
theorem bufRow_cells {w:World} {b:Nat} {t:TypeId} {buf:List Val} (h:Row w b t (buf.flatMap valC)) {i:Nat} (hi:i < buf.length) :
 b < w.heap.size ∧ w.frozen? ⟨b,i * 2,none⟩=false ∧ w.frozen? ⟨b,i * 2 + 1,none⟩=false ∧ ∃ u v,w.cell? ⟨b,i * 2,none⟩=some (.bool u) ∧ w.cell? ⟨b,i * 2 + 1,none⟩=some (.int .i64 v):=by
 refine ⟨h.lt,h.frozen _,h.frozen _,buf[i].1,buf[i].2,?_,?_⟩
 ·rw [h.cell]
  have:=flat_get 2 valC valC_length buf i buf[i] 0 (.bool buf[i].1) (List.getElem?_eq_getElem hi) rfl
  simpa using this
 ·rw [h.cell]
  exact flat_get 2 valC valC_length buf i buf[i] 1 (.int .i64 buf[i].2) (List.getElem?_eq_getElem hi) rfl
theorem onlyB2 (w:World) (b i:Nat) (u v:Value):Only (fun k=>k=b) w ((w.setCell ⟨b,i,none⟩ u).setCell ⟨b,i + 1,none⟩ v):=
 (Only.set (S:=fun k=>k=b) (p:=⟨b,i,none⟩) (Only.refl w) (.inl rfl) u).set (p:=⟨b,i + 1,none⟩) (.inl rfl) v
theorem bufRow_sl {w:World} {b:Nat} {t:TypeId} {buf:List Val} (h:Row w b t (buf.flatMap valC)):Sl 2 valC w w.heap.size (some ⟨b,0,none⟩) buf:=Row.sl' valC_length h
theorem flat_zeros (n:Nat):zeros [.bool false,.int .i64 0] n=(List.replicate n ((false,0):Val)).flatMap valC:=by
 unfold zeros
 rw [List.flatMap_def,List.map_replicate]
 rfl
theorem take_set_next {α:Type} {xs:List α} {i:Nat} {y:α} {ys:List α} (hi:i < xs.length) (h:xs.take i=ys):(xs.set i y).take (i + 1)=ys ++ [y]:=by
 rw [List.take_add_one,List.getElem?_set,if_pos rfl,if_pos hi,List.take_set_of_le (Nat.le_refl _),h]
 rfl

set_option maxRecDepth 100000 in
set_option maxHeartbeats 8000000 in
theorem projectedIt_ok (W:Int) (N tb pb b o:Nat) (f:FP) (p:Pl) (A:Option Addr) (c:Nat) (ps:List SRw) (w:World) (hn:ps.length ≤ 1048576) (hW:1 ≤ W ∧ W ≤ 6)
 (hRt:Row w tb 32 [.int .i64 W,.slice A ps.length c]) (hRp:Row w pb 66 [.pointer (some ⟨b,o,none⟩)]) (hP:PcAt w b o f p) (hN:p.exprs.length=N) (hp1:1 ≤ N) (hp6:N ≤ 6) (hok:∀ e ∈ p.exprs,ExOk W 8 e) (hA:Sl 1 svC w w.heap.size A (ps.map (·.1))) (hS:∀ q ∈ ps,SRs W w q) :
 SeqR Fence.wide 5 Tryz.prog 109 #[.pointer (some ⟨pb,0,none⟩),.pointer (some ⟨tb,0,none⟩)] (fun x:Rw (N:Int)=>encSR x.1) (fun x z=>SRs (N:Int) z x.1) w.heap.size
  (fun ys=>ys.map (·.1.2)=ps.map fun q=>p.exprs.map fun e=>exVal q.2 e) (fun pre=>pre.map (·.1.2) <+: ps.map fun q=>p.exprs.map fun e=>exVal q.2 e) ps.length w:=by
 intro l J Jx z hz hJ hJx hY h0
 obtain ⟨G,hG⟩:∃ G,(ps.map fun q=>p.exprs.map fun e=>exVal q.2 e)=G:=⟨_,rfl⟩
 have hGl:G.length=ps.length:=by rw [← hG,List.length_map]
 rw [hG]
 have HF:=Lib.hid (fun (z:World) (hz:Below w.heap.size w z)=>show z.cell? ⟨pb,0,none⟩=some (.pointer (some ⟨b,o,none⟩)) ∧ z.cell? ⟨b,o + 2,none⟩=some (.slice f.es.A N f.es.c) ∧ z.cell? ⟨tb,1,none⟩=some (.slice A ps.length c) from by
  obtain ⟨_,_,c2,_,_⟩:=(hP.on hz).cells
  rw [hN] at c2
  exact ⟨(hRp.on hz).cell 0,c2,(hRt.on hz).cell 1⟩)
 have HVX:=Lib.hid (fun (i:Nat) (hi:i < p.exprs.length)=>hP.val hi (hok _ (List.getElem_mem hi)))
 have HVV:=Lib.hid (show ∀ q ∈ ps,RowOk (N:Int) (p.exprs.map fun e=>exVal q.2 e) from fun q hq=>rowOk_of (by omega) (by rw [List.length_map,hN]) fun v hv=>by
  obtain ⟨e,he,rfl⟩:=List.mem_map.1 hv
  exact exVal_valid (hS q hq).1 e 8 (hok e he))
 have HN:=Lib.hid hN
 have HG:=Lib.hid hG
 have HGL:=Lib.hid hGl
 have HC:=Lib.hid (fun (k:Nat) (q:SRw) (hq:ps[k]? = some q) (z:World) (hz:Below w.heap.size w z)=>show ∃ bt off,A=some ⟨bt,off,none⟩ ∧ bt < w.heap.size ∧ z.cell? ⟨bt,off + k,none⟩=some (.slice q.1.A q.1.n q.1.c) from by
  have hlt:=(List.getElem?_eq_some_iff.1 hq).1
  obtain ⟨bt,off,hAA,hB,hc⟩:=hA (by rw [List.length_map];omega)
  refine ⟨bt,off,hAA,hB,?_⟩
  rw [hz.cell (p:=⟨bt,_,none⟩) hB]
  have:=hc k q.1 (by rw [List.getElem?_map,hq];rfl) 0 _ rfl
  rwa [Nat.mul_one,Nat.add_zero] at this)
 have HS:=Lib.hid hS
 have HY:=Lib.hid hY
 have HZ:=Lib.hid hz
 have HJ:=Lib.hid hJ
 have H0:=Lib.hid h0
 have hmk:=run_make_rowN (P:=Tryz.prog) 100 85 _ _ _ Tryz.underlying100 zeroVal .i64 .i64 N (by omega) (by omega)
 obtain ⟨d0,d1,_⟩:=HF.out _ hz
 obtain ⟨Z1,hZ1⟩:∃ y,z.alloc (.cells (madeCells #[.bool false,.int .i64 0] (N * 2)) 85)=y:=⟨_,rfl⟩
 have bz1:Below z.heap.size z Z1:=by rw [← hZ1];exact balloc (Below.refl _ _) _
 have d2:(z.alloc (.cells (madeCells #[.bool false,.int .i64 0] (N * 2)) 85)).cell? ⟨tb,1,none⟩=some (.slice A ps.length c):=by rw [hZ1];exact (HF.out _ (bch hz bz1)).2.2
 obtain ⟨OB,hOB⟩:∃ n,z.heap.size=n:=⟨_,rfl⟩
 have HZ1:=Lib.hid hZ1
 have HB1:=Lib.hid (And.intro bz1 hOB)
 have hrow1:Row Z1 OB 85 ((List.replicate N ((false,0):Val)).flatMap valC):=by
  rw [← hZ1,← hOB,← flat_zeros]
  exact (Row.new _ _ _).of (made_zeros [.bool false,.int .i64 0] N)
 obtain ⟨E,hE⟩:∃ E:Nat → Prop,(fun i=>z.heap.size ≤ i ∧ i < Z1.heap.size)=E:=⟨_,rfl⟩
 have hsz1:Z1.heap.size=OB + 1:=by rw [← hZ1,World.size_alloc,hOB]
 have hEi:∀ i,E i ↔ i=OB:=fun i=>by rw [← hE,hOB];show OB ≤ i ∧ i < Z1.heap.size ↔ _;omega
 have HJ1:=Lib.hid (show J E [] Z1 from hJ _ E [] z Z1 h0 (only_below bz1) (hE ▸ enterG z Z1))
 have HEI:=Lib.hid hEi
 have HR1:=Lib.hid (And.intro hrow1 hsz1)
 have HBZ:=Lib.hid (show Below w.heap.size w Z1 from bch hz bz1)
 have JB:=Lib.hid (fun (pre:List (Rw (N:Int))) (X Y:World) (hj:J E pre X) (hxy:Only E X Y) (h2:OB < Y.heap.size)=>hJ E E pre X Y hj hxy (stayG fun i hi=>by have:=(hEi i).1 hi;omega))
 clear hA hS hY hz hRt hRp hP hJ hok hN hG hGl h0 hZ1 bz1 hOB hrow1 hE hEi hsz1
 show CallsIn _ _ _ _ #[.func (.yield l) #[] #[],.pointer (some ⟨pb,0,none⟩),.pointer (some ⟨tb,0,none⟩)] _ _
 refine callsIn_of_wp Tryz.func109 rfl trivial ?_ rfl
 simp only [Tryz.ntmps109,List.size_toArray,List.length_cons,List.length_nil,Nat.reduceAdd,Nat.reduceSub,Array.replicate_succ,Array.replicate_zero,List.push_toArray,List.append_toArray,List.nil_append,List.cons_append]
 gi_wp2
 rw [HZ1.out,HB1.out.2]
 gi_loopw [17] (fun iv wr=>∃ (n:Nat) (pre:List (Rw (N:Int))) (buf:List Val),n ≤ ps.length ∧ iv=.int .i64 n ∧ J E pre wr ∧ Below w.heap.size w wr ∧ Row wr OB 85 (buf.flatMap valC) ∧ buf.length=N ∧ pre.length=n ∧ pre.map (·.1.2)=G.take n)
  (fun iv _=>ps.length - (intOf iv).toNat)
 case atStart=>exact ⟨0,[],_,Nat.zero_le _,rfl,HJ1.out,HBZ.out,HR1.out.1,List.length_replicate,rfl,rfl⟩
 case round=>
  obtain ⟨n,pre,buf,hnN,rfl,hj,hb,hrow,hbl,hpl,hpg⟩:=hrel
  by_cases hlt:n < ps.length
  ·obtain ⟨q,hq⟩:∃ q,ps[n]? = some q:=⟨_,List.getElem?_eq_getElem hlt⟩
   have hqs:=HS.out q (List.mem_of_getElem? hq)
   obtain ⟨bt,off,hAA,hB,c2⟩:=HC.out n q hq wr hb
   subst hAA
   obtain ⟨c3,c4,_⟩:=HF.out wr hb
   have hltI:(n:Int) < (ps.length:Int):=by omega
   have HPR:=Lib.hid (show RowOk (N:Int) (p.exprs.map fun e=>exVal q.2 e) from HVV.out q (List.mem_of_getElem? hq))
   have HGN:=Lib.hid (show G[n]? = some (p.exprs.map fun e=>exVal q.2 e) by rw [← HG.out,List.getElem?_map,hq];rfl)
   have HP:=Lib.hid (And.intro hb (And.intro hpl (And.intro hpg hqs)))
   have hOBl:=hrow.lt
   obtain ⟨wo,hwo⟩:∃ y,y=wr:=⟨_,rfl⟩
   subst hwo
   have HJ2:=Lib.hid (And.intro hj (And.intro hrow hbl))
   clear hq hb hpl hpg hj hrow hbl
   gi_wp2
   gi_loopw [26] (fun iv wq=>∃ (i:Nat) (bf:List Val),i ≤ N ∧ iv=.int .i64 i ∧ J E pre wq ∧ Below w.heap.size w wq ∧ Row wq OB 85 (bf.flatMap valC) ∧ bf.length=N ∧ bf.take i=(p.exprs.take i).map fun e=>exVal q.2 e)
    (fun iv _=>N - (intOf iv).toNat)
   case atStart=>exact ⟨0,buf,Nat.zero_le _,rfl,HJ2.out.1,HP.out.1,HJ2.out.2.1,HJ2.out.2.2,rfl⟩
   case round=>
    obtain ⟨i,bf,hiN,rfl,hj,hb,hrow,hbl,htk⟩:=hrel
    obtain ⟨c3,c4,_⟩:=HF.out wr hb
    by_cases hil:i < N
    ·have hiI:(i:Int) < (N:Int):=by omega
     have hie:i < p.exprs.length:=by rw [HN.out];exact hil
     obtain ⟨eb,eo,hEA,hval⟩:=HVX.out i hie
     have HE:=Lib.hid hEA
     rw [hEA] at c4
     obtain ⟨⟨vn,vm⟩,hv⟩:∃ v,exVal q.2 p.exprs[i]=v:=⟨_,rfl⟩
     have HVK:=Lib.hid (show Calls Tryz.prog 108 #[.pointer (some ⟨eb,eo + i * 5,none⟩),.slice q.1.A q.1.n q.1.c] wr (fun e w'=>e=.returned (.agg #[.bool vn,.int .i64 vm]) ∧ Below wr.heap.size wr w') from by
      have:=hval wr hb q.2 q.1.A q.1.c HP.out.2.2.2.1 (HP.out.2.2.2.2.2.2.2.on hb)
      rw [hv,← HP.out.2.2.2.2.1] at this
      exact this)
     have HTK:=Lib.hid (show (p.exprs.take (i + 1)).map (fun e=>exVal q.2 e)=(p.exprs.take i).map (fun e=>exVal q.2 e) ++ [((vn,vm):Val)] by rw [List.take_add_one,List.getElem?_eq_getElem hie,← hv,List.map_append];rfl)
     have HR:=Lib.hid (And.intro hj (And.intro hb (And.intro hrow (And.intro hbl htk))))
     clear hEA hval hv hj hb hrow hbl htk hie
     gi_wp2_with fail
     refine ⟨trivial,?_⟩
     refine (callsIn_wide.2 HVK.out).mono ?_
     rintro e w1 ⟨rfl,hb1⟩
     have hro1:=HR.out.2.2.1.on hb1
     obtain ⟨q0,q1,q2,u,v,q3,q4⟩:=bufRow_cells hro1 (i:=i) (by have:=HR.out.2.2.2.1;omega)
     have H1:=Lib.hid (And.intro hb1 hro1)
     clear hb1 hro1
     gi_wp2
     go_roundw
     case rel=>
      have hil':i < bf.length:=by have:=HR.out.2.2.2.1;omega
      have hbo:=onlyB2 w1 OB (i * 2) (.bool vn) (.int .i64 vm)
      have hbw:Below w.heap.size w w1:=bch HR.out.2.1 H1.out.1
      refine ⟨i + 1,bf.set i (vn,vm),by omega,by first | go_num | simp,?_,?_,bufRow_set H1.out.2 hil' (vn,vm),by rw [List.length_set];exact HR.out.2.2.2.1,?_⟩
      ·refine JB.out pre w1 _ (JB.out pre wr w1 HR.out.1 (only_below H1.out.1) H1.out.2.lt) (hbo.mono fun k _ hk=>(HEI.out k).2 hk) ?_
       have:=(bufRow_set H1.out.2 hil' (vn,vm)).lt
       exact this
      ·have hOw:w.heap.size ≤ OB:=by have:=HB1.out.2;have:=HZ.out.size;omega
       exact (hbw.setCell (p:=⟨OB,i * 2,none⟩) hOw _).setCell (p:=⟨OB,i * 2 + 1,none⟩) hOw _
      ·rw [take_set_next hil' HR.out.2.2.2.2,HTK.out]
     case measure=>simp [intOf];omega
    ·obtain rfl:i=N:=by omega
     have hbe:bf=p.exprs.map fun e=>exVal q.2 e:=by
      have h1:=htk
      rwa [List.take_of_length_le (by omega),List.take_of_length_le (by rw [HN.out];exact Nat.le_refl _)] at h1
     subst hbe
     obtain ⟨R,hR⟩:∃ R,(p.exprs.map fun e=>exVal q.2 e)=R:=⟨_,rfl⟩
     have hRok:=HPR.out
     have hGn:=HGN.out
     rw [hR] at hRok hGn hrow hbl
     have hsr:SRs (i:Int) wr (⟨some ⟨OB,0,none⟩,i,i⟩,R):=⟨hRok,by rw [hbl],by rw [hbl];exact Nat.le_refl _,by unfold maxLen;show i ≤ _;omega,bufRow_sl hrow⟩
     have hyl:=HY.out E pre ⟨(⟨some ⟨OB,0,none⟩,i,i⟩,R),hRok⟩ wr hj hsr (by rw [HP.out.2.1];exact hlt)
     change YieldAt _ _ _ l #[.slice (some ⟨OB,0,none⟩) i i] wr _ at hyl
     obtain ⟨fn,tmps,assign,body,hy,hRy⟩:=hyl
     have HR:=Lib.hid (And.intro hb (And.intro hrow (And.intro hbl (And.intro hRok hGn))))
     clear hb hbl hGn hsr htk hR
     have hsn:(pre ++ [(⟨(⟨some ⟨OB,0,none⟩,i,i⟩,R),hRok⟩:Rw (i:Int))]).map (·.1.2)=G.take (n + 1):=by
      have hg:=HR.out.2.2.2.2
      rw [List.map_append,HP.out.2.2.1,List.take_add_one,hg]
      rfl
     have HSN:=Lib.hid hsn
     clear hsn
     gi_wp2
     refine hRy.mono ?_
     clear hy hRy
     rintro e x6 (⟨rfl,hJ6,hk6⟩ | ⟨rfl,hJx6⟩)
     ·have H6:=Lib.hid (And.intro hJ6 hk6)
      clear hJ6 hk6
      gi_wp2
      go_roundw
      case rel=>
       refine ⟨n + 1,_,R,by omega,by first | go_num | simp,H6.out.1,keepBelowG HR.out.1 H6.out.2,?_,HR.out.2.2.1,by rw [List.length_append,HP.out.2.1];rfl,HSN.out⟩
       exact HR.out.2.1.keep (H6.out.2.block OB HR.out.2.1.lt fun h=>h.2 ((HEI.out OB).2 rfl))
      case measure=>simp [intOf];omega
     ·have H6:=Lib.hid hJx6
      clear hJx6
      gi_wp2
      refine bodyPost_ret (results_none rfl _ _ _) rfl ⟨⟨_,rfl⟩,.inr ⟨_,E,?_,H6.out⟩⟩
      rw [HSN.out]
      exact List.take_prefix _ _
  ·obtain rfl:n=ps.length:=by omega
   gi_wp2
   go_end0
   refine ⟨⟨_,rfl⟩,.inl ⟨pre,E,?_,hj⟩⟩
   rw [hpg,List.take_of_length_le (by rw [HGL.out];exact Nat.le_refl _)]
theorem entersProjected1:EntersF 109:=enters_of Tryz.func109 (by kernel_rfl) rfl
set_option maxHeartbeats 1000000 in
theorem projected_ok (b o:Nat) (W:Int) (A:Option Addr) (n c:Nat) (w:World) :
 Calls Tryz.prog 85 #[.pointer (some ⟨b,o,none⟩),.agg #[.int .i64 W,.slice A n c]] w fun e w'=>e=.returned (.func (.func 109) #[] #[.pointer (some ⟨w.heap.size,0,none⟩),.pointer (some ⟨w.heap.size + 1,0,none⟩)]) ∧ Below w.heap.size w w' ∧ Row w' w.heap.size 66 [.pointer (some ⟨b,o,none⟩)] ∧ Row w' (w.heap.size + 1) 32 [.int .i64 W,.slice A n c]:=by
 go_enter Tryz.func85,Tryz.ntmps85
 go_wp2
 go_ret
 exact ⟨rfl,balloc (balloc (Below.refl _ _) _) _,Row.first _ _ _ _,Row.second _ _ _ _⟩
end Go.Proofs.YtcbfbgngkdiijaaGreat

namespace Go.Proofs.YtcbfbgngkdiijaaGreat
open Go.RowKit Go.Qo
set_option linter.unusedVariables false
set_option linter.unusedSimpArgs false
attribute [local go_sem] Oper.semAt_some

theorem run_copy_at {P:Program} (w:World) (dT sT ty elem:TypeId) (g off nd dCap ns sCap sz:Nat) (a:Addr) (cur:List Value) (t:TypeId) (cs:List Value)
 (hu:P.underlying dT=some (.slice elem)) (hs:(P.info? elem).map (·.size)=some sz) (hg:Row w g t cur) (hn:cs.length=ns * sz) (hle:ns ≤ nd)
 (hsrc:∀ j v,cs[j]? = some v → w.cell? (a.add j)=some v) (hfit:off + cs.length ≤ cur.length) (h1:∀ v ∈ cs,v.oneCell'=true) :
 (Builtin.copy_ #[dT,sT] ty #[.slice (some ⟨g,off,none⟩) nd dCap,.slice (some a) ns sCap]).run P w=.ok (goInt ns) (w.setRow g (cur.take off ++ cs ++ cur.drop (off + cs.length)).toArray):=by
 have hl:=run_loadCells_list (P:=P) w a cs hsrc
 have hst:=run_storeCells_at P g off t cs 0 cur.toArray w hg (by simp;omega) h1
 have hmin:min ns nd=ns:=Nat.min_eq_left hle
 have hmin2:min nd ns=ns:=Nat.min_eq_right hle
 cases hq:P.info? elem with
 | none=>simp [hq] at hs
 | some i=>
   have hi:i.size=sz:=by simpa [hq] using hs
   simp [Builtin.copy_,run_underlying hu,Builtin.lenOf,Builtin.firstCells,sizeOf,typeInfo,hq,hi,← hn,hl,hst,hmin,hmin2]
theorem valFlat_len (xs:List Val):(xs.flatMap valC).length=xs.length * 2:=flat_length 2 valC valC_length xs
theorem valFlat_take:∀ (xs:List Val) (n:Nat),(xs.flatMap valC).take (n * 2)=(xs.take n).flatMap valC
 | xs,0=>by simp
 | [],n + 1=>by simp
 | x :: xs,n + 1=>by
   have ih:=valFlat_take xs n
   rw [show (n + 1) * 2=n * 2 + 1 + 1 by omega]
   simp only [List.flatMap_cons,List.take_succ_cons,valC,List.cons_append,List.nil_append,ih]
theorem valFlat_drop:∀ (xs:List Val) (n:Nat),(xs.flatMap valC).drop (n * 2)=(xs.drop n).flatMap valC
 | xs,0=>by simp
 | [],n + 1=>by simp
 | x :: xs,n + 1=>by
   have ih:=valFlat_drop xs n
   rw [show (n + 1) * 2=n * 2 + 1 + 1 by omega]
   simp only [List.flatMap_cons,List.drop_succ_cons,valC,List.cons_append,List.nil_append,ih]
theorem bufRow_lay {w:World} {b:Nat} {t:TypeId} {buf cs:List Val} (h:Row w b t (buf.flatMap valC)) (off:Nat) :
 Row (w.setRow b ((buf.flatMap valC).take (off * 2) ++ cs.flatMap valC ++ (buf.flatMap valC).drop (off * 2 + (cs.flatMap valC).length)).toArray) b t ((buf.take off ++ cs ++ buf.drop (off + cs.length)).flatMap valC):=by
 have e:(buf.flatMap valC).take (off * 2) ++ cs.flatMap valC ++ (buf.flatMap valC).drop (off * 2 + (cs.flatMap valC).length)=(buf.take off ++ cs ++ buf.drop (off + cs.length)).flatMap valC:=by
  rw [valFlat_len,← Nat.add_mul,valFlat_take,valFlat_drop,List.flatMap_append,List.flatMap_append]
 rw [e]
 exact setRow_heap _ _ _ _ _ _ h
theorem only_setRow (w:World) (g:Nat) (cs:Array Value):Only (fun k=>k=g) w (w.setRow g cs):=
 ⟨rfl,rfl,rfl,by simp [World.setRow],fun k _ hk=>setRow_other w g k cs hk⟩
theorem run_copy_buf {w:World} {OB nd dCap L sCap off:Nat} {sb so:Nat} {buf cs:List Val} (h:Row w OB 85 (buf.flatMap valC)) (hs:Sl 2 valC w w.heap.size (some ⟨sb,so,none⟩) cs) (hl:cs.length=L) (hle:L ≤ nd) (hfit:off + L ≤ buf.length) :
 (Builtin.copy_ #[100,100] 3 #[.slice (some ⟨OB,off * 2,none⟩) nd dCap,.slice (some ⟨sb,so,none⟩) L sCap]).run Tryz.prog w=.ok (goInt L) (w.setRow OB ((buf.flatMap valC).take (off * 2) ++ cs.flatMap valC ++ (buf.flatMap valC).drop (off * 2 + (cs.flatMap valC).length)).toArray):=
 run_copy_at w _ _ _ 85 OB (off * 2) nd dCap L sCap 2 ⟨sb,so,none⟩ _ 85 (cs.flatMap valC) Tryz.underlying100 (by kernel_rfl) h (by rw [valFlat_len,hl]) hle (slCells (by omega) valC_length hs) (by rw [valFlat_len,valFlat_len];omega) (fun v hv=>by obtain ⟨y,_,hy⟩:=List.mem_flatMap.1 hv;exact valC_one y v hy)
theorem run_slice_tail {w:World} (OB N wa wb:Nat) (h:wa + wb=N) (hb:1 ≤ wb) :
 (Instr.slice 100 (.slice (some ⟨OB,0,none⟩) N N) (some (.int .i64 (wa:Int))) none none).run Tryz.prog w=.ok (.slice (some ⟨OB,wa * 2,none⟩) wb wb) w:=by
 have he:Tryz.prog.elem 100=85:=by kernel_rfl
 have hz:(Tryz.prog.info? 85).map (·.size)=some 2:=by kernel_rfl
 rw [run_slice_l (t:=100) (ht:=by rw [he];exact Tryz.underlying100) (kl:=.i64) (l:=(wa:Int)) (h0:=by omega) (h1:=by omega),he]
 cases hq:Tryz.prog.info? 85 with
 | none=>simp [hq] at hz
 | some i=>
   have hi:i.size=2:=by simpa [hq] using hz
   have hne:¬ N=wa:=by omega
   have hsub:N - wa=wb:=by omega
   simp [sizeOf,typeInfo,hq,hi,Result.andThen,sliced,hne,hsub,Addr.add]
   exact fun h=>h.symm

set_option maxRecDepth 100000 in
set_option maxHeartbeats 8000000 in
theorem joinedIt_ok (wa wb N ta tb pb b o:Nat) (f:FP) (p:Pl) (A A':Option Addr) (c c':Nat) (ps qs:List SRw) (w:World) (hn:ps.length ≤ 1048576) (hn':qs.length ≤ 1048576) (h1a:1 ≤ wa) (h1b:1 ≤ wb) (hN:wa + wb=N) (hN6:N ≤ 6)
 (hRa:Row w ta 32 [.int .i64 (wa:Int),.slice A ps.length c]) (hRb:Row w tb 32 [.int .i64 (wb:Int),.slice A' qs.length c']) (hRp:Row w pb 66 [.pointer (some ⟨b,o,none⟩)]) (hP:PcAt w b o f p) (hk:p.kind=4 ∨ p.kind=5) (hp0:0 < p.exprs.length) (hok:ExOk (N:Int) 8 (eAt p 0))
 (hA:Sl 1 svC w w.heap.size A (ps.map (·.1))) (hS:∀ q ∈ ps,SRs (wa:Int) w q) (hA':Sl 1 svC w w.heap.size A' (qs.map (·.1))) (hS':∀ q ∈ qs,SRs (wb:Int) w q) :
 SeqR Fence.wide 5 Tryz.prog 110 #[.pointer (some ⟨ta,0,none⟩),.pointer (some ⟨tb,0,none⟩),.pointer (some ⟨pb,0,none⟩)] (fun x:Rw (N:Int)=>encSR x.1) (fun x z=>SRs (N:Int) z x.1) w.heap.size
  (fun ys=>ys.map (·.1.2)=joinR (eAt p 0) (p.kind == 5) wb (ps.map (·.2)) (qs.map (·.2))) (fun pre=>pre.map (·.1.2) <+: joinR (eAt p 0) (p.kind == 5) wb (ps.map (·.2)) (qs.map (·.2))) (joinR (eAt p 0) (p.kind == 5) wb (ps.map (·.2)) (qs.map (·.2))).length w:=by
 intro l J Jx z hz hJ hJx hY h0
 rw [eAt_at hp0] at hok
 obtain ⟨eb,eo,hEA,hVal⟩:=hP.val hp0 hok
 simp only [Nat.zero_mul,Nat.add_zero] at hVal
 rw [← eAt_at hp0] at hVal
 obtain ⟨x,hx⟩:∃ x,eAt p 0=x:=⟨_,rfl⟩
 rw [hx] at hVal hY ⊢
 obtain ⟨kd,hkd⟩:∃ k,p.kind=k:=⟨_,rfl⟩
 rw [hkd] at hk hY ⊢
 obtain ⟨ou,hou⟩:∃ t,(kd == 5)=t:=⟨_,rfl⟩
 rw [hou] at hY ⊢
 obtain ⟨G,hG⟩:∃ G,joinR x ou wb (ps.map (·.2)) (qs.map (·.2))=G:=⟨_,rfl⟩
 rw [hG] at hY ⊢
 have HF:=Lib.hid (fun (z:World) (hz:Below w.heap.size w z)=>show (z.cell? ⟨pb,0,none⟩=some (.pointer (some ⟨b,o,none⟩)) ∧ z.cell? ⟨b,o,none⟩=some (.int .i64 kd) ∧ z.cell? ⟨b,o + 2,none⟩=some (.slice (some ⟨eb,eo,none⟩) p.exprs.length f.es.c)) ∧ (z.cell? ⟨ta,0,none⟩=some (.int .i64 (wa:Int)) ∧ z.cell? ⟨ta,1,none⟩=some (.slice A ps.length c) ∧ z.cell? ⟨tb,0,none⟩=some (.int .i64 (wb:Int)) ∧ z.cell? ⟨tb,1,none⟩=some (.slice A' qs.length c')) from by
  obtain ⟨c0,_,c2,_,_⟩:=(hP.on hz).cells
  rw [hEA] at c2
  rw [hkd] at c0
  exact ⟨⟨(hRp.on hz).cell 0,c0,c2⟩,(hRa.on hz).cell 0,(hRa.on hz).cell 1,(hRb.on hz).cell 0,(hRb.on hz).cell 1⟩)
 have HRow:=fun {W:Int} {A:Option Addr} {ps:List SRw} (hA:Sl 1 svC w w.heap.size A (ps.map (·.1))) (hS:∀ q ∈ ps,SRs W w q) (h1:1 ≤ W) (k:Nat) (q:SRw) (hq:ps[k]? = some q) (z:World) (hz:Below w.heap.size w z)=>show ∃ bt off sb so L sc,A=some ⟨bt,off,none⟩ ∧ bt < w.heap.size ∧ q.1=⟨some ⟨sb,so,none⟩,L,sc⟩ ∧ q.2.length=L ∧ z.cell? ⟨bt,off + k,none⟩=some (.slice (some ⟨sb,so,none⟩) L sc) ∧ Sl 2 valC z z.heap.size (some ⟨sb,so,none⟩) q.2 from by
  have hlt:=(List.getElem?_eq_some_iff.1 hq).1
  obtain ⟨bt,off,hAA,hB,hc⟩:=hA (by rw [List.length_map];omega)
  obtain ⟨⟨qA,qn,qc⟩,q2⟩:=q
  have hs:=hS _ (List.mem_of_getElem? hq)
  have hl1:(q2.length:Int)=W:=hs.1.2
  have hl2:0 < q2.length:=by omega
  obtain ⟨sb,so,e1,_,_⟩:=hs.2.2.2.2 hl2
  have e1:qA=some ⟨sb,so,none⟩:=e1
  subst e1
  have e2:qn=q2.length:=hs.2.1
  subst e2
  refine ⟨bt,off,sb,so,_,qc,hAA,hB,rfl,rfl,?_,hs.2.2.2.2.on hz⟩
  rw [hz.cell (p:=⟨bt,_,none⟩) hB]
  have:=hc k _ (by rw [List.getElem?_map,hq];rfl) 0 _ rfl
  rwa [Nat.mul_one,Nat.add_zero] at this
 have HCa:=Lib.hid (HRow hA hS (by omega))
 have HCb:=Lib.hid (HRow hA' hS' (by omega))
 have HPP:=Lib.hid hVal
 have HS:=Lib.hid (And.intro hS hS')
 have HY:=Lib.hid hY
 have HZ:=Lib.hid hz
 have hww:IntKind.i64.wrap ((wa:Int) + (wb:Int))=(N:Int):=by rw [IntWalk.i64_in _ (by omega)];omega
 have hmk:=run_make_rowN (P:=Tryz.prog) 100 85 _ _ _ Tryz.underlying100 zeroVal .i64 .i64 N (by omega) (by omega)
 obtain ⟨_,d0,_,d2,_⟩:=HF.out _ hz
 obtain ⟨Z1,hZ1⟩:∃ y,z.alloc (.cells (madeCells #[.bool false,.int .i64 0] (N * 2)) 85)=y:=⟨_,rfl⟩
 have bz1:Below z.heap.size z Z1:=by rw [← hZ1];exact balloc (Below.refl _ _) _
 have d3:(z.alloc (.cells (madeCells #[.bool false,.int .i64 0] (N * 2)) 85)).cell? ⟨ta,1,none⟩=some (.slice A ps.length c):=by rw [hZ1];exact (HF.out _ (bch hz bz1)).2.2.1
 obtain ⟨OB,hOB⟩:∃ n,z.heap.size=n:=⟨_,rfl⟩
 have HZ1:=Lib.hid hZ1
 have HB1:=Lib.hid (And.intro bz1 hOB)
 have hrow1:Row Z1 OB 85 ((List.replicate N ((false,0):Val)).flatMap valC):=by
  rw [← hZ1,← hOB,← flat_zeros]
  exact (Row.new _ _ _).of (made_zeros [.bool false,.int .i64 0] N)
 obtain ⟨E,hE⟩:∃ E:Nat → Prop,(fun i=>z.heap.size ≤ i ∧ i < Z1.heap.size)=E:=⟨_,rfl⟩
 have hsz1:Z1.heap.size=OB + 1:=by rw [← hZ1,World.size_alloc,hOB]
 have hEi:∀ i,E i ↔ i=OB:=fun i=>by rw [← hE,hOB];show OB ≤ i ∧ i < Z1.heap.size ↔ _;omega
 have HJ1:=Lib.hid (show J E [] Z1 from hJ _ E [] z Z1 h0 (only_below bz1) (hE ▸ enterG z Z1))
 have HEI:=Lib.hid hEi
 have HR1:=Lib.hid (And.intro hrow1 hsz1)
 have HBZ:=Lib.hid (show Below w.heap.size w Z1 from bch hz bz1)
 have JB:=Lib.hid (fun (pre:List (Rw (N:Int))) (X Y:World) (hj:J E pre X) (hxy:Only E X Y) (h2:OB < Y.heap.size)=>hJ E E pre X Y hj hxy (stayG fun i hi=>by have:=(hEi i).1 hi;omega))
 have HOw:=Lib.hid (show w.heap.size ≤ OB by have:=hz.size;omega)
 have HG:=Lib.hid (show G=(ps.map (·.2)).flatMap fun r=>joinOne x ou wb r (qs.map (·.2)) from hG.symm)
 have HKD:=Lib.hid (And.intro hk hou)
 have HNN:=Lib.hid hN
 have hp0I:(0:Int) < (p.exprs.length:Int):=by omega
 clear hA hS hA' hS' hY hz hRa hRb hRp hP hJ hVal hok hEA hx hkd hk hou hG hN h0 hZ1 bz1 hOB hrow1 hE hEi hsz1 HRow
 show CallsIn _ _ _ _ #[.func (.yield l) #[] #[],.pointer (some ⟨ta,0,none⟩),.pointer (some ⟨tb,0,none⟩),.pointer (some ⟨pb,0,none⟩)] _ _
 refine callsIn_of_wp Tryz.func110 rfl trivial ?_ rfl
 simp only [Tryz.ntmps110,List.size_toArray,List.length_cons,List.length_nil,Nat.reduceAdd,Nat.reduceSub,Array.replicate_succ,Array.replicate_zero,List.push_toArray,List.append_toArray,List.nil_append,List.cons_append]
 gi_wp2
 rw [HZ1.out,HB1.out.2]
 gi_loopw [21] (fun iv wr=>∃ (n:Nat) (pre:List (Rw (N:Int))) (buf:List Val),n ≤ ps.length ∧ iv=.int .i64 n ∧ J E pre wr ∧ Below w.heap.size w wr ∧ Row wr OB 85 (buf.flatMap valC) ∧ buf.length=N ∧ G=pre.map (·.1.2) ++ ((ps.map (·.2)).drop n).flatMap fun r=>joinOne x ou wb r (qs.map (·.2)))
  (fun iv _=>ps.length - (intOf iv).toNat)
 case atStart=>exact ⟨0,[],_,Nat.zero_le _,rfl,HJ1.out,HBZ.out,HR1.out.1,List.length_replicate,HG.out⟩
 case round=>
  obtain ⟨n,pre,buf,hnN,rfl,hj,hb,hrow,hbl,hpg⟩:=hrel
  by_cases hlt:n < ps.length
  ·obtain ⟨q,hq⟩:∃ q,ps[n]? = some q:=⟨_,List.getElem?_eq_getElem hlt⟩
   have hqs:=HS.out.1 q (List.mem_of_getElem? hq)
   obtain ⟨bt,off,sb,so,L,sc,hAA,hB,hq1,hqL,c2,hsl⟩:=HCa.out n q hq wr hb
   obtain rfl:wa=L:=by have:=hqs.1.2;omega
   subst hAA
   obtain ⟨⟨c3,c4,c5⟩,c6,c7,c8,c9⟩:=HF.out wr hb
   have hltI:(n:Int) < (ps.length:Int):=by omega
   obtain ⟨r,hr⟩:∃ r,q.2=r:=⟨_,rfl⟩
   rw [hr] at hqL hsl
   have hqr:=hqs.1
   rw [hr] at hqr
   have hcp:=run_copy_buf (nd:=N) (dCap:=N) (sCap:=sc) (off:=0) hrow hsl hqL (by have:=HNN.out;omega) (by have:=HNN.out;omega)
   have hlay:=bufRow_lay (cs:=r) hrow 0
   rw [Nat.zero_mul] at hcp hlay
   obtain ⟨W2,hW2⟩:∃ y,wr.setRow OB ((buf.flatMap valC).take 0 ++ r.flatMap valC ++ (buf.flatMap valC).drop (0 + (r.flatMap valC).length)).toArray=y:=⟨_,rfl⟩
   rw [hW2] at hcp hlay
   have HE2:=Lib.hid (show Only E wr W2 by rw [← hW2];exact (only_setRow wr OB _).mono fun k _ hk=>(HEI.out k).2 hk)
   have hb2:Below w.heap.size w W2:=by rw [← hW2];exact below_setRow hb HOw.out _
   obtain ⟨⟨e3,e4,e5⟩,e6,e7,e8,e9⟩:=HF.out W2 hb2
   obtain ⟨bf0,hbf0⟩:∃ l,List.take 0 buf ++ r ++ List.drop (0 + List.length r) buf=l:=⟨_,rfl⟩
   have hbl0:bf0.length=N:=by rw [← hbf0];simp;have:=HNN.out;omega
   have htk0:bf0.take wa=r:=by rw [← hbf0,List.take_zero,List.nil_append,List.take_left' hqL]
   rw [hbf0] at hlay
   have hj2:J E pre W2:=JB.out pre wr W2 hj HE2.out (by have:=hlay.lt;omega)
   have hdr:(ps.map (·.2)).drop n=r :: (ps.map (·.2)).drop (n + 1):=by
    rw [List.drop_eq_getElem_cons (by rw [List.length_map];exact hlt)]
    congr 1
    rw [List.getElem_map,← hr]
    congr 1
    exact (List.getElem?_eq_some_iff.1 hq).2
   have hpg2:G=pre.map (·.1.2) ++ (((qs.map (·.2)).filter fun o=>holdsE x (r ++ o)).map (fun o=>r ++ o) ++ ((if ou && !((qs.map (·.2)).any fun o=>holdsE x (r ++ o)) then [r ++ List.replicate wb (true,0)] else []) ++ ((ps.map (·.2)).drop (n + 1)).flatMap fun r=>joinOne x ou wb r (qs.map (·.2)))):=by
    rw [hpg,hdr,List.flatMap_cons]
    conv=>lhs;arg 2;arg 1;unfold joinOne
    rw [List.append_assoc]
   obtain ⟨T,hT⟩:∃ T,((ps.map (·.2)).drop (n + 1)).flatMap (fun r=>joinOne x ou wb r (qs.map (·.2)))=T:=⟨_,rfl⟩
   rw [hT] at hpg2
   have HT:=Lib.hid hT
   have HP:=Lib.hid (And.intro hj2 (And.intro hb2 (And.intro hlay (And.intro hbl0 (And.intro htk0 (And.intro hpg2 (And.intro hqr hqL)))))))
   have HW2:=Lib.hid hW2
   clear hj hb hrow hbl hpg hq hqs hq1 hsl hj2 hb2 hlay hbl0 htk0 hpg2 hqr hdr hbf0 hT hr
   gi_wp2
   (try rw [HW2.out])
   clear hcp hW2 c2 c3 c4 c5 c6 c7 c8 c9 e3 e4 e5 e6 e7 e8 e9
   gi_loopw [8,31] (fun mv iv wq=>∃ (k:Nat) (pre:List (Rw (N:Int))) (bf:List Val),k ≤ qs.length ∧ iv=.int .i64 k ∧ mv=.bool (((qs.map (·.2)).take k).any fun o=>holdsE x (r ++ o)) ∧ J E pre wq ∧ Below w.heap.size w wq ∧ Row wq OB 85 (bf.flatMap valC) ∧ bf.length=N ∧ bf.take wa=r ∧ G=pre.map (·.1.2) ++ ((((qs.map (·.2)).drop k).filter fun o=>holdsE x (r ++ o)).map (fun o=>r ++ o) ++ ((if ou && !((qs.map (·.2)).any fun o=>holdsE x (r ++ o)) then [r ++ List.replicate wb (true,0)] else []) ++ T)))
    (fun _ iv _=>qs.length - (intOf iv).toNat)
   case atStart=>exact ⟨0,pre,bf0,Nat.zero_le _,rfl,rfl,HP.out.1,HP.out.2.1,HP.out.2.2.1,HP.out.2.2.2.1,HP.out.2.2.2.2.1,HP.out.2.2.2.2.2.1⟩
   case round=>
    obtain ⟨k,pre,bf,hkN,rfl,rfl,hj,hb,hrow,hbl,htk,hpg⟩:=hrel
    obtain ⟨⟨c3,c4,c5⟩,c6,c7,c8,c9⟩:=HF.out wr hb
    by_cases hkl:k < qs.length
    ·obtain ⟨q',hq'⟩:∃ q,qs[k]? = some q:=⟨_,List.getElem?_eq_getElem hkl⟩
     have hqs':=HS.out.2 q' (List.mem_of_getElem? hq')
     obtain ⟨bt',off',sb',so',L',sc',hAA',hB',hq1',hqL',c2',hsl'⟩:=HCb.out k q' hq' wr hb
     obtain rfl:wb=L':=by have:=hqs'.1.2;omega
     subst hAA'
     have hkI:(k:Int) < (qs.length:Int):=by omega
     obtain ⟨oo,hoo⟩:∃ r,q'.2=r:=⟨_,rfl⟩
     rw [hoo] at hqL' hsl'
     have hqr':=hqs'.1
     rw [hoo] at hqr'
     have hcp:=run_copy_buf (nd:=wb) (dCap:=wb) (sCap:=sc') (off:=wa) hrow hsl' hqL' (Nat.le_refl _) (by have:=HNN.out;omega)
     have hlay:=bufRow_lay (cs:=oo) hrow wa
     obtain ⟨W3,hW3⟩:∃ y,wr.setRow OB ((bf.flatMap valC).take (wa * 2) ++ oo.flatMap valC ++ (bf.flatMap valC).drop (wa * 2 + (oo.flatMap valC).length)).toArray=y:=⟨_,rfl⟩
     rw [hW3] at hcp hlay
     have hsl:(Instr.slice 100 (.slice (some ⟨OB,0,none⟩) N N) (some (.int .i64 (wa:Int))) none none).run Tryz.prog wr=.ok (.slice (some ⟨OB,wa * 2,none⟩) wb wb) wr:=run_slice_tail OB N wa wb HNN.out h1b
     have hE3:Only E wr W3:=by rw [← hW3];exact (only_setRow wr OB _).mono fun k _ hk=>(HEI.out k).2 hk
     have hb3:Below w.heap.size w W3:=by rw [← hW3];exact below_setRow hb HOw.out _
     obtain ⟨⟨e3,e4,e5⟩,e6,e7,e8,e9⟩:=HF.out W3 hb3
     have hbe:bf.take wa ++ oo ++ bf.drop (wa + oo.length)=r ++ oo:=by
      rw [htk,List.drop_of_length_le (by have:=HNN.out;omega),List.append_nil]
     rw [hbe] at hlay
     obtain ⟨ro,hro⟩:∃ l,r ++ oo=l:=⟨_,rfl⟩
     rw [hro] at hlay
     have hrol:ro.length=N:=by rw [← hro,List.length_append,HP.out.2.2.2.2.2.2.2,hqL'];exact HNN.out
     have hrok:RowOk (N:Int) ro:=by
      have:=rowOk_append HP.out.2.2.2.2.2.2.1 hqr' (by have:=HNN.out;omega)
      rw [hro] at this
      have e:(wa:Int) + (wb:Int)=(N:Int):=by have:=HNN.out;omega
      rwa [e] at this
     have hj3:J E pre W3:=JB.out pre wr W3 hj hE3 hlay.lt
     obtain ⟨⟨vn,vm⟩,hv⟩:∃ v,exVal ro x=v:=⟨_,rfl⟩
     have HVK:=Lib.hid (show Calls Tryz.prog 108 #[.pointer (some ⟨eb,eo,none⟩),.slice (some ⟨OB,0,none⟩) N N] W3 (fun e w'=>e=.returned (.agg #[.bool vn,.int .i64 vm]) ∧ Below W3.heap.size W3 w') from by
      have:=HPP.out W3 hb3 ro (some ⟨OB,0,none⟩) N hrok (bufRow_sl hlay)
      rw [hv,hrol] at this
      exact this)
     have HTK:=Lib.hid (fun (z:World)=>show Calls Tryz.prog 107 #[.agg #[.bool vn,.int .i64 vm]] z (fun e w'=>e=.returned (.int .i64 (trI (vn,vm))) ∧ Below z.heap.size z w') from truthOf_ok (vn,vm) z)
     obtain ⟨ta',hta⟩:∃ t,trI ((vn,vm):Val)=t:=⟨_,rfl⟩
     rw [hta] at HTK
     have hhold:holdsE x ro=(ta' == 2):=by unfold holdsE;rw [hv,hta]
     have hqk:(qs.map (·.2))[k]? = some oo:=by rw [List.getElem?_map,hq',← hoo];rfl
     have hdk:(qs.map (·.2)).drop k=oo :: (qs.map (·.2)).drop (k + 1):=drop_cons hqk
     have htk1:(qs.map (·.2)).take (k + 1)=(qs.map (·.2)).take k ++ [oo]:=by rw [List.take_add_one,hqk];rfl
     rw [hdk,List.filter_cons] at hpg
     have HANY:=Lib.hid (show ((qs.map (·.2)).take (k + 1)).any (fun o=>holdsE x (r ++ o))=(((qs.map (·.2)).take k).any (fun o=>holdsE x (r ++ o)) || holdsE x (r ++ oo)) by rw [htk1,List.any_append];simp)
     have HPG:=Lib.hid hpg
     have HI:=Lib.hid (And.intro hj3 (And.intro hb3 (And.intro hlay (And.intro hrol (And.intro hrok (And.intro hhold hro))))))
     have HTKR:=Lib.hid (show ro.take wa=r by rw [← hro,List.take_left' HP.out.2.2.2.2.2.2.2])
     have HW3:=Lib.hid hW3
     generalize hmv:((qs.map (·.2)).take k).any (fun o=>holdsE x (r ++ o))=mv at HANY ⊢
     clear hmv hj hb hrow hbl htk hpg hq' hqs' hq1' hqL' hsl' hoo hqr' hlay hE3 hb3 hbe hro hrol hrok hj3 hv hta hhold hqk hdk htk1 hW3
     gi_wp2_with fail
     refine ⟨trivial,?_⟩
     refine (callsIn_wide.2 HVK.out).mono ?_
     rintro e w1 ⟨rfl,hb1⟩
     have H1:=Lib.hid hb1
     clear hb1
     gi_wp2_with fail
     refine ⟨trivial,?_⟩
     refine (callsIn_wide.2 (HTK.out _)).mono ?_
     rintro e w2 ⟨rfl,hb2⟩
     have hb12:=bch H1.out hb2
     have hj2:J E pre w2:=JB.out pre W3 w2 HI.out.1 (only_below hb12) (Nat.lt_of_lt_of_le HI.out.2.2.1.lt hb12.size)
     have hrow2:=HI.out.2.2.1.on hb12
     have hbw2:=bch HI.out.2.1 hb12
     have H2:=Lib.hid (And.intro hj2 (And.intro hrow2 hbw2))
     clear hb2 hb12 hj2 hrow2 hbw2 e3 e4 e5 e6 e7 e8 e9 c3 c4 c5 c6 c7 c8 c9 c2'
     by_cases h2:ta'=2
     ·subst h2
      have HT:=Lib.hid (show holdsE x (r ++ oo)=true by rw [HI.out.2.2.2.2.2.2,HI.out.2.2.2.2.2.1];rfl)
      have hg:=HPG.out
      rw [if_pos HT.out,List.map_cons,HI.out.2.2.2.2.2.2] at hg
      have hrok:=HI.out.2.2.2.2.1
      have hsr:SRs (N:Int) w2 (⟨some ⟨OB,0,none⟩,N,N⟩,ro):=⟨hrok,HI.out.2.2.2.1.symm,by rw [HI.out.2.2.2.1];exact Nat.le_refl _,by unfold maxLen;show N ≤ _;omega,bufRow_sl H2.out.2.1⟩
      have hyl:=HY.out E pre ⟨(⟨some ⟨OB,0,none⟩,N,N⟩,ro),hrok⟩ w2 H2.out.1 hsr (by have:=congrArg List.length hg;rw [List.length_append,List.length_map] at this;simp at this;omega)
      change YieldAt _ _ _ l #[.slice (some ⟨OB,0,none⟩) N N] w2 _ at hyl
      obtain ⟨fn,tmps,assign,body,hy,hRy⟩:=hyl
      have HG2:=Lib.hid (show G=(pre ++ [(⟨(⟨some ⟨OB,0,none⟩,N,N⟩,ro),hrok⟩:Rw (N:Int))]).map (·.1.2) ++ ((((qs.map (·.2)).drop (k + 1)).filter fun o=>holdsE x (r ++ o)).map (fun o=>r ++ o) ++ ((if ou && !((qs.map (·.2)).any fun o=>holdsE x (r ++ o)) then [r ++ List.replicate wb (true,0)] else []) ++ T)) by rw [List.map_append];rw [hg];simp)
      clear hg hsr
      gi_wp2
      refine hRy.mono ?_
      clear hy hRy
      rintro e x6 (⟨rfl,hJ6,hk6⟩ | ⟨rfl,hJx6⟩)
      ·have H6:=Lib.hid (And.intro hJ6 hk6)
       clear hJ6 hk6
       gi_wp2
       go_roundw
       case rel=>
        refine ⟨k + 1,_,ro,by omega,by first | go_num | simp,by rw [HANY.out,HT.out];simp,H6.out.1,keepBelowG H2.out.2.2 H6.out.2,?_,HI.out.2.2.2.1,HTKR.out,HG2.out⟩
        exact H2.out.2.1.keep (H6.out.2.block OB H2.out.2.1.lt fun h=>h.2 ((HEI.out OB).2 rfl))
       case measure=>simp [intOf];omega
      ·have H6:=Lib.hid hJx6
       clear hJx6
       gi_wp2
       refine bodyPost_ret (results_none rfl _ _ _) rfl ⟨⟨_,rfl⟩,.inr ⟨_,E,?_,H6.out⟩⟩
       rw [HG2.out]
       exact List.prefix_append _ _
     ·have h2':(ta' != 2)=true:=by simpa using h2
      have h2'':(ta' == 2)=false:=by simpa using h2
      have HT:=Lib.hid (show holdsE x (r ++ oo)=false by rw [HI.out.2.2.2.2.2.2,HI.out.2.2.2.2.2.1,h2''])
      clear h2
      gi_wp2
      go_roundw
      case rel=>
       refine ⟨k + 1,pre,ro,by omega,by first | go_num | simp,by rw [HANY.out,HT.out];simp,H2.out.1,H2.out.2.2,H2.out.2.1,HI.out.2.2.2.1,HTKR.out,?_⟩
       have hg:=HPG.out
       rwa [if_neg (by rw [HT.out];simp)] at hg
      case measure=>simp [intOf];omega
    ·obtain rfl:k=qs.length:=by omega
     have htl:(qs.map (·.2)).take qs.length=qs.map (·.2):=List.take_of_length_le (by rw [List.length_map];exact Nat.le_refl _)
     rw [htl]
     rw [List.drop_of_length_le (by rw [List.length_map];exact Nat.le_refl _),List.filter_nil,List.map_nil,List.nil_append] at hpg
     obtain ⟨an,han⟩:∃ t,(qs.map (·.2)).any (fun o=>holdsE x (r ++ o))=t:=⟨_,rfl⟩
     rw [han] at hpg ⊢
     have HPG:=Lib.hid hpg
     have HI:=Lib.hid (And.intro hj (And.intro hb (And.intro hrow (And.intro hbl htk))))
     clear hpg hj hb hrow hbl htk han htl
     by_cases hc:an=true ∨ kd=4
     ·have hg:=HPG.out
      have hz:(ou && !an)=false:=by
       rcases hc with rfl | h4
       ·simp
       ·have:=HKD.out.2;rw [h4] at this;rw [← this];rfl
      rw [hz,if_neg (by simp),List.nil_append] at hg
      have HGG:=Lib.hid hg
      have hc':an=true ∨ (an=false ∧ kd=4):=by
       cases an
       ·exact .inr ⟨rfl,hc.resolve_left (by simp)⟩
       ·exact .inl rfl
      clear hg hz hc
      rcases hc' with rfl | ⟨rfl,rfl⟩
      ·gi_wp2
       go_roundw
       case rel=>exact ⟨n + 1,pre,bf,by omega,by first | go_num | simp,HI.out.1,HI.out.2.1,HI.out.2.2.1,HI.out.2.2.2.1,by rw [HT.out];exact HGG.out⟩
       case measure=>simp [intOf];omega
      ·gi_wp2
       go_roundw
       case rel=>exact ⟨n + 1,pre,bf,by omega,by first | go_num | simp,HI.out.1,HI.out.2.1,HI.out.2.2.1,HI.out.2.2.2.1,by rw [HT.out];exact HGG.out⟩
       case measure=>simp [intOf];omega
     ·have han:an=false:=by cases an;rfl;exact absurd (Or.inl rfl) hc
      subst han
      have hk4:(kd == 4)=false:=by simp;exact fun h=>hc (.inr h)
      have hk5:kd=5:=by have:=HKD.out.1;have h4:¬ kd=4:=fun h=>hc (.inr h);omega
      have hou:ou=true:=by have:=HKD.out.2;rw [hk5] at this;rw [← this];rfl
      have hg:=HPG.out
      rw [hou] at hg
      simp only [Bool.not_false,Bool.and_self,if_true] at hg
      have HGG:=Lib.hid hg
      clear hg hc hk5 hou
      have HNUL:=Lib.hid (fun z=>implNull_ok z)
      gi_wp2
      gi_loopw [11] (fun iv wq=>∃ (i:Nat) (bf:List Val),wa ≤ i ∧ i ≤ N ∧ iv=.int .i64 i ∧ J E pre wq ∧ Below w.heap.size w wq ∧ Row wq OB 85 (bf.flatMap valC) ∧ bf.length=N ∧ bf.take i=r ++ List.replicate (i - wa) (true,0))
       (fun iv _=>N - (intOf iv).toNat)
      case atStart=>exact ⟨wa,bf,Nat.le_refl _,by have:=HNN.out;omega,rfl,HI.out.1,HI.out.2.1,HI.out.2.2.1,HI.out.2.2.2.1,by rw [HI.out.2.2.2.2,Nat.sub_self];simp⟩
      case round=>
       obtain ⟨i,bf,hwi,hiN,rfl,hj,hb,hrow,hbl,htk⟩:=hrel
       by_cases hil:i < N
       ·have hiI:(i:Int) < (N:Int):=by omega
        have HR:=Lib.hid (And.intro hj (And.intro hb (And.intro hrow (And.intro hbl htk))))
        clear hj hb hrow hbl htk
        gi_wp2_with fail
        refine ⟨trivial,?_⟩
        refine (callsIn_wide.2 (HNUL.out _)).mono ?_
        rintro e w1 ⟨rfl,hb1⟩
        have hro1:=HR.out.2.2.1.on hb1
        obtain ⟨q0,q1,q2,u,v,q3,q4⟩:=bufRow_cells hro1 (i:=i) (by have:=HR.out.2.2.2.1;omega)
        have H1:=Lib.hid (And.intro hb1 hro1)
        clear hb1 hro1
        gi_wp2
        go_roundw
        case rel=>
         have hil':i < bf.length:=by have:=HR.out.2.2.2.1;omega
         have hbo:=onlyB2 w1 OB (i * 2) (.bool true) (.int .i64 0)
         have hbw:Below w.heap.size w w1:=bch HR.out.2.1 H1.out.1
         refine ⟨i + 1,bf.set i (true,0),by omega,by omega,by first | go_num | simp,?_,?_,bufRow_set H1.out.2 hil' (true,0),by rw [List.length_set];exact HR.out.2.2.2.1,?_⟩
         ·refine JB.out pre w1 _ (JB.out pre wr w1 HR.out.1 (only_below H1.out.1) H1.out.2.lt) (hbo.mono fun k _ hk=>(HEI.out k).2 hk) ?_
          have:=(bufRow_set H1.out.2 hil' (true,0)).lt
          exact this
         ·exact (hbw.setCell (p:=⟨OB,i * 2,none⟩) HOw.out _).setCell (p:=⟨OB,i * 2 + 1,none⟩) HOw.out _
         ·rw [take_set_next hil' HR.out.2.2.2.2,show i + 1 - wa=(i - wa) + 1 by omega,List.replicate_succ',List.append_assoc]
        case measure=>simp [intOf];omega
       ·obtain rfl:i=N:=by omega
        have hbe:bf=r ++ List.replicate wb (true,0):=by
         have h1:=htk
         rwa [List.take_of_length_le (by omega),show i - wa=wb by have:=HNN.out;omega] at h1
        have hrok:RowOk (i:Int) bf:=by
         rw [hbe]
         have:=rowOk_append HP.out.2.2.2.2.2.2.1 (nulls_ok (W:=(wb:Int)) (n:=wb) rfl (by have:=HNN.out;omega)) (by have:=HNN.out;omega)
         have e:(wa:Int) + (wb:Int)=(i:Int):=by have:=HNN.out;omega
         rwa [e] at this
        have hg:=HGG.out
        rw [← hbe] at hg
        have hsr:SRs (i:Int) wr (⟨some ⟨OB,0,none⟩,i,i⟩,bf):=⟨hrok,hbl.symm,by rw [hbl];exact Nat.le_refl _,by unfold maxLen;show i ≤ _;omega,bufRow_sl hrow⟩
        have hyl:=HY.out E pre ⟨(⟨some ⟨OB,0,none⟩,i,i⟩,bf),hrok⟩ wr hj hsr (by have:=congrArg List.length hg;rw [List.length_append,List.length_map] at this;simp at this;omega)
        change YieldAt _ _ _ l #[.slice (some ⟨OB,0,none⟩) i i] wr _ at hyl
        obtain ⟨fn,tmps,assign,body,hy,hRy⟩:=hyl
        have HG2:=Lib.hid (show G=(pre ++ [(⟨(⟨some ⟨OB,0,none⟩,i,i⟩,bf),hrok⟩:Rw (i:Int))]).map (·.1.2) ++ T by rw [List.map_append];rw [hg];simp)
        have HR:=Lib.hid (And.intro hj (And.intro hb (And.intro hrow hbl)))
        clear hg hsr hj hb hrow hbl htk hbe
        gi_wp2
        refine hRy.mono ?_
        clear hy hRy
        rintro e x6 (⟨rfl,hJ6,hk6⟩ | ⟨rfl,hJx6⟩)
        ·have H6:=Lib.hid (And.intro hJ6 hk6)
         clear hJ6 hk6
         gi_wp2
         go_roundw
         case rel=>
          refine ⟨n + 1,_,bf,by omega,by first | go_num | simp,H6.out.1,keepBelowG HR.out.2.1 H6.out.2,?_,HR.out.2.2.2,by rw [HT.out];exact HG2.out⟩
          exact HR.out.2.2.1.keep (H6.out.2.block OB HR.out.2.2.1.lt fun h=>h.2 ((HEI.out OB).2 rfl))
         case measure=>simp [intOf];omega
        ·have H6:=Lib.hid hJx6
         clear hJx6
         gi_wp2
         refine bodyPost_ret (results_none rfl _ _ _) rfl ⟨⟨_,rfl⟩,.inr ⟨_,E,?_,H6.out⟩⟩
         rw [HG2.out]
         exact List.prefix_append _ _
  ·obtain rfl:n=ps.length:=by omega
   have HPG:=Lib.hid hpg
   clear hpg
   gi_wp2
   go_end0
   have hfin:pre.map (·.1.2)=G:=by rw [HPG.out,List.drop_of_length_le (by rw [List.length_map];exact Nat.le_refl _)];simp
   first
    | exact ⟨⟨_,rfl⟩,.inl ⟨pre,E,hfin,hj⟩⟩
    | exact ⟨⟨_,rfl⟩,.inl ⟨pre,hfin,E,hj⟩⟩
theorem entersJoined1:EntersF 110:=enters_of Tryz.func110 (by kernel_rfl) rfl
set_option maxHeartbeats 1000000 in
theorem joined1_ok (b o:Nat) (W W':Int) (A A':Option Addr) (n c n' c':Nat) (w:World) :
 Calls Tryz.prog 86 #[.pointer (some ⟨b,o,none⟩),.agg #[.int .i64 W,.slice A n c],.agg #[.int .i64 W',.slice A' n' c']] w fun e w'=>e=.returned (.func (.func 110) #[] #[.pointer (some ⟨w.heap.size + 1,0,none⟩),.pointer (some ⟨w.heap.size + 2,0,none⟩),.pointer (some ⟨w.heap.size,0,none⟩)]) ∧ Below w.heap.size w w' ∧ Row w' w.heap.size 66 [.pointer (some ⟨b,o,none⟩)] ∧ Row w' (w.heap.size + 1) 32 [.int .i64 W,.slice A n c] ∧ Row w' (w.heap.size + 2) 32 [.int .i64 W',.slice A' n' c']:=by
 go_enter Tryz.func86,Tryz.ntmps86
 go_wp2
 go_ret
 exact ⟨rfl,balloc (balloc (balloc (Below.refl _ _) _) _) _,((Row.new _ _ _).alloc _).alloc _,(Row.second _ _ _ _).alloc _,Row.third _ _ _ _ _⟩
end Go.Proofs.YtcbfbgngkdiijaaGreat

namespace Go.Proofs.YtcbfbgngkdiijaaGreat
open Go.RowKit Go.Qo
set_option linter.unusedVariables false
set_option linter.unusedSimpArgs false
attribute [local go_sem] Oper.semAt_some

set_option maxRecDepth 100000 in
set_option maxHeartbeats 8000000 in
theorem groupedIt_ok (W:Int) (A:Option Addr) (c:Nat) (rows:List Row1) (pt pb b_ o:Nat) (f:FP) (p:Pl) (cols:List Int) (A':Option Addr) (c':Nat) (w:World) (hcols:p.cols=cols) (hA':f.cs.A=A') (hcc:f.cs.c=c') (hT:TabOk W rows) (hl:cols.length < 6) (hc:∀ x ∈ cols,0 ≤ x ∧ x < W)
 (h:Rws w w.heap.size A rows) (rt:Row w pt 32 [.int .i64 W,.slice A rows.length c]) (rp:Row w pb 66 [.pointer (some ⟨b_,o,none⟩)]) (hP:PcAt w b_ o f p) :
 SeqR Fence.wide 5 Tryz.prog 114 #[.pointer (some ⟨pt,0,none⟩),.pointer (some ⟨pb,0,none⟩)] (fun x:Rw ((cols.length:Int) + 1)=>encSR x.1) (fun x z=>SRs ((cols.length:Int) + 1) z x.1) w.heap.size
  (fun ys'=>ys'.map (·.1.2)=srtRows cols 0 1 rows) (fun pre=>pre.map (·.1.2) <+: srtRows cols 0 1 rows) (srtRows cols 0 1 rows).length w:=by
 intro l J Jx z hz hJ hJx hY h0
 have h':Sl 1 intC w w.heap.size A' cols:=by
  obtain ⟨_,_,_,_,_,_,a7⟩:=hP.in_.flat
  rw [hA',hcols] at a7
  exact a7
 have hr4:=hT.2.2.1
 have hW6:=hT.2.1
 have hW1:=hT.1
 have HTR:=Lib.hid (show ∀ r ∈ rows,RowOk W r from fun r hr=>by
  obtain ⟨i,hi,rfl⟩:=List.getElem_of_mem hr
  exact hT.row (List.getElem?_eq_getElem hi))
 have HGO:=Lib.hid (fun (z:World) (hz:Below w.heap.size w z)=>groupsOf_ok W A A' c c' rows cols w z hz hT hl hc h h')
 obtain ⟨GS,hGS⟩:∃ G,adjN cols (gSort (keyCmp cols) rows) rows.length=G:=⟨_,rfl⟩
 have HGE:=Lib.hid (show (∀ b ∈ GS,b ≠ [] ∧ ∀ r ∈ b,r ∈ rows) ∧ ∀ b ∈ GS,b.length ≤ 400 from by
  rw [← hGS]
  refine ⟨adj_ne fun r hr=>keyS_of (HTR.out r hr) hc,fun b hb=>?_⟩
  have:=adjN_small cols (gSort (keyCmp cols) rows) rows.length b hb
  omega)
 obtain ⟨G,hG⟩:∃ G,srtRows cols 0 1 rows=G:=⟨_,rfl⟩
 have HG:=Lib.hid (show G=GS.map (grF cols 0 1) by rw [← hG,← hGS];rfl)
 rw [hG] at hY ⊢
 have HGS:=Lib.hid hGS
 have HIN:=Lib.hid (And.intro h h')
 have HC:=Lib.hid hc
 have HRR:=Lib.hid (And.intro rt (And.intro rp hP))
 have HZ:=Lib.hid hz
 have HJ:=Lib.hid hJ
 have HY:=Lib.hid hY
 have H0:=Lib.hid h0
 have HPC:=Lib.hid (fun (X:World) (hX:Below w.heap.size w X)=>show X.cell? ⟨b_,o + 3,none⟩=some (.slice A' cols.length c') from by
  obtain ⟨_,_,_,c3,_⟩:=(hP.on hX).cells
  rw [hA',hcols,hcc] at c3
  exact c3)
 have a0:z.cell? ⟨pt,0,none⟩=some (.int .i64 W):=(rt.on hz).cell 0
 have a1:z.cell? ⟨pt,1,none⟩=some (.slice A rows.length c):=(rt.on hz).cell 1
 have a2:z.cell? ⟨pb,0,none⟩=some (.pointer (some ⟨b_,o,none⟩)):=(rp.on hz).cell 0
 have a3:z.cell? ⟨b_,o + 3,none⟩=some (.slice A' cols.length c'):=by
  obtain ⟨_,_,_,c3,_⟩:=(hP.on hz).cells
  rw [hA',hcols,hcc] at c3
  exact c3
 clear hT hGS hG h h' hc rt rp hP hz hJ hJx hY h0 hA' hcc
 show CallsIn _ _ _ _ #[.func (.yield l) #[] #[],.pointer (some ⟨pt,0,none⟩),.pointer (some ⟨pb,0,none⟩)] _ _
 refine callsIn_of_wp Tryz.func114 rfl trivial ?_ rfl
 simp only [Tryz.ntmps114,List.size_toArray,List.length_cons,List.length_nil,Nat.reduceAdd,Nat.reduceSub,Array.replicate_succ,Array.replicate_zero,List.push_toArray,List.append_toArray,List.nil_append,List.cons_append]
 have HCZ:=Lib.hid (fun (X:World) (hX:Below z.heap.size z X)=>show X.cell? ⟨pt,0,none⟩=some (.int .i64 W) ∧ X.cell? ⟨pt,1,none⟩=some (.slice A rows.length c) ∧ X.cell? ⟨pb,0,none⟩=some (.pointer (some ⟨b_,o,none⟩)) ∧ X.cell? ⟨b_,o + 3,none⟩=some (.slice A' cols.length c') from ⟨(HRR.out.1.on (bch HZ.out hX)).cell 0,(HRR.out.1.on (bch HZ.out hX)).cell 1,(HRR.out.2.1.on (bch HZ.out hX)).cell 0,HPC.out _ (bch HZ.out hX)⟩)
 clear a0 a1 a2 a3
 gi_wp2
 rename_i K hK0
 have REST:∀ (z2 w5:World) (A13:Option Addr) (c13:Nat) (vs:List SV),Below z.heap.size z w5 → Below w5.heap.size w5 z2 → Ow w5.heap.size 30 1 svC z2 (.slice A13 vs.length c13) vs → Bks2 w5.heap.size w z2 vs (adjN cols (gSort (keyCmp cols) rows) rows.length) → K { tmps:=#[.func (.yield l) #[] #[],.pointer (some ⟨pt,0,none⟩),.pointer (some ⟨pb,0,none⟩),undef,undef,undef,.agg #[.int .i64 W,.slice A rows.length c],.pointer (some ⟨b_,o,none⟩),.pointer (some ⟨b_,o,none⟩),.pointer (some ⟨b_,o + 3,none⟩),.slice A' cols.length c',.slice A13 vs.length c13,.int .i64 vs.length,.int .i64 0,undef,undef,undef,undef,undef,undef,undef,undef,undef,undef,undef,undef,undef,undef,undef,undef,undef,undef,undef,undef],defers:=[] } z2:=by
  intro z2 w5 A13 c13 vs hb5 hb2 how hbk
  have HB2:=Lib.hid (And.intro hb5 (And.intro hb2 (And.intro how hbk)))
  clear hb5 hb2 how hbk HGO
  have hb12:Below z.heap.size z z2:=bch HB2.out.1 HB2.out.2.1
  have hz5:=HB2.out.1.size
  obtain ⟨E,hE⟩:∃ E:Nat → Prop,(fun i=>z.heap.size ≤ i ∧ i < z2.heap.size)=E:=⟨_,rfl⟩
  have hEi:∀ i,E i ↔ z.heap.size ≤ i ∧ i < z2.heap.size:=fun i=>by rw [← hE]
  have J2:J E [] z2:=HJ.out _ E [] z z2 H0.out (only_below hb12) (hE ▸ enterG z z2)
  have BZ2:=Lib.hid (show Below w.heap.size w z2 from bch HZ.out hb12)
  have HE:=Lib.hid hEi
  have JB:=Lib.hid (fun (pre:List (Rw ((cols.length:Int) + 1))) (X Y:World) (hj:J E pre X) (hxy:Below X.heap.size X Y) (h2:z2.heap.size ≤ Y.heap.size)=>HJ.out E E pre X Y hj (only_below hxy) (stayG fun i hi=>by have:=((HE.out i).1 hi).2;omega))
  obtain ⟨N,hN⟩:∃ n,vs.length=n:=⟨_,rfl⟩
  have hNG:GS.length=N:=by rw [← hN,HB2.out.2.2.2.len,HGS.out]
  have hN4:N ≤ 400:=by rw [← hNG,← HGS.out];have:=adjN_small2 cols (gSort (keyCmp cols) rows) rows.length;omega
  have HV:=Lib.hid (fun (n:Nat) (hn:n < N)=>show ∃ (gg gi:Nat) (c1:Nat) (sl:List SV) (b:List Row1),A13=some ⟨gg,0,none⟩ ∧ (E gg ∧ gg < z2.heap.size) ∧ (E gi ∧ gi < z2.heap.size) ∧ z2.cell? ⟨gg,n,none⟩=some (.slice (some ⟨gi,0,none⟩) b.length c1) ∧ GS[n]? = some b ∧ (∀ (q:Nat) (hq:q < b.length),∃ s:SV,z2.cell? ⟨gi,q,none⟩=some (.slice s.A (b[q]).length s.c) ∧ SVIs 2 valC w w.heap.size s b[q]) from by
   have hnv:n < vs.length:=by omega
   have hng:n < GS.length:=by omega
   obtain ⟨gg,hAg,_,hg1,hg2,_,_,hcs⟩:=HB2.out.2.2.1.head svC_length (by omega)
   have hvn:=List.getElem?_eq_getElem hnv
   have hgn:=List.getElem?_eq_getElem hng
   have hbkG:Bks2 w5.heap.size w z2 vs GS:=by have:=HB2.out.2.2.2;rwa [HGS.out] at this
   obtain ⟨sl,hs1,hs2,hs3,hs4⟩:=hbkG.own n vs[n] GS[n] hvn hgn
   have hb:=HGE.out.1 GS[n] (List.getElem_mem hng)
   have hbl:0 < (GS[n]).length:=List.length_pos_iff.2 hb.1
   unfold svV at hs2
   rw [hs1] at hs2
   obtain ⟨gi,hAi,_,hi1,hi2,_,_,hci⟩:=hs2.head svC_length (by omega)
   refine ⟨gg,gi,vs[n].c,sl,GS[n],hAg,⟨(HE.out gg).2 ⟨by omega,hg2⟩,hg2⟩,⟨(HE.out gi).2 ⟨by omega,hi2⟩,hi2⟩,?_,hgn,fun q hq=>?_⟩
   ·have:=hcs n (.slice vs[n].A vs[n].n vs[n].c) (by
     have:=flat_get 1 svC svC_length vs n vs[n] 0 (.slice vs[n].A vs[n].n vs[n].c) hvn rfl
     simpa using this)
    rw [this,hs1,hs3,hAi]
   ·have hqs:q < sl.length:=by omega
    have hsq:=List.getElem?_eq_getElem hqs
    have hr:=hs4 q sl[q] GS[n][q] hsq (List.getElem?_eq_getElem hq)
    refine ⟨sl[q],?_,hr⟩
    have:=hci q (.slice sl[q].A sl[q].n sl[q].c) (by
     have:=flat_get 1 svC svC_length sl q sl[q] 0 (.slice sl[q].A sl[q].n sl[q].c) hsq rfl
     simpa using this)
    rw [this,hr.1])
  rw [hN]
  have HJ2:=Lib.hid J2
  have HNG:=Lib.hid hNG
  clear hE hEi J2 hb12 hN hNG
  gi_wp2
  gi_loopw [13] (fun iv wr=>∃ (n:Nat) (pre:List (Rw ((cols.length:Int) + 1))),n ≤ N ∧ iv=.int .i64 n ∧ J E pre wr ∧ KeepE w.heap.size E z2 wr ∧ G=pre.map (·.1.2) ++ (GS.drop n).map (grF cols 0 1))
   (fun iv _=>N - (intOf iv).toNat)
  case atStart=>exact ⟨0,[],Nat.zero_le _,rfl,HJ2.out,Only.refl _,HG.out⟩
  case round=>
   obtain ⟨n,pre,hnN,rfl,hj,hk,hg⟩:=hrel
   have HQ:=Lib.hid (And.intro hj (And.intro hk hg))
   have hbw:=keepBelowG BZ2.out hk
   have hsz:=hk.size
   clear hj hg
   by_cases hlt:n < N
   ·have hltI:(n:Int) < (N:Int):=by omega
    obtain ⟨wo,hwo⟩:∃ z,z=wr:=⟨_,rfl⟩
    subst hwo
    obtain ⟨gg,gi,c1,sl,b,hA13,⟨hEg,hg2⟩,⟨hEi,hi2⟩,cg,hgb,hrow⟩:=HV.out n hlt
    subst hA13
    have hbm:=List.mem_of_getElem? hgb
    have hbne:=(HGE.out.1 b hbm).1
    have hbl:0 < b.length:=List.length_pos_iff.2 hbne
    have hbl4:b.length ≤ 400:=HGE.out.2 b hbm
    have hbro:∀ r ∈ b,RowOk W r:=fun r hr=>HTR.out r ((HGE.out.1 b hbm).2 r hr)
    have cgr:wo.cell? ⟨gg,n,none⟩=some (.slice (some ⟨gi,0,none⟩) b.length c1):=(keepCellG hk hg2 hEg).trans cg
    have hggw:gg < wo.heap.size:=by omega
    have hgiw:gi < wo.heap.size:=by omega
    have HRW:=Lib.hid (fun (X:World) (hX:Below wo.heap.size wo X) (q:Nat) (hq:q < b.length)=>show ∃ s:SV,X.cell? ⟨gi,q,none⟩=some (.slice s.A (b[q]).length s.c) ∧ Sl 2 valC X X.heap.size s.A b[q] from by
     obtain ⟨s,hs1,hs2⟩:=hrow q hq
     exact ⟨s,((hX.cell (p:=⟨gi,q,none⟩) hgiw).trans (keepCellG hk hi2 hEi)).trans hs1,hs2.2.2.2.on (bch hbw hX)⟩)
    have HBR:=Lib.hid (And.intro hbro (And.intro hgb hbne))
    have hro:=hbro _ (List.getElem_mem hbl)
    obtain ⟨⟨s0A,s0n,s0c⟩,cs0,hsl0⟩:=HRW.out _ (Below.refl _ _) 0 hbl
    have cs:wo.cell? ⟨gi,0,none⟩=some (.slice s0A (b[0]).length s0c):=cs0
    have hsl:Sl 2 valC wo wo.heap.size s0A b[0]:=hsl0
    have hhd:b.headD []=b[0]:=by cases b with | nil=>cases hbl | cons x xs=>rfl
    clear cs0 hsl0
    generalize b[0]=r0 at *
    have hr06:=(rowValid_len hro.1).2
    have HPK:=Lib.hid (fun (X:World) (hX:Below wo.heap.size wo X)=>picked_ok s0A A' s0c c' r0 cols X hr06 (by omega) (fun x hx=>by have:=HC.out x hx;have:=hro.2;omega) (hsl.on hX) (HIN.out.2.on (bch hbw hX)))
    obtain ⟨L0,hL0⟩:∃ n,r0.length=n:=⟨_,rfl⟩
    rw [hL0] at HPK cs
    obtain ⟨av,hav⟩:∃ v,(b.length:Int)=v:=⟨_,rfl⟩
    have hva:aggF 1 (valG 0 b)=(false,av):=by
     unfold aggF valG
     rw [if_pos rfl,List.length_map,hav]
     exact numV_in (by omega) (by omega)
    have HNM:=Lib.hid (fun (X:World)=>show Calls Tryz.prog 117 #[.int .i64 (b.length:Int)] X (fun e w'=>e=.returned (.agg #[.bool false,.int .i64 av]) ∧ Below X.heap.size X w') from by
     have:=implNumber_ok (b.length:Int) X
     rw [← hav]
     exact this)
    obtain ⟨R,hR0⟩:∃ R,pickR cols r0 ++ [((false,av):Val)]=R:=⟨_,rfl⟩
    have hRF:grF cols 0 1 b=R:=by unfold grF;rw [hhd,hva,hR0]
    obtain ⟨nL,hnL⟩:∃ n,cols.length + 1=n:=⟨_,rfl⟩
    have hRl:R.length=nL:=by rw [← hR0,List.length_append,pickR_length];exact hnL
    have hRok:RowOk ((cols.length:Int) + 1) R:=by rw [← hRF];exact grF_ok hbne hbro HC.out ⟨by omega,by omega⟩ hl
    have hdr:GS.drop n=b :: GS.drop (n + 1):=by
     have hn:=(List.getElem?_eq_some_iff.1 hgb)
     rw [List.drop_eq_getElem_cons hn.1,hn.2]
    have hGR:G=pre.map (·.1.2) ++ R :: (GS.drop (n + 1)).map (grF cols 0 1):=by rw [HQ.out.2.2,hdr,List.map_cons,hRF]
    have hpl:pre.length < G.length:=by
     have:=congrArg List.length hGR
     rw [List.length_append,List.length_map,List.length_cons] at this
     omega
    have HRX:=Lib.hid (And.intro hR0 (And.intro hRl (And.intro hRok (And.intro hGR hpl))))
    have HCX:=Lib.hid (fun (X:World) (hX:Below wo.heap.size wo X)=>show X.cell? ⟨gi,0,none⟩=some (.slice s0A L0 s0c) ∧ X.cell? ⟨pb,0,none⟩=some (.pointer (some ⟨b_,o,none⟩)) ∧ X.cell? ⟨b_,o + 3,none⟩=some (.slice A' cols.length c') from ⟨(hX.cell (p:=⟨gi,0,none⟩) (by show gi < wo.heap.size;omega)).trans cs,(HRR.out.2.1.on (bch hbw hX)).cell 0,HPC.out X (bch hbw hX)⟩)
    have hblI:(0:Int) < (b.length:Int):=by omega
    have HKO:=Lib.hid hk
    have HPL:=Lib.hid (pickR_length cols r0)
    clear hsl hro hhd hL0 hva hav hR0 hRF hnL hRl hRok hdr hGR hpl cs hgb hrow hbm hbne hbro hbw cg
    obtain ⟨wr,hwr⟩:∃ y,y=wo:=⟨_,rfl⟩
    subst hwr
    gi_wp2
    refine wpIn_region_any (by kernel_rfl) ?_
    obtain ⟨u0,hu0⟩:∃ y,{ wr with drawn:=wr.drawn + 1 }=y:=⟨_,rfl⟩
    have HUu0:=Lib.hid (show Below wr.heap.size wr u0 from hu0 ▸ (Below.refl _ _).drew)
    rw [hu0]
    clear hu0
    refine wpAnyIn_take (i:=0) (v:=?v1) rfl rfl (by kernel_rfl) (by kernel_rfl) (by kernel_rfl) (fun _ _ _ h=>h) ⟨Or.inl ⟨by rfl,?hy1⟩,fun _=>rfl⟩ ?_
    case hy1=>((intro w';go_simp) <;> with_reducible rfl)
    try simp only [Act.put,sTA,sC0,sCS]
    refine wpAnyIn_take (i:=1) (v:=?v2) rfl rfl (by kernel_rfl) (by kernel_rfl) (by kernel_rfl) (fun _ _ _ h=>h) ⟨Or.inl ⟨by rfl,?hy2⟩,fun _=>rfl⟩ ?_
    case hy2=>((intro w';go_simp) <;> with_reducible rfl)
    try simp only [Act.put,sTA,sC0,sCS]
    refine wpAnyIn_take (i:=2) (v:=?v3) rfl rfl (by kernel_rfl) (by kernel_rfl) (by kernel_rfl) (fun _ _ _ h=>h) ⟨Or.inl ⟨by rfl,?hy3⟩,fun _=>rfl⟩ ?_
    case hy3=>((intro w';go_simp) <;> with_reducible rfl)
    try simp only [Act.put,sTA,sC0,sCS]
    refine wpAnyIn_take (i:=9) (v:=?v4) rfl rfl (by kernel_rfl) (by kernel_rfl) (by kernel_rfl) (fun _ _ _ h=>h) ⟨Or.inl ⟨by rfl,?hy4⟩,fun _=>rfl⟩ ?_
    case hy4=>((intro w';go_simp) <;> with_reducible rfl)
    try simp only [Act.put,sTA,sC0,sCS]
    refine wpAnyIn_take (i:=10) (v:=?v5) rfl rfl (by kernel_rfl) (by kernel_rfl) (by kernel_rfl) (fun _ _ _ h=>h) ⟨Or.inl ⟨by rfl,?hy5⟩,fun _=>rfl⟩ ?_
    case hy5=>((intro w';go_simp) <;> with_reducible rfl)
    try simp only [Act.put,sTA,sC0,sCS]
    refine wpAnyIn_ready (rs:=[3,4]) (by kernel_rfl) (by simp) ?_
    refine AllReadyIn.cons rfl (fun K hK=>?_) (AllReadyIn.cons rfl (fun K hK=>?_) AllReadyIn.nil)
    ·skip
     obtain ⟨e0,e1,e2⟩:=HCX.out _ HUu0.out
     go_simp
     clear e0 e1 e2
     refine hK _ _ ?_
     clear hK K
     try simp only [Act.put,sTA,sC0,sCS]
     refine wpAnyIn_ready (rs:=[4]) (by kernel_rfl) (by simp) ?_
     refine AllReadyIn.cons rfl (fun K hK=>?_) AllReadyIn.nil
     obtain ⟨e0,e1,e2⟩:=HCX.out _ HUu0.out
     go_simp
     clear e0 e1 e2
     refine hK _ _ ?_
     clear hK K
     try simp only [Act.put,sTA,sC0,sCS]
     refine wpAnyIn_take (i:=5) (v:=?v6) rfl rfl (by kernel_rfl) (by kernel_rfl) (by kernel_rfl) (fun _ _ _ h=>h) ⟨Or.inl ⟨by rfl,?hy6⟩,fun _=>rfl⟩ ?_
     case hy6=>((intro w';go_simp) <;> with_reducible rfl)
     try simp only [Act.put,sTA,sC0,sCS]
     refine wpAnyIn_take (i:=6) (v:=?v7) rfl rfl (by kernel_rfl) (by kernel_rfl) (by kernel_rfl) (fun _ _ _ h=>h) ⟨Or.inl ⟨by rfl,?hy7⟩,fun _=>rfl⟩ ?_
     case hy7=>((intro w';go_simp) <;> with_reducible rfl)
     try simp only [Act.put,sTA,sC0,sCS]
     refine wpAnyIn_ready (rs:=[7]) (by kernel_rfl) (by simp) ?_
     refine AllReadyIn.cons rfl (fun K hK=>?_) AllReadyIn.nil
     obtain ⟨e0,e1,e2⟩:=HCX.out _ HUu0.out
     go_simp
     clear e0 e1 e2
     refine hK _ _ ?_
     clear hK K
     try simp only [Act.put,sTA,sC0,sCS]
     refine wpAnyIn_ready (rs:=[8]) (by kernel_rfl) (by simp) ?_
     refine AllReadyIn.cons rfl (fun K hK=>?_) AllReadyIn.nil
     go_simp
     refine ⟨trivial,?_⟩
     gi_at_call 116
     refine (callsIn_wide.2 (HPK.out _ HUu0.out)).mono ?_
     rintro e x1 ⟨v1,rfl,how1,hb1⟩
     obtain ⟨A1,k1,rfl,_,_,_⟩:=how1.shape valC_length
     rw [HPL.out] at how1 ⊢
     have HUx1:=Lib.hid (bch HUu0.out hb1)
     have HO1:=Lib.hid (how1.low HUu0.out.size)
     clear how1 hb1
     refine hK _ _ ?_
     clear hK K
     try simp only [Act.put,sTA,sC0,sCS]
     refine wpAnyIn_ready (rs:=[11]) (by kernel_rfl) (by simp) ?_
     refine AllReadyIn.cons rfl (fun K hK=>?_) AllReadyIn.nil
     go_simp
     refine ⟨trivial,?_⟩
     gi_at_call 117
     refine (callsIn_wide.2 (HNM.out _)).mono ?_
     rintro e x2 ⟨rfl,hb2⟩
     have HUx2:=Lib.hid (bch HUx1.out hb2)
     have HO2:=Lib.hid (HO1.out.on hb2)
     clear hb2
     refine hK _ _ ?_
     clear hK K
     try simp only [Act.put,sTA,sC0,sCS]
     refine wpAnyIn_ready (rs:=[12]) (by kernel_rfl) (by simp) ?_
     refine AllReadyIn.cons rfl (fun K hK=>?_) AllReadyIn.nil
     obtain ⟨x3,hx3⟩:∃ z,x2.alloc (.cells #[.bool false,.int .i64 av] 85)=z:=⟨_,rfl⟩
     have b3:Below x2.heap.size x2 x3:=by rw [← hx3];exact balloc (Below.refl _ _) _
     have HS3:=Lib.hid (show Sl 2 valC x3 x3.heap.size (some ⟨x2.heap.size,0,none⟩) [((false,av):Val)] by rw [← hx3];exact Row.sl' (t:=85) valC_length ((Row.new x2 _ _).of rfl))
     have HUx3:=Lib.hid (bch HUx2.out b3)
     have HO3:=Lib.hid (HO2.out.on b3)
     have hlo3:wr.heap.size ≤ x3.heap.size:=HUx3.out.size
     go_simp
     (try rw [hx3])
     have Hx3:=Lib.hid hx3
     clear hx3 b3
     refine hK _ _ ?_
     clear hK K
     try simp only [Act.put,sTA,sC0,sCS]
     refine wpAnyIn_ready (rs:=[13]) (by kernel_rfl) (by simp) ?_
     refine AllReadyIn.cons rfl (fun K hK=>?_) AllReadyIn.nil
     rw [if_pos (by rfl)]
     refine wpIn_app2 (.tmp 25) (.tmp 29) 100 rfl wr.heap.size 85 _ 2 16 valC Tryz.underlying100 zeroValG rfl (by decide) (by decide) valC_length valC_one _ _ rfl HO3.out (some ⟨x2.heap.size,0,none⟩) 1 1 [((false,av):Val)] rfl rfl HS3.out (by rw [HPL.out];simp only [List.length_singleton];omega) hlo3 ?_
     intro v5 x5 hown5 hgr5 hob5
     rw [HRX.out.1] at hown5
     obtain ⟨A5,c5,rfl,hc51,hc52,hs5⟩:=hown5.shape valC_length
     rw [HRX.out.2.1] at hown5 hc51 ⊢
     have HX5:=Lib.hid (show Below wr.heap.size wr x5 from HUx3.out.grown hgr5 HUx3.out.size fun q hq=>(HO3.out.ty q hq).1)
     have hsr:SRs ((cols.length:Int) + 1) x5 (⟨A5,nL,c5⟩,R):=⟨HRX.out.2.2.1,HRX.out.2.1.symm,by rw [HRX.out.2.1];exact hc51,hc52,hs5.sl⟩
     have hyl:=HY.out E pre ⟨(⟨A5,nL,c5⟩,R),HRX.out.2.2.1⟩ x5 (JB.out _ _ _ HQ.out.1 HX5.out (Nat.le_trans hsz HX5.out.size)) hsr HRX.out.2.2.2.2
     change YieldAt _ _ _ l #[.slice A5 nL c5] x5 _ at hyl
     obtain ⟨fn,tmps,assign,body,hy,hRy⟩:=hyl
     clear hown5 hgr5 hob5 hc51 hc52 hs5 hsr
     refine hK _ _ ?_
     clear hK K
     try simp only [Act.put,sTA,sC0,sCS]
     refine wpAnyIn_ready (rs:=[14]) (by kernel_rfl) (by simp) ?_
     refine AllReadyIn.cons rfl (fun K hK=>?_) AllReadyIn.nil
     go_simp
     refine hRy.mono ?_
     clear hy hRy
     rintro e x6 (⟨rfl,hJ6,hk6⟩ | ⟨rfl,hJx6⟩)
     ·have H6:=Lib.hid (And.intro hJ6 hk6)
      clear hJ6 hk6
      refine hK _ _ ?_
      clear hK K
      try simp only [Act.put,sTA,sC0,sCS]
      refine wpAnyIn_take (i:=15) (v:=?v8) rfl rfl (by kernel_rfl) (by kernel_rfl) (by kernel_rfl) (fun _ _ _ h=>h) ⟨Or.inl ⟨by rfl,?hy8⟩,fun _=>rfl⟩ ?_
      case hy8=>((intro w';go_simp) <;> with_reducible rfl)
      try simp only [Act.put,sTA,sC0,sCS]
      refine wpAnyIn_done (by kernel_rfl) ?_ _
      gi_wp2
      go_roundw
      case rel=>exact ⟨n + 1,_,by omega,by first | go_num | simp,H6.out.1,(HKO.out.below HX5.out).trans H6.out.2,HRX.out.2.2.2.1.trans (by simp)⟩
      case measure=>simp [intOf];omega
     ·have H6:=Lib.hid hJx6
      clear hJx6
      refine hK _ _ ?_
      clear hK K
      try simp only [Act.put,sTA,sC0,sCS]
      refine wpAnyIn_take (i:=15) (v:=?v9) rfl rfl (by kernel_rfl) (by kernel_rfl) (by kernel_rfl) (fun _ _ _ h=>h) ⟨Or.inl ⟨by rfl,?hy9⟩,fun _=>rfl⟩ ?_
      case hy9=>((intro w';go_simp) <;> with_reducible rfl)
      try simp only [Act.put,sTA,sC0,sCS]
      refine wpAnyIn_done (by kernel_rfl) ?_ _
      gi_wp2
      refine bodyPost_ret (results_none rfl _ _ _) rfl ⟨⟨_,rfl⟩,.inr ⟨_,E,?_,H6.out⟩⟩
      refine ⟨(GS.drop (n + 1)).map (grF cols 0 1),?_⟩
      exact Eq.trans (by simp) HRX.out.2.2.2.1.symm
    ·skip
     obtain ⟨e0,e1,e2⟩:=HCX.out _ HUu0.out
     go_simp
     clear e0 e1 e2
     refine hK _ _ ?_
     clear hK K
     try simp only [Act.put,sTA,sC0,sCS]
     refine wpAnyIn_take (i:=5) (v:=?v10) rfl rfl (by kernel_rfl) (by kernel_rfl) (by kernel_rfl) (fun _ _ _ h=>h) ⟨Or.inl ⟨by rfl,?hy10⟩,fun _=>rfl⟩ ?_
     case hy10=>((intro w';go_simp) <;> with_reducible rfl)
     try simp only [Act.put,sTA,sC0,sCS]
     refine wpAnyIn_take (i:=6) (v:=?v11) rfl rfl (by kernel_rfl) (by kernel_rfl) (by kernel_rfl) (fun _ _ _ h=>h) ⟨Or.inl ⟨by rfl,?hy11⟩,fun _=>rfl⟩ ?_
     case hy11=>((intro w';go_simp) <;> with_reducible rfl)
     try simp only [Act.put,sTA,sC0,sCS]
     refine wpAnyIn_ready (rs:=[3,7]) (by kernel_rfl) (by simp) ?_
     refine AllReadyIn.cons rfl (fun K hK=>?_) (AllReadyIn.cons rfl (fun K hK=>?_) AllReadyIn.nil)
     ·skip
      obtain ⟨e0,e1,e2⟩:=HCX.out _ HUu0.out
      go_simp
      clear e0 e1 e2
      refine hK _ _ ?_
      clear hK K
      try simp only [Act.put,sTA,sC0,sCS]
      refine wpAnyIn_ready (rs:=[7]) (by kernel_rfl) (by simp) ?_
      refine AllReadyIn.cons rfl (fun K hK=>?_) AllReadyIn.nil
      obtain ⟨e0,e1,e2⟩:=HCX.out _ HUu0.out
      go_simp
      clear e0 e1 e2
      refine hK _ _ ?_
      clear hK K
      try simp only [Act.put,sTA,sC0,sCS]
      refine wpAnyIn_ready (rs:=[8]) (by kernel_rfl) (by simp) ?_
      refine AllReadyIn.cons rfl (fun K hK=>?_) AllReadyIn.nil
      go_simp
      refine ⟨trivial,?_⟩
      gi_at_call 116
      refine (callsIn_wide.2 (HPK.out _ HUu0.out)).mono ?_
      rintro e x1 ⟨v1,rfl,how1,hb1⟩
      obtain ⟨A1,k1,rfl,_,_,_⟩:=how1.shape valC_length
      rw [HPL.out] at how1 ⊢
      have HUx1:=Lib.hid (bch HUu0.out hb1)
      have HO1:=Lib.hid (how1.low HUu0.out.size)
      clear how1 hb1
      refine hK _ _ ?_
      clear hK K
      try simp only [Act.put,sTA,sC0,sCS]
      refine wpAnyIn_ready (rs:=[11]) (by kernel_rfl) (by simp) ?_
      refine AllReadyIn.cons rfl (fun K hK=>?_) AllReadyIn.nil
      go_simp
      refine ⟨trivial,?_⟩
      gi_at_call 117
      refine (callsIn_wide.2 (HNM.out _)).mono ?_
      rintro e x2 ⟨rfl,hb2⟩
      have HUx2:=Lib.hid (bch HUx1.out hb2)
      have HO2:=Lib.hid (HO1.out.on hb2)
      clear hb2
      refine hK _ _ ?_
      clear hK K
      try simp only [Act.put,sTA,sC0,sCS]
      refine wpAnyIn_ready (rs:=[12]) (by kernel_rfl) (by simp) ?_
      refine AllReadyIn.cons rfl (fun K hK=>?_) AllReadyIn.nil
      obtain ⟨x3,hx3⟩:∃ z,x2.alloc (.cells #[.bool false,.int .i64 av] 85)=z:=⟨_,rfl⟩
      have b3:Below x2.heap.size x2 x3:=by rw [← hx3];exact balloc (Below.refl _ _) _
      have HS3:=Lib.hid (show Sl 2 valC x3 x3.heap.size (some ⟨x2.heap.size,0,none⟩) [((false,av):Val)] by rw [← hx3];exact Row.sl' (t:=85) valC_length ((Row.new x2 _ _).of rfl))
      have HUx3:=Lib.hid (bch HUx2.out b3)
      have HO3:=Lib.hid (HO2.out.on b3)
      have hlo3:wr.heap.size ≤ x3.heap.size:=HUx3.out.size
      go_simp
      (try rw [hx3])
      have Hx3:=Lib.hid hx3
      clear hx3 b3
      refine hK _ _ ?_
      clear hK K
      try simp only [Act.put,sTA,sC0,sCS]
      refine wpAnyIn_ready (rs:=[13]) (by kernel_rfl) (by simp) ?_
      refine AllReadyIn.cons rfl (fun K hK=>?_) AllReadyIn.nil
      rw [if_pos (by rfl)]
      refine wpIn_app2 (.tmp 25) (.tmp 29) 100 rfl wr.heap.size 85 _ 2 16 valC Tryz.underlying100 zeroValG rfl (by decide) (by decide) valC_length valC_one _ _ rfl HO3.out (some ⟨x2.heap.size,0,none⟩) 1 1 [((false,av):Val)] rfl rfl HS3.out (by rw [HPL.out];simp only [List.length_singleton];omega) hlo3 ?_
      intro v5 x5 hown5 hgr5 hob5
      rw [HRX.out.1] at hown5
      obtain ⟨A5,c5,rfl,hc51,hc52,hs5⟩:=hown5.shape valC_length
      rw [HRX.out.2.1] at hown5 hc51 ⊢
      have HX5:=Lib.hid (show Below wr.heap.size wr x5 from HUx3.out.grown hgr5 HUx3.out.size fun q hq=>(HO3.out.ty q hq).1)
      have hsr:SRs ((cols.length:Int) + 1) x5 (⟨A5,nL,c5⟩,R):=⟨HRX.out.2.2.1,HRX.out.2.1.symm,by rw [HRX.out.2.1];exact hc51,hc52,hs5.sl⟩
      have hyl:=HY.out E pre ⟨(⟨A5,nL,c5⟩,R),HRX.out.2.2.1⟩ x5 (JB.out _ _ _ HQ.out.1 HX5.out (Nat.le_trans hsz HX5.out.size)) hsr HRX.out.2.2.2.2
      change YieldAt _ _ _ l #[.slice A5 nL c5] x5 _ at hyl
      obtain ⟨fn,tmps,assign,body,hy,hRy⟩:=hyl
      clear hown5 hgr5 hob5 hc51 hc52 hs5 hsr
      refine hK _ _ ?_
      clear hK K
      try simp only [Act.put,sTA,sC0,sCS]
      refine wpAnyIn_ready (rs:=[14]) (by kernel_rfl) (by simp) ?_
      refine AllReadyIn.cons rfl (fun K hK=>?_) AllReadyIn.nil
      go_simp
      refine hRy.mono ?_
      clear hy hRy
      rintro e x6 (⟨rfl,hJ6,hk6⟩ | ⟨rfl,hJx6⟩)
      ·have H6:=Lib.hid (And.intro hJ6 hk6)
       clear hJ6 hk6
       refine hK _ _ ?_
       clear hK K
       try simp only [Act.put,sTA,sC0,sCS]
       refine wpAnyIn_take (i:=15) (v:=?v12) rfl rfl (by kernel_rfl) (by kernel_rfl) (by kernel_rfl) (fun _ _ _ h=>h) ⟨Or.inl ⟨by rfl,?hy12⟩,fun _=>rfl⟩ ?_
       case hy12=>((intro w';go_simp) <;> with_reducible rfl)
       try simp only [Act.put,sTA,sC0,sCS]
       refine wpAnyIn_done (by kernel_rfl) ?_ _
       gi_wp2
       go_roundw
       case rel=>exact ⟨n + 1,_,by omega,by first | go_num | simp,H6.out.1,(HKO.out.below HX5.out).trans H6.out.2,HRX.out.2.2.2.1.trans (by simp)⟩
       case measure=>simp [intOf];omega
      ·have H6:=Lib.hid hJx6
       clear hJx6
       refine hK _ _ ?_
       clear hK K
       try simp only [Act.put,sTA,sC0,sCS]
       refine wpAnyIn_take (i:=15) (v:=?v13) rfl rfl (by kernel_rfl) (by kernel_rfl) (by kernel_rfl) (fun _ _ _ h=>h) ⟨Or.inl ⟨by rfl,?hy13⟩,fun _=>rfl⟩ ?_
       case hy13=>((intro w';go_simp) <;> with_reducible rfl)
       try simp only [Act.put,sTA,sC0,sCS]
       refine wpAnyIn_done (by kernel_rfl) ?_ _
       gi_wp2
       refine bodyPost_ret (results_none rfl _ _ _) rfl ⟨⟨_,rfl⟩,.inr ⟨_,E,?_,H6.out⟩⟩
       refine ⟨(GS.drop (n + 1)).map (grF cols 0 1),?_⟩
       exact Eq.trans (by simp) HRX.out.2.2.2.1.symm
     ·skip
      obtain ⟨e0,e1,e2⟩:=HCX.out _ HUu0.out
      go_simp
      clear e0 e1 e2
      refine hK _ _ ?_
      clear hK K
      try simp only [Act.put,sTA,sC0,sCS]
      refine wpAnyIn_ready (rs:=[3]) (by kernel_rfl) (by simp) ?_
      refine AllReadyIn.cons rfl (fun K hK=>?_) AllReadyIn.nil
      obtain ⟨e0,e1,e2⟩:=HCX.out _ HUu0.out
      go_simp
      clear e0 e1 e2
      refine hK _ _ ?_
      clear hK K
      try simp only [Act.put,sTA,sC0,sCS]
      refine wpAnyIn_ready (rs:=[8]) (by kernel_rfl) (by simp) ?_
      refine AllReadyIn.cons rfl (fun K hK=>?_) AllReadyIn.nil
      go_simp
      refine ⟨trivial,?_⟩
      gi_at_call 116
      refine (callsIn_wide.2 (HPK.out _ HUu0.out)).mono ?_
      rintro e x1 ⟨v1,rfl,how1,hb1⟩
      obtain ⟨A1,k1,rfl,_,_,_⟩:=how1.shape valC_length
      rw [HPL.out] at how1 ⊢
      have HUx1:=Lib.hid (bch HUu0.out hb1)
      have HO1:=Lib.hid (how1.low HUu0.out.size)
      clear how1 hb1
      refine hK _ _ ?_
      clear hK K
      try simp only [Act.put,sTA,sC0,sCS]
      refine wpAnyIn_ready (rs:=[11]) (by kernel_rfl) (by simp) ?_
      refine AllReadyIn.cons rfl (fun K hK=>?_) AllReadyIn.nil
      go_simp
      refine ⟨trivial,?_⟩
      gi_at_call 117
      refine (callsIn_wide.2 (HNM.out _)).mono ?_
      rintro e x2 ⟨rfl,hb2⟩
      have HUx2:=Lib.hid (bch HUx1.out hb2)
      have HO2:=Lib.hid (HO1.out.on hb2)
      clear hb2
      refine hK _ _ ?_
      clear hK K
      try simp only [Act.put,sTA,sC0,sCS]
      refine wpAnyIn_ready (rs:=[12]) (by kernel_rfl) (by simp) ?_
      refine AllReadyIn.cons rfl (fun K hK=>?_) AllReadyIn.nil
      obtain ⟨x3,hx3⟩:∃ z,x2.alloc (.cells #[.bool false,.int .i64 av] 85)=z:=⟨_,rfl⟩
      have b3:Below x2.heap.size x2 x3:=by rw [← hx3];exact balloc (Below.refl _ _) _
      have HS3:=Lib.hid (show Sl 2 valC x3 x3.heap.size (some ⟨x2.heap.size,0,none⟩) [((false,av):Val)] by rw [← hx3];exact Row.sl' (t:=85) valC_length ((Row.new x2 _ _).of rfl))
      have HUx3:=Lib.hid (bch HUx2.out b3)
      have HO3:=Lib.hid (HO2.out.on b3)
      have hlo3:wr.heap.size ≤ x3.heap.size:=HUx3.out.size
      go_simp
      (try rw [hx3])
      have Hx3:=Lib.hid hx3
      clear hx3 b3
      refine hK _ _ ?_
      clear hK K
      try simp only [Act.put,sTA,sC0,sCS]
      refine wpAnyIn_ready (rs:=[13]) (by kernel_rfl) (by simp) ?_
      refine AllReadyIn.cons rfl (fun K hK=>?_) AllReadyIn.nil
      rw [if_pos (by rfl)]
      refine wpIn_app2 (.tmp 25) (.tmp 29) 100 rfl wr.heap.size 85 _ 2 16 valC Tryz.underlying100 zeroValG rfl (by decide) (by decide) valC_length valC_one _ _ rfl HO3.out (some ⟨x2.heap.size,0,none⟩) 1 1 [((false,av):Val)] rfl rfl HS3.out (by rw [HPL.out];simp only [List.length_singleton];omega) hlo3 ?_
      intro v5 x5 hown5 hgr5 hob5
      rw [HRX.out.1] at hown5
      obtain ⟨A5,c5,rfl,hc51,hc52,hs5⟩:=hown5.shape valC_length
      rw [HRX.out.2.1] at hown5 hc51 ⊢
      have HX5:=Lib.hid (show Below wr.heap.size wr x5 from HUx3.out.grown hgr5 HUx3.out.size fun q hq=>(HO3.out.ty q hq).1)
      have hsr:SRs ((cols.length:Int) + 1) x5 (⟨A5,nL,c5⟩,R):=⟨HRX.out.2.2.1,HRX.out.2.1.symm,by rw [HRX.out.2.1];exact hc51,hc52,hs5.sl⟩
      have hyl:=HY.out E pre ⟨(⟨A5,nL,c5⟩,R),HRX.out.2.2.1⟩ x5 (JB.out _ _ _ HQ.out.1 HX5.out (Nat.le_trans hsz HX5.out.size)) hsr HRX.out.2.2.2.2
      change YieldAt _ _ _ l #[.slice A5 nL c5] x5 _ at hyl
      obtain ⟨fn,tmps,assign,body,hy,hRy⟩:=hyl
      clear hown5 hgr5 hob5 hc51 hc52 hs5 hsr
      refine hK _ _ ?_
      clear hK K
      try simp only [Act.put,sTA,sC0,sCS]
      refine wpAnyIn_ready (rs:=[14]) (by kernel_rfl) (by simp) ?_
      refine AllReadyIn.cons rfl (fun K hK=>?_) AllReadyIn.nil
      go_simp
      refine hRy.mono ?_
      clear hy hRy
      rintro e x6 (⟨rfl,hJ6,hk6⟩ | ⟨rfl,hJx6⟩)
      ·have H6:=Lib.hid (And.intro hJ6 hk6)
       clear hJ6 hk6
       refine hK _ _ ?_
       clear hK K
       try simp only [Act.put,sTA,sC0,sCS]
       refine wpAnyIn_take (i:=15) (v:=?v14) rfl rfl (by kernel_rfl) (by kernel_rfl) (by kernel_rfl) (fun _ _ _ h=>h) ⟨Or.inl ⟨by rfl,?hy14⟩,fun _=>rfl⟩ ?_
       case hy14=>((intro w';go_simp) <;> with_reducible rfl)
       try simp only [Act.put,sTA,sC0,sCS]
       refine wpAnyIn_done (by kernel_rfl) ?_ _
       gi_wp2
       go_roundw
       case rel=>exact ⟨n + 1,_,by omega,by first | go_num | simp,H6.out.1,(HKO.out.below HX5.out).trans H6.out.2,HRX.out.2.2.2.1.trans (by simp)⟩
       case measure=>simp [intOf];omega
      ·have H6:=Lib.hid hJx6
       clear hJx6
       refine hK _ _ ?_
       clear hK K
       try simp only [Act.put,sTA,sC0,sCS]
       refine wpAnyIn_take (i:=15) (v:=?v15) rfl rfl (by kernel_rfl) (by kernel_rfl) (by kernel_rfl) (fun _ _ _ h=>h) ⟨Or.inl ⟨by rfl,?hy15⟩,fun _=>rfl⟩ ?_
       case hy15=>((intro w';go_simp) <;> with_reducible rfl)
       try simp only [Act.put,sTA,sC0,sCS]
       refine wpAnyIn_done (by kernel_rfl) ?_ _
       gi_wp2
       refine bodyPost_ret (results_none rfl _ _ _) rfl ⟨⟨_,rfl⟩,.inr ⟨_,E,?_,H6.out⟩⟩
       refine ⟨(GS.drop (n + 1)).map (grF cols 0 1),?_⟩
       exact Eq.trans (by simp) HRX.out.2.2.2.1.symm
   ·obtain rfl:n=N:=by omega
    gi_wp2
    go_end0
    refine ⟨⟨_,rfl⟩,.inl ⟨pre,E,?_,HQ.out.1⟩⟩
    have:=HQ.out.2.2
    rw [List.drop_of_length_le (by rw [HNG.out];exact Nat.le_refl _),List.map_nil,List.append_nil] at this
    exact this.symm
 refine wpIn_region_any (by kernel_rfl) ?_
 obtain ⟨u0,hu0⟩:∃ y,{ z with drawn:=z.drawn + 1 }=y:=⟨_,rfl⟩
 have HUu0:=Lib.hid (show Below z.heap.size z u0 from hu0 ▸ (Below.refl _ _).drew)
 rw [hu0]
 clear hu0
 refine wpAnyIn_take (i:=7) (v:=?v16) rfl rfl (by kernel_rfl) (by kernel_rfl) (by kernel_rfl) (fun _ _ _ h=>h) ⟨Or.inl ⟨by rfl,?hy16⟩,fun _=>rfl⟩ ?_
 case hy16=>((intro w';go_simp) <;> with_reducible rfl)
 try simp only [Act.put,sTA,sC0,sCS]
 refine wpAnyIn_ready (rs:=[0,1]) (by kernel_rfl) (by simp) ?_
 refine AllReadyIn.cons rfl (fun K hK=>?_) (AllReadyIn.cons rfl (fun K hK=>?_) AllReadyIn.nil)
 ·skip
  obtain ⟨e0,e1,e2,e3⟩:=HCZ.out _ HUu0.out
  go_simp
  clear e0 e1 e2 e3
  refine hK _ _ ?_
  clear hK K
  try simp only [Act.put,sTA,sC0,sCS]
  refine wpAnyIn_ready (rs:=[1]) (by kernel_rfl) (by simp) ?_
  refine AllReadyIn.cons rfl (fun K hK=>?_) AllReadyIn.nil
  obtain ⟨e0,e1,e2,e3⟩:=HCZ.out _ HUu0.out
  go_simp
  clear e0 e1 e2 e3
  refine hK _ _ ?_
  clear hK K
  try simp only [Act.put,sTA,sC0,sCS]
  refine wpAnyIn_take (i:=2) (v:=?v17) rfl rfl (by kernel_rfl) (by kernel_rfl) (by kernel_rfl) (fun _ _ _ h=>h) ⟨Or.inl ⟨by rfl,?hy17⟩,fun _=>rfl⟩ ?_
  case hy17=>((intro w';go_simp) <;> with_reducible rfl)
  try simp only [Act.put,sTA,sC0,sCS]
  refine wpAnyIn_take (i:=3) (v:=?v18) rfl rfl (by kernel_rfl) (by kernel_rfl) (by kernel_rfl) (fun _ _ _ h=>h) ⟨Or.inl ⟨by rfl,?hy18⟩,fun _=>rfl⟩ ?_
  case hy18=>((intro w';go_simp) <;> with_reducible rfl)
  try simp only [Act.put,sTA,sC0,sCS]
  refine wpAnyIn_ready (rs:=[4]) (by kernel_rfl) (by simp) ?_
  refine AllReadyIn.cons rfl (fun K hK=>?_) AllReadyIn.nil
  obtain ⟨e0,e1,e2,e3⟩:=HCZ.out _ HUu0.out
  go_simp
  clear e0 e1 e2 e3
  refine hK _ _ ?_
  clear hK K
  try simp only [Act.put,sTA,sC0,sCS]
  refine wpAnyIn_ready (rs:=[5]) (by kernel_rfl) (by simp) ?_
  refine AllReadyIn.cons rfl (fun K hK=>?_) AllReadyIn.nil
  go_simp
  refine ⟨trivial,?_⟩
  gi_at_call 115
  refine (callsIn_wide.2 (HGO.out _ (bch HZ.out HUu0.out))).mono ?_
  rintro e z2 ⟨v1,vs,w5,rfl,hb5,hb2,how,hbk⟩
  obtain ⟨A13,c13,rfl,_,_,_⟩:=how.shape svC_length
  have H2:=Lib.hid (And.intro (bch HUu0.out hb5) (And.intro hb2 (And.intro how hbk)))
  clear hb5 hb2 how hbk
  refine hK _ _ ?_
  clear hK K
  try simp only [Act.put,sTA,sC0,sCS]
  refine wpAnyIn_take (i:=6) (v:=?v19) rfl rfl (by kernel_rfl) (by kernel_rfl) (by kernel_rfl) (fun _ _ _ h=>h) ⟨Or.inl ⟨by rfl,?hy19⟩,fun _=>rfl⟩ ?_
  case hy19=>((intro w';go_simp) <;> with_reducible rfl)
  try simp only [Act.put,sTA,sC0,sCS]
  refine wpAnyIn_done (by kernel_rfl) ?_ _
  exact REST _ _ _ _ _ H2.out.1 H2.out.2.1 H2.out.2.2.1 H2.out.2.2.2
 ·skip
  obtain ⟨e0,e1,e2,e3⟩:=HCZ.out _ HUu0.out
  go_simp
  clear e0 e1 e2 e3
  refine hK _ _ ?_
  clear hK K
  try simp only [Act.put,sTA,sC0,sCS]
  refine wpAnyIn_take (i:=2) (v:=?v20) rfl rfl (by kernel_rfl) (by kernel_rfl) (by kernel_rfl) (fun _ _ _ h=>h) ⟨Or.inl ⟨by rfl,?hy20⟩,fun _=>rfl⟩ ?_
  case hy20=>((intro w';go_simp) <;> with_reducible rfl)
  try simp only [Act.put,sTA,sC0,sCS]
  refine wpAnyIn_take (i:=3) (v:=?v21) rfl rfl (by kernel_rfl) (by kernel_rfl) (by kernel_rfl) (fun _ _ _ h=>h) ⟨Or.inl ⟨by rfl,?hy21⟩,fun _=>rfl⟩ ?_
  case hy21=>((intro w';go_simp) <;> with_reducible rfl)
  try simp only [Act.put,sTA,sC0,sCS]
  refine wpAnyIn_ready (rs:=[0,4]) (by kernel_rfl) (by simp) ?_
  refine AllReadyIn.cons rfl (fun K hK=>?_) (AllReadyIn.cons rfl (fun K hK=>?_) AllReadyIn.nil)
  ·skip
   obtain ⟨e0,e1,e2,e3⟩:=HCZ.out _ HUu0.out
   go_simp
   clear e0 e1 e2 e3
   refine hK _ _ ?_
   clear hK K
   try simp only [Act.put,sTA,sC0,sCS]
   refine wpAnyIn_ready (rs:=[4]) (by kernel_rfl) (by simp) ?_
   refine AllReadyIn.cons rfl (fun K hK=>?_) AllReadyIn.nil
   obtain ⟨e0,e1,e2,e3⟩:=HCZ.out _ HUu0.out
   go_simp
   clear e0 e1 e2 e3
   refine hK _ _ ?_
   clear hK K
   try simp only [Act.put,sTA,sC0,sCS]
   refine wpAnyIn_ready (rs:=[5]) (by kernel_rfl) (by simp) ?_
   refine AllReadyIn.cons rfl (fun K hK=>?_) AllReadyIn.nil
   go_simp
   refine ⟨trivial,?_⟩
   gi_at_call 115
   refine (callsIn_wide.2 (HGO.out _ (bch HZ.out HUu0.out))).mono ?_
   rintro e z2 ⟨v1,vs,w5,rfl,hb5,hb2,how,hbk⟩
   obtain ⟨A13,c13,rfl,_,_,_⟩:=how.shape svC_length
   have H2:=Lib.hid (And.intro (bch HUu0.out hb5) (And.intro hb2 (And.intro how hbk)))
   clear hb5 hb2 how hbk
   refine hK _ _ ?_
   clear hK K
   try simp only [Act.put,sTA,sC0,sCS]
   refine wpAnyIn_take (i:=6) (v:=?v22) rfl rfl (by kernel_rfl) (by kernel_rfl) (by kernel_rfl) (fun _ _ _ h=>h) ⟨Or.inl ⟨by rfl,?hy22⟩,fun _=>rfl⟩ ?_
   case hy22=>((intro w';go_simp) <;> with_reducible rfl)
   try simp only [Act.put,sTA,sC0,sCS]
   refine wpAnyIn_done (by kernel_rfl) ?_ _
   exact REST _ _ _ _ _ H2.out.1 H2.out.2.1 H2.out.2.2.1 H2.out.2.2.2
  ·skip
   obtain ⟨e0,e1,e2,e3⟩:=HCZ.out _ HUu0.out
   go_simp
   clear e0 e1 e2 e3
   refine hK _ _ ?_
   clear hK K
   try simp only [Act.put,sTA,sC0,sCS]
   refine wpAnyIn_ready (rs:=[0]) (by kernel_rfl) (by simp) ?_
   refine AllReadyIn.cons rfl (fun K hK=>?_) AllReadyIn.nil
   obtain ⟨e0,e1,e2,e3⟩:=HCZ.out _ HUu0.out
   go_simp
   clear e0 e1 e2 e3
   refine hK _ _ ?_
   clear hK K
   try simp only [Act.put,sTA,sC0,sCS]
   refine wpAnyIn_ready (rs:=[5]) (by kernel_rfl) (by simp) ?_
   refine AllReadyIn.cons rfl (fun K hK=>?_) AllReadyIn.nil
   go_simp
   refine ⟨trivial,?_⟩
   gi_at_call 115
   refine (callsIn_wide.2 (HGO.out _ (bch HZ.out HUu0.out))).mono ?_
   rintro e z2 ⟨v1,vs,w5,rfl,hb5,hb2,how,hbk⟩
   obtain ⟨A13,c13,rfl,_,_,_⟩:=how.shape svC_length
   have H2:=Lib.hid (And.intro (bch HUu0.out hb5) (And.intro hb2 (And.intro how hbk)))
   clear hb5 hb2 how hbk
   refine hK _ _ ?_
   clear hK K
   try simp only [Act.put,sTA,sC0,sCS]
   refine wpAnyIn_take (i:=6) (v:=?v23) rfl rfl (by kernel_rfl) (by kernel_rfl) (by kernel_rfl) (fun _ _ _ h=>h) ⟨Or.inl ⟨by rfl,?hy23⟩,fun _=>rfl⟩ ?_
   case hy23=>((intro w';go_simp) <;> with_reducible rfl)
   try simp only [Act.put,sTA,sC0,sCS]
   refine wpAnyIn_done (by kernel_rfl) ?_ _
   exact REST _ _ _ _ _ H2.out.1 H2.out.2.1 H2.out.2.2.1 H2.out.2.2.2
theorem entersGrouped1:EntersF 114:=enters_of Tryz.func114 (by kernel_rfl) rfl
set_option maxHeartbeats 1000000 in
theorem grouped_ok (b o:Nat) (W:Int) (A:Option Addr) (n c:Nat) (w:World) :
 Calls Tryz.prog 89 #[.pointer (some ⟨b,o,none⟩),.agg #[.int .i64 W,.slice A n c]] w fun e w'=>e=.returned (.func (.func 114) #[] #[.pointer (some ⟨w.heap.size + 1,0,none⟩),.pointer (some ⟨w.heap.size,0,none⟩)]) ∧ Below w.heap.size w w' ∧ Row w' w.heap.size 66 [.pointer (some ⟨b,o,none⟩)] ∧ Row w' (w.heap.size + 1) 32 [.int .i64 W,.slice A n c]:=by
 go_enter Tryz.func89,Tryz.ntmps89
 go_wp2
 go_ret
 exact ⟨rfl,balloc (balloc (Below.refl _ _) _) _,Row.first _ _ _ _,Row.second _ _ _ _⟩
end Go.Proofs.YtcbfbgngkdiijaaGreat
