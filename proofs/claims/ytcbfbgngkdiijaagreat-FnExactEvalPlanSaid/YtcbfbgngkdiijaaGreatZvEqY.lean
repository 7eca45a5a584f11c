import Derived.Test.YtcbfbgngkdiijaaGreatProg
import Derived.Test.YtcbfbgngkdiijaaGreatZvSzP
import Derived.Test.YtcbfbgngkdiijaaGreatZvGb
import Derived.Test.YtcbfbgngkdiijaaGreatZvGf
namespace Go.Proofs.YtcbfbgngkdiijaaGreat
open Go.RowKit Go.Qo
set_option linter.unusedVariables false
set_option linter.unusedSimpArgs false

def EqY (x:Pl):Prop:=∀ (f g:FP) (w:World),PlIn w w.heap.size f x → PlIn w w.heap.size g x →
 Calls Tryz.prog 12 #[fpV f,fpV g] w fun e w'=>e=.returned (.bool true) ∧ Below w.heap.size w w'

set_option maxRecDepth 20000 in
set_option maxHeartbeats 2000000 in
theorem eqPlanS_of (es:List Pl) (he:∀ x ∈ es,EqY x) (A A':Option Addr) (c c':Nat) (w:World) (hn:es.length ≤ maxLen) (h:PlsIn w w.heap.size A es) (h':PlsIn w w.heap.size A' es) :
 Calls Tryz.prog 35 #[.slice A es.length c,.slice A' es.length c'] w fun e w'=>e=.returned (.bool true) ∧ Below w.heap.size w w':=by
 have HE:=Lib.hid he
 have HH:=Lib.hid (And.intro h h')
 clear he h h'
 unfold maxLen at hn
 go_enter Tryz.func35,Tryz.ntmps35
 go_wp2
 go_loopg [5] es.length (fun g iv wr=>∃ i:Nat,i ≤ es.length ∧ g=es.length - i ∧ iv=.int .i64 i ∧ Below w.heap.size w wr)
 case atStart=>exact ⟨0,by omega,by omega,rfl,Below.refl _ _⟩
 case round=>
  obtain ⟨i,hi,rfl,rfl,hb⟩:=hrel
  have HB:=Lib.hid hb
  clear hb
  by_cases hlt:i < es.length
  ·obtain ⟨b1,o1,f,hA,hB1,⟨d0,d1,d2,d3,d4⟩,hf⟩:=(HH.out.1.on HB.out).at_ hlt
   obtain ⟨b2,o2,g,hA',hB2,⟨k0,k1,k2,k3,k4⟩,hg⟩:=(HH.out.2.on HB.out).at_ hlt
   subst hA
   subst hA'
   have HX:=Lib.hid (fun z:Aft wr.heap.size wr=>HE.out _ (List.getElem_mem hlt) f g z.v (hf.on z.h) (hg.on z.h))
   unfold fpV at HX
   have hil:(i:Int) < (es.length:Int):=by omega
   have D0:=fun z:Aft wr.heap.size wr=>z.cell hB1 d0
   have D1:=fun z:Aft wr.heap.size wr=>z.cell hB1 d1
   have D2:=fun z:Aft wr.heap.size wr=>z.cell hB1 d2
   have D3:=fun z:Aft wr.heap.size wr=>z.cell hB1 d3
   have D4:=fun z:Aft wr.heap.size wr=>z.cell hB1 d4
   have K0:=fun z:Aft wr.heap.size wr=>z.cell hB2 k0
   have K1:=fun z:Aft wr.heap.size wr=>z.cell hB2 k1
   have K2:=fun z:Aft wr.heap.size wr=>z.cell hB2 k2
   have K3:=fun z:Aft wr.heap.size wr=>z.cell hB2 k3
   have K4:=fun z:Aft wr.heap.size wr=>z.cell hB2 k4
   clear hf hg d0 d1 d2 d3 d4 k0 k1 k2 k3 k4
   go_wp2
   refine wp_region_aft wr.heap.size (by kernel_rfl) (by kernel_rfl) ?_
   repeat (go_big_quiet_step ((go_at_call 12;exact Calls.aft (Nat.le_refl _) (HX.out _))))
   refine wpQuiet_nil ?_
   intro w2 hw'
   obtain ⟨⟨_,hb2⟩,rfl⟩:=hw'
   go_wp2
   have H2:=Lib.hid (bch HB.out hb2)
   clear hb2 D0 D1 D2 D3 D4 K0 K1 K2 K3 K4
   go_wp2
   go_roundg (es.length - (i + 1))
   case measure=>omega
   case rel=>exact ⟨i + 1,by omega,rfl,by go_num,H2.out⟩
  ·go_wp2
   go_ret
   exact ⟨rfl,HB.out⟩

set_option maxRecDepth 20000 in
set_option maxHeartbeats 2000000 in
theorem eqPlan_ok:∀ p:Pl,EqY p:=Pl.ind fun p ih f g w h h'=>by
 obtain ⟨a1,a2,⟨e1,e2,e3⟩,⟨i1,i2,i3⟩,⟨j1,j2,j3⟩,hE,hC⟩:=h.flat
 obtain ⟨b1,b2,⟨u1,u2,u3⟩,⟨v1,v2,v3⟩,⟨y1,y2,y3⟩,hE',hC'⟩:=h'.flat
 have k1:g.kind=f.kind:=b1.trans a1.symm
 have k2:g.table=f.table:=b2.trans a2.symm
 obtain ⟨W1,hW1⟩:∃ z,(w.alloc (.cells #[.int .i64 f.kind,.int .i64 f.table,.slice f.es.A p.exprs.length f.es.c,.slice f.cs.A p.cols.length f.cs.c,.slice f.ks.A p.kids.length f.ks.c] 38)).alloc (.cells #[.int .i64 f.kind,.int .i64 f.table,.slice g.es.A p.exprs.length g.es.c,.slice g.cs.A p.cols.length g.cs.c,.slice g.ks.A p.kids.length g.ks.c] 38)=z:=⟨_,rfl⟩
 have B1:Below w.heap.size w W1:=by rw [← hW1];exact balloc (balloc (Below.refl _ _) _) _
 have r1:Row W1 w.heap.size 38 [.int .i64 f.kind,.int .i64 f.table,.slice f.es.A p.exprs.length f.es.c,.slice f.cs.A p.cols.length f.cs.c,.slice f.ks.A p.kids.length f.ks.c]:=by rw [← hW1];exact Row.first _ _ _ _
 have r2:Row W1 (w.heap.size + 1) 38 [.int .i64 f.kind,.int .i64 f.table,.slice g.es.A p.exprs.length g.es.c,.slice g.cs.A p.cols.length g.cs.c,.slice g.ks.A p.kids.length g.ks.c]:=by rw [← hW1];exact Row.second _ _ _ _
 have LE:=Lib.hid (eqExprS_of p.exprs (fun y _=>eqExpr_ok y) f.es.A g.es.A f.es.c g.es.c W1 (by omega) (hE.on B1) (hE'.on B1))
 have LC0:=fun (z:World) (hz:Below W1.heap.size W1 z)=>eqIntS_ok f.cs.A g.cs.A f.cs.c g.cs.c p.cols p.cols z (by omega) (by omega) ((hC.on B1).on hz) ((hC'.on B1).on hz)
 rw [show decide (p.cols=p.cols)=true by simp] at LC0
 have LC:=Lib.hid LC0
 have LK:=Lib.hid (fun (z:World) (hz:Below W1.heap.size W1 z)=>eqPlanS_of p.kids ih f.ks.A g.ks.A f.ks.c g.ks.c z (by omega) ((plKids_in h |>.on B1).on hz) ((plKids_in h' |>.on B1).on hz))
 have HB1:=Lib.hid B1
 have HW1:=Lib.hid hW1
 have HR1:=Lib.hid r1
 have HR2:=Lib.hid r2
 have c0:=r1.cell 0
 have c1:=r1.cell 1
 have c2:=r1.cell 2
 have d0:=r2.cell 0
 have d1:=r2.cell 1
 have d2:=r2.cell 2
 unfold fpV
 rw [k1,k2,e1,i1,j1,u1,v1,y1]
 clear h h' ih a1 a2 e1 e2 e3 i1 i2 i3 j1 j2 j3 hE hC b1 b2 u1 u2 u3 v1 v2 v3 y1 y2 y3 hE' hC' k1 k2 B1 r1 r2 hW1 LC0
 go_enter Tryz.func12,Tryz.ntmps12
 go_upto_region 1 with fail
 rw [HW1.out]
 go_wp2_with fail
 refine LE.out.mono ?_
 rintro e w2 ⟨rfl,hb2⟩
 have HB2:=Lib.hid hb2
 have c3:=(HR1.out.on hb2).cell 3
 have d3:=(HR2.out.on hb2).cell 3
 clear hb2 c0 c1 c2 d0 d1 d2
 go_wp2_with fail
 refine (LC.out w2 HB2.out).mono ?_
 rintro e w3 ⟨rfl,hb3⟩
 have HB3:=Lib.hid (bch HB2.out hb3)
 have c4:=(HR1.out.on HB3.out).cell 4
 have d4:=(HR2.out.on HB3.out).cell 4
 clear hb3 c3 d3
 go_wp2_with fail
 refine (LK.out w3 HB3.out).mono ?_
 rintro e w4 ⟨rfl,hb4⟩
 go_wp2
 go_ret
 exact ⟨rfl,bch (bch HB1.out HB3.out) hb4⟩
end Go.Proofs.YtcbfbgngkdiijaaGreat
