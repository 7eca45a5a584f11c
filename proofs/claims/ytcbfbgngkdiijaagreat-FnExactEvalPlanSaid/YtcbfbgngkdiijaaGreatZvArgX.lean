import Derived.Test.YtcbfbgngkdiijaaGreatZvGa
import Derived.Test.YtcbfbgngkdiijaaGreatZvGeg
import Derived.Lib.SmallJoins
namespace Go.Qo
open Go.RowKit Go.ChangeShapes Go.WideShapes Go.Deep
set_option linter.unusedVariables false
set_option linter.unusedSimpArgs false

section
variable {H:Type} {enc:TypeId × Value → H} {P:Program} {w:World} {base:Nat} {spare:Nat → Bool} {held:Bool}

theorem open_slx {α:Type} {ec:α → List Value} {Good:α → Prop} {t e:TypeId} {sz:Nat} {fuel:Nat} {A:Option Addr} {n c:Nat} {x:DataW H × List MemPlace}
 (ht:P.underlying t=some (.slice e)) (hC:P.cellsOf e=sz) (hsz:0 < sz) (hec:∀ a,(ec a).length=sz)
 (hel:∀ (fuel:Nat) (cs:List Value) (y:DataW H × List MemPlace),SizeOf.sizeOf y.1 < SizeOf.sizeOf x.1 → cs.length=sz → DataW.trod enc P w base spare held fuel e cs=some y → ∃ el:α,cs=ec el ∧ Good el)
 (h:DataW.trod enc P w base spare held fuel t [.slice A n c]=some x) :
 ∃ xs:List α,xs.length=n ∧ n ≤ c ∧ c ≤ maxLen ∧ (∀ el ∈ xs,Good el) ∧ Sl sz ec w w.heap.size A xs:=by
 rcases open_slice ht h with ⟨hcs,_⟩ | ⟨a,len,cap,m,k,D,Pl,hcs,hb,hl,hm,hmm,hx,hi⟩
 ·simp only [List.cons.injEq,Value.slice.injEq,and_true] at hcs
  obtain ⟨rfl,rfl,rfl⟩:=hcs
  exact ⟨[],rfl,Nat.le_refl _,by unfold maxLen;omega,by simp,Sl.nil⟩
 ·simp only [List.cons.injEq,Value.slice.injEq,and_true] at hcs
  obtain ⟨rfl,rfl,rfl⟩:=hcs
  have hle:n ≤ m:=by rw [hmm];split <;> omega
  have hlt:∀ i,i < n → SizeOf.sizeOf (D i) < SizeOf.sizeOf x.1:=fun i hin=>by
   rw [hx]
   have:=List.sizeOf_lt_of_mem (List.mem_map.2 ⟨i,List.mem_range.2 hin,rfl⟩:D i ∈ (List.range n).map D)
   simp only [DataW.slice.sizeOf_spec]
   omega
  have h1:∀ i,i < n → ∃ el:α,Good el ∧ ∀ j u,(ec el)[j]? = some u → w.cell? (a.add (i * sz + j))=some u:=by
   intro i hin
   obtain ⟨cs',hc,ht'⟩:=hi i (by omega)
   obtain ⟨_,hcl,hat⟩:=World.cells?_some hc
   rw [hC] at hcl hat
   obtain ⟨el,rfl,hg⟩:=hel _ _ _ (hlt i hin) hcl ht'
   refine ⟨el,hg,fun j u hu=>?_⟩
   have hj:j < sz:=by have:=(List.getElem?_eq_some_iff.1 hu).1;rw [hec] at this;exact this
   have:=hat j hj
   rw [Go.Deep.add_add] at this
   rw [this,hu]
  rcases Nat.eq_zero_or_pos n with rfl | hn
  ·exact ⟨[],rfl,hl,hm,by simp,Sl.nil⟩
  ·obtain ⟨el0,_,_⟩:=h1 0 hn
   haveI:Inhabited α:=⟨el0⟩
   obtain ⟨f,hf⟩:=choose_lt h1
   obtain ⟨b,off,spot⟩:=a
   have hc0:∃ u,w.cell? (Addr.add ⟨b,off,spot⟩ (0 * sz + 0))=some u:=by
    have hl0:0 < (ec (f 0)).length:=by rw [hec];exact hsz
    exact ⟨_,(hf 0 hn).2 0 _ (List.getElem?_eq_getElem hl0)⟩
   obtain ⟨u,hu⟩:=hc0
   have hu':w.cell? ⟨b,off,spot⟩=some u:=by simpa [Addr.add] using hu
   have hspot:spot=none:=by simpa using World.cell?_spot hu'
   subst hspot
   have hb:=World.block_lt_of_cell? w _ hu'
   refine ⟨(List.range n).map f,by simp,hl,hm,?_,fun _=>⟨b,off,rfl,hb,fun i x hx j u hu=>?_⟩⟩
   ·intro el hel
    obtain ⟨i,hi,rfl⟩:=List.mem_map.1 hel
    exact (hf i (List.mem_range.1 hi)).1
   ·have hi:i < n:=by have:=(List.getElem?_eq_some_iff.1 hx).1;simpa using this
    have hx':x=f i:=by simpa [hi] using hx.symm
    subst hx'
    have:=(hf i hi).2 j u hu
    rw [Addr.add_lit,← Nat.add_assoc] at this
    exact this

theorem slice_cellx {t e:TypeId} {fuel:Nat} {v:Value} {x:DataW H × List MemPlace} (hR:P.underlying t=some (.slice e)) (ht:DataW.trod enc P w base spare held fuel t [v]=some x):∃ A n c,v=.slice A n c:=by
 rcases open_slice hR ht with ⟨hcs,_⟩ | ⟨a,len,cap,m,k,D,Pl,hcs,_⟩
 ·simp only [List.cons.injEq,and_true] at hcs;exact ⟨_,_,_,hcs⟩
 ·simp only [List.cons.injEq,and_true] at hcs;exact ⟨_,_,_,hcs⟩

structure ExTypes (P:Program) (tE tL tV tB tI:TypeId):Prop where
 ex:∃ f0 f1 f2 f3:Field,P.underlying tE=some (.struct #[f0,f1,f2,f3]) ∧ f0.offset=0 ∧ f1.offset=1 ∧ f2.offset=2 ∧ f3.offset=4 ∧ f0.type=tI ∧ f1.type=tI ∧ f2.type=tV ∧ f3.type=tL
 val:∃ f0 f1:Field,P.underlying tV=some (.struct #[f0,f1]) ∧ f0.offset=0 ∧ f1.offset=1 ∧ f0.type=tB ∧ f1.type=tI
 vL:P.underlying tL=some (.slice tE)
 vB:P.underlying tB=some .bool
 vI:P.underlying tI=some (.int .i64)
 cB:P.cellsOf tB=1
 cI:P.cellsOf tI=1
 cV:P.cellsOf tV=2
 cL:P.cellsOf tL=1
 cE:P.cellsOf tE=5

theorem exAt_uni {w:World} {B:Nat} {fs:List FE} (h:∀ f ∈ fs,∃ e n,ExAt w B n f e):∃ (es:List Ex) (n:Nat),es.length=fs.length ∧ ∀ (i:Nat) (g:FE) (x:Ex),fs[i]? = some g → es[i]? = some x → ExAt w B n g x:=by
 induction fs with
 | nil=>exact ⟨[],0,rfl,fun i g x hg=>by simp at hg⟩
 | cons f fs ih=>
   obtain ⟨e,n,he⟩:=h f (List.mem_cons_self ..)
   obtain ⟨es,m,hl,hs⟩:=ih fun g hg=>h g (List.mem_cons_of_mem _ hg)
   refine ⟨e :: es,max n m,by simp [hl],fun i g x hg hx=>?_⟩
   cases i with
   | zero=>
     simp only [List.getElem?_cons_zero,Option.some.injEq] at hg hx
     subst hg;subst hx
     exact ExAt.more _ _ _ _ (Nat.le_max_left ..) he
   | succ i=>exact ExAt.more _ _ _ _ (Nat.le_max_right ..) (hs i g x (by simpa using hg) (by simpa using hx))

theorem open_ex {tE tL tV tB tI:TypeId} (T:ExTypes P tE tL tV tB tI):∀ (n fuel:Nat) (cs:List Value) (x:DataW H × List MemPlace),SizeOf.sizeOf x.1 ≤ n → cs.length=5 → DataW.trod enc P w base spare held fuel tE cs=some x →
 ∃ f:FE,cs=feC f ∧ ∃ e k,ExAt w w.heap.size k f e:=by
 intro n
 induction n using Nat.strongRecOn with
 | _ n ih=>
   intro fuel cs x hn hl h
   obtain ⟨f0,f1,f2,f3,hu,o0,o1,o2,o3,t0,t1,t2,t3⟩:=T.ex
   obtain ⟨y0,y1,y2,y3,m,hx,_,h0,h1,h2,h3⟩:=Joins.trod_struct4 hu h
   match cs,hl with
   | [c0,c1,c2,c3,c4],_=>
     rw [t0,o0,T.cI] at h0
     rw [t1,o1,T.cI] at h1
     rw [t2,o2,T.cV] at h2
     rw [t3,o3,T.cL] at h3
     simp only [List.drop_zero,List.drop_succ_cons,List.take_succ_cons,List.take_zero] at h0 h1 h2 h3
     obtain ⟨k,hk,_,_⟩:=DataW.trod_int T.vI h0
     obtain ⟨c,hc,_,_⟩:=DataW.trod_int T.vI h1
     obtain ⟨g0,g1,hv,p0,p1,q0,q1⟩:=T.val
     obtain ⟨v,hv,_⟩:=el_bool_int hv p0 p1 (by rw [q0];exact T.cB) (by rw [q1];exact T.cI) (by rw [q0];exact T.vB) (by rw [q1];exact T.vI) _ _ _ rfl h2
     simp only [List.cons.injEq,and_true] at hk hc hv
     obtain ⟨rfl,rfl⟩:=hv
     subst hk;subst hc
     obtain ⟨A,len,cap,rfl⟩:=slice_cellx T.vL h3
     obtain ⟨fs,hfl,hlc,hcm,hg,hs⟩:=open_slx (sz:=5) (ec:=feC) (Good:=fun f=>∃ e k,ExAt w w.heap.size k f e) T.vL T.cE (by omega) feC_length (fun fuel' cs' y hy hl' h'=>ih (SizeOf.sizeOf y.1) (by
      have:SizeOf.sizeOf y3.1 < SizeOf.sizeOf x.1:=by
       rw [hx]
       simp only [DataW.agg.sizeOf_spec,List.cons.sizeOf_spec]
       omega
      omega) fuel' cs' y (Nat.le_refl _) hl' h') h3
     obtain ⟨es,d,hel,hes⟩:=exAt_uni hg
     exact ⟨⟨k,c,v,⟨A,len,cap⟩⟩,rfl,.mk k c v es,d + 1,rfl,rfl,rfl,by show len=es.length;omega,hlc,hcm,fs,by show fs.length=es.length;omega,hs,hes⟩

theorem open_exs {tE tL tV tB tI:TypeId} (T:ExTypes P tE tL tV tB tI) {fuel:Nat} {A:Option Addr} {n c:Nat} {x:DataW H × List MemPlace} (h:DataW.trod enc P w base spare held fuel tL [.slice A n c]=some x) :
 ∃ es:List Ex,es.length=n ∧ n ≤ c ∧ c ≤ maxLen ∧ ExsIn w w.heap.size A es:=by
 obtain ⟨fs,hfl,hlc,hcm,hg,hs⟩:=open_slx (sz:=5) (ec:=feC) (Good:=fun f=>∃ e k,ExAt w w.heap.size k f e) T.vL T.cE (by omega) feC_length (fun fuel' cs' y _ hl' h'=>open_ex T _ fuel' cs' y (Nat.le_refl _) hl' h') h
 obtain ⟨es,d,hel,hes⟩:=exAt_uni hg
 exact ⟨es,by omega,hlc,hcm,fs,hel.symm,hs,fun i g x hg hx=>⟨d,hes i g x hg hx⟩⟩
end
end Go.Qo
