import Derived.Test.YtcbfbgngkdiijaaGreatProg
import Derived.Test.YtcbfbgngkdiijaaGreatZvGe
import Derived.Test.YtcbfbgngkdiijaaGreatZvGg
import Derived.Test.YtcbfbgngkdiijaaGreatZvRwt
import Derived.Test.YtcbfbgngkdiijaaGreatZvGh
import Derived.Test.YtcbfbgngkdiijaaGreatZvRsx
import Derived.Test.YtcbfbgngkdiijaaGreatZvSzE
import Derived.Deep.RegionHeld3
import Derived.Test.YtcbfbgngkdiijaaGreatZvSzP
import Derived.Test.YtcbfbgngkdiijaaGreatZvArgX
set_option linter.unusedVariables false
set_option linter.unusedSimpArgs false
namespace Go.Proofs.YtcbfbgngkdiijaaGreat
open Go.RowKit Go.Qo

def SrtUpto (keys:List Key) (rows:List Row1) (k:Nat):Prop:=
 ∀ (i:Nat) (r r0:Row1),i < k → rows[i]? = some r → rows[0]? = some r0 → rowValid r=true ∧ (r.length:Int)=r0.length ∧ KeysOk r0.length keys
theorem SrtUpto.next {keys:List Key} {rows:List Row1} {k:Nat} {x r0:Row1} (h:SrtUpto keys rows k) (hx:rows[k]? = some x) (h0:rows[0]? = some r0) (hv:rowValid x=true) (hl:(x.length:Int)=r0.length) (hk:KeysOk r0.length keys):SrtUpto keys rows (k + 1):=by
 intro i r r' hi hr hr0
 rw [h0] at hr0;cases hr0
 rcases Nat.lt_succ_iff_lt_or_eq.1 hi with h3 | rfl
 ·exact h i r _ h3 hr h0
 ·rw [hx] at hr;cases hr;exact ⟨hv,hl,hk⟩
theorem SrtUpto.all {keys:List Key} {rows:List Row1} {k:Nat} (h:SrtUpto keys rows k) (hk:rows.length ≤ k) {r0:Row1} (h0:rows[0]? = some r0):AllRows r0.length rows ∧ KeysOk r0.length keys:=by
 refine ⟨fun r hr=>?_,?_⟩
 ·obtain ⟨i,hi,rfl⟩:=List.getElem_of_mem hr
  have:=h i _ r0 (by omega) (List.getElem?_eq_getElem hi) h0
  exact ⟨this.1,this.2.1⟩
 ·have hl:=(List.getElem?_eq_some_iff.1 h0).1
  exact (h 0 r0 r0 (by omega) h0 h0).2.2
end Go.Proofs.YtcbfbgngkdiijaaGreat

namespace Go.Proofs.YtcbfbgngkdiijaaGreat
open Go.RowKit Go.Qo

theorem sortStableR_ok {α:Type} (sv:α → SV) (cmp:α → α → Int) (S:α → Prop) (C:Cm cmp S) (lo g n c:Nat) (xs:List α) (v:Value) (w:World) (hx:xs.length=n) (hn:n ≤ 1048576) (hS:∀ x ∈ xs,S x)
 (hv:IsCmpG (svCell sv) cmp S w (.slice (some ⟨g,0,none⟩) n c) v) (h:OwL (svCell sv) lo g n c w xs) :
 Calls Tryz.prog 133 #[.slice (some ⟨g,0,none⟩) n c,v] w fun e w'=>e=.returned (.tuple #[]) ∧ OwL (svCell sv) lo g n c w' (gSort cmp xs) ∧ Only (fun i=>i=g) w w':=
 Rs.sortStable_ok sv cmp S C lo g n c xs v w hx hn hS hv h
end Go.Proofs.YtcbfbgngkdiijaaGreat

namespace Go.Proofs.YtcbfbgngkdiijaaGreat
open Go.RowKit Go.Qo

theorem set5o (w:World) (g o:Nat) (v0 v1 v2 v3 v4:Value):Only (fun k=>k=g) w (((((w.setCell ⟨g,o,none⟩ v0).setCell ⟨g,o + 1,none⟩ v1).setCell ⟨g,o + 2,none⟩ v2).setCell ⟨g,o + 3,none⟩ v3).setCell ⟨g,o + 4,none⟩ v4):=
 ((((((Only.refl (S:=fun k=>k=g) w).set (p:=⟨g,o,none⟩) (.inl rfl) v0).set (p:=⟨g,o + 1,none⟩) (.inl rfl) v1).set (p:=⟨g,o + 2,none⟩) (.inl rfl) v2).set (p:=⟨g,o + 3,none⟩) (.inl rfl) v3).set (p:=⟨g,o + 4,none⟩) (.inl rfl) v4)
theorem zeroExT2:(Tryz.prog.info? 87).map (fun i=>(i.zero,i.size,i.bytes))=some (some (.agg #[.int .i64 0,.int .i64 0,.bool false,.int .i64 0,.slice none 0 0]),5,56):=by kernel_rfl
def zEx:List Value:=[.int .i64 0,.int .i64 0,.bool false,.int .i64 0,.slice none 0 0]
theorem filled_set {α:Type} (enc:α → List Value) (z:List Value) (xs:List α) (k:Nat) (x:α):filled enc z (xs.set k x) k=filled enc z xs k:=by
 unfold filled
 rw [List.length_set,List.take_set_of_le (Nat.le_refl k)]

end Go.Proofs.YtcbfbgngkdiijaaGreat

namespace Go.Proofs.YtcbfbgngkdiijaaGreat
section
variable {P:Program} {l:List Oper} {Q:Exit → Act → World → Prop} {md:Region.Mode} {S:World → Prop}
theorem takeL {i:Nat} {oi:Oper} {v:Value} {fuel:Nat} {listed:Array Bool} {a:Act} {w:World} (hi:l[i]? = some oi)
 (hs:Region.noSelect l.toArray=true) (hf:Region.free md l.toArray listed i=true) (hr:(Region.ready md l.toArray listed).contains i=true)
 (hQ:∀ c a w,Q (.panic c) (a.put oi.dst v) w → Q (.panic c) a w) (hy:YieldsIf P l.toArray S oi v a) (hS:S w)
 (h:wpAnyH P md l.toArray Q S fuel (listed.setIfInBounds i true) (a.put oi.dst v) w):wpAnyH P md l.toArray Q S (fuel + 1) listed a w:=
 wpAnyH_take (by simpa using hi) hs hf hr hQ hy hS h
theorem readyL {fuel:Nat} {listed:Array Bool} {a:Act} {w:World} {i:Nat} {o:Oper} {rs:List Nat} (ho:l[i]? = some o)
 (h:∀ K':Act → World → Prop,Shut (∀ a w,S w → (S w → wpAnyH P md l.toArray Q S fuel (listed.setIfInBounds i true) a w) → K' a w) → if Region.wanted o (yielded l.toArray a.tmps)=true then Oper.wp P o a w K' Q else K' (a.put o.dst undef) w)
 (hs:AllReadyH P md l.toArray Q S fuel listed a w rs):AllReadyH P md l.toArray Q S fuel listed a w (i :: rs):=AllReadyH.cons (by simpa using ho) h hs
end
end Go.Proofs.YtcbfbgngkdiijaaGreat

namespace Go.Proofs.YtcbfbgngkdiijaaGreat
open Go.RowKit Go.Qo

theorem zeroPlT2:(Tryz.prog.info? 38).map (fun i=>(i.zero,i.size,i.bytes))=some (some (.agg #[.int .i64 0,.int .i64 0,.slice none 0 0,.slice none 0 0,.slice none 0 0]),5,88):=by kernel_rfl
def zPl:List Value:=[.int .i64 0,.int .i64 0,.slice none 0 0,.slice none 0 0,.slice none 0 0]
end Go.Proofs.YtcbfbgngkdiijaaGreat

namespace Go.Qo
open Go.RowKit Go.ChangeShapes Go.WideShapes Go.Deep

section
variable {H:Type} {enc:TypeId × Value → H} {P:Program} {w:World} {base:Nat} {spare:Nat → Bool} {held:Bool}
theorem trod_struct5 {t:TypeId} {f0 f1 f2 f3 f4:Field} {fuel:Nat} {cs:List Value} {x:DataW H × List MemPlace} (ht:P.underlying t=some (.struct #[f0,f1,f2,f3,f4])) (h:DataW.trod enc P w base spare held fuel t cs=some x) :
 ∃ y0 y1 y2 y3 y4 n,x=(.agg [y0.1,y1.1,y2.1,y3.1,y4.1],y0.2 ++ (y1.2 ++ (y2.2 ++ (y3.2 ++ y4.2)))) ∧ cs.length=P.cellsOf t ∧ DataW.trod enc P w base spare held n f0.type ((cs.drop f0.offset).take (P.cellsOf f0.type))=some y0 ∧
   DataW.trod enc P w base spare held n f1.type ((cs.drop f1.offset).take (P.cellsOf f1.type))=some y1 ∧ DataW.trod enc P w base spare held n f2.type ((cs.drop f2.offset).take (P.cellsOf f2.type))=some y2 ∧
   DataW.trod enc P w base spare held n f3.type ((cs.drop f3.offset).take (P.cellsOf f3.type))=some y3 ∧ DataW.trod enc P w base spare held n f4.type ((cs.drop f4.offset).take (P.cellsOf f4.type))=some y4:=by
 obtain ⟨xs,n,_,rfl,hl,hlen,hf⟩:=DataW.trod_struct ht h
 match xs,hlen with
 | [y0,y1,y2,y3,y4],_=>exact ⟨y0,y1,y2,y3,y4,n,by simp,hl,by simpa using hf 0 f0 rfl,by simpa using hf 1 f1 rfl,by simpa using hf 2 f2 rfl,by simpa using hf 3 f3 rfl,by simpa using hf 4 f4 rfl⟩

structure PlTypes (P:Program) (tP tQ tE tL tC tV tB tI:TypeId):Prop where
 ex:ExTypes P tE tL tV tB tI
 pl:∃ f0 f1 f2 f3 f4:Field,P.underlying tP=some (.struct #[f0,f1,f2,f3,f4]) ∧ f0.offset=0 ∧ f1.offset=1 ∧ f2.offset=2 ∧ f3.offset=3 ∧ f4.offset=4 ∧ f0.type=tI ∧ f1.type=tI ∧ f2.type=tL ∧ f3.type=tC ∧ f4.type=tQ
 vQ:P.underlying tQ=some (.slice tP)
 vC:P.underlying tC=some (.slice tI)
 cQ:P.cellsOf tQ=1
 cC:P.cellsOf tC=1
 cP:P.cellsOf tP=5

theorem plAt_more {w:World} {B:Nat}:∀ (n m:Nat) (f:FP) (p:Pl),n ≤ m → PlAt w B n f p → PlAt w B m f p
 | 0,_,_,_,_,h=>h.elim
 | n + 1,0,_,_,hm,_=>absurd hm (by omega)
 | n + 1,m + 1,f,p,hm,⟨h1,h2,h3,h4,h5,h6,h7,fs,h8,h9,h10⟩=>⟨h1,h2,h3,h4,h5,h6,h7,fs,h8,h9,fun i g x hg hx=>plAt_more n m g x (by omega) (h10 i g x hg hx)⟩
theorem plAt_uni {w:World} {B:Nat} {fs:List FP} (h:∀ f ∈ fs,∃ p n,PlAt w B n f p):∃ (ps:List Pl) (n:Nat),ps.length=fs.length ∧ ∀ (i:Nat) (g:FP) (x:Pl),fs[i]? = some g → ps[i]? = some x → PlAt w B n g x:=by
 induction fs with
 | nil=>exact ⟨[],0,rfl,fun i g x hg=>by simp at hg⟩
 | cons f fs ih=>
   obtain ⟨e,n,he⟩:=h f (List.mem_cons_self ..)
   obtain ⟨es,m,hl,hs⟩:=ih fun g hg=>h g (List.mem_cons_of_mem _ hg)
   refine ⟨e :: es,max n m,by simp [hl],fun i g x hg hx=>?_⟩
   cases i with
   | zero=>
     simp only [List.getElem?_cons_zero,Option.some.injEq] at hg hx
     subst hg;subst hx
     exact plAt_more _ _ _ _ (Nat.le_max_left ..) he
   | succ i=>exact plAt_more _ _ _ _ (Nat.le_max_right ..) (hs i g x (by simpa using hg) (by simpa using hx))
theorem el_intP {tI:TypeId} (hI:P.underlying tI=some (.int .i64)):∀ (fuel:Nat) (cs:List Value) (x:DataW H × List MemPlace),cs.length=1 → DataW.trod enc P w base spare held fuel tI cs=some x → ∃ el:Int,cs=intC el ∧ True:=by
 intro fuel cs x hl h
 match cs,hl with
 | [v],_=>
   obtain ⟨a,ha,_,wa⟩:=DataW.trod_int hI h
   simp only [List.cons.injEq,and_true] at ha
   subst ha
   exact ⟨a,rfl,trivial⟩

theorem open_pl {tP tQ tE tL tC tV tB tI:TypeId} (T:PlTypes P tP tQ tE tL tC tV tB tI):∀ (n fuel:Nat) (cs:List Value) (x:DataW H × List MemPlace),SizeOf.sizeOf x.1 ≤ n → cs.length=5 → DataW.trod enc P w base spare held fuel tP cs=some x →
 ∃ f:FP,cs=fpC f ∧ ∃ p k,PlAt w w.heap.size k f p:=by
 intro n
 induction n using Nat.strongRecOn with
 | _ n ih=>
   intro fuel cs x hn hl h
   obtain ⟨f0,f1,f2,f3,f4,hu,o0,o1,o2,o3,o4,t0,t1,t2,t3,t4⟩:=T.pl
   obtain ⟨y0,y1,y2,y3,y4,m,hx,_,h0,h1,h2,h3,h4⟩:=trod_struct5 hu h
   match cs,hl with
   | [c0,c1,c2,c3,c4],_=>
     rw [t0,o0,T.ex.cI] at h0
     rw [t1,o1,T.ex.cI] at h1
     rw [t2,o2,T.ex.cL] at h2
     rw [t3,o3,T.cC] at h3
     rw [t4,o4,T.cQ] at h4
     simp only [List.drop_zero,List.drop_succ_cons,List.take_succ_cons,List.take_zero] at h0 h1 h2 h3 h4
     obtain ⟨k,hk,_,_⟩:=DataW.trod_int T.ex.vI h0
     obtain ⟨c,hc,_,_⟩:=DataW.trod_int T.ex.vI h1
     simp only [List.cons.injEq,and_true] at hk hc
     subst hk;subst hc
     obtain ⟨A2,n2,m2,rfl⟩:=slice_cellx T.ex.vL h2
     obtain ⟨A3,n3,m3,rfl⟩:=slice_cellx T.vC h3
     obtain ⟨A4,n4,m4,rfl⟩:=slice_cellx T.vQ h4
     obtain ⟨es,e1,e2,e3,e4⟩:=open_exs T.ex h2
     obtain ⟨xs,i1,i2,i3,_,i4⟩:=open_sl (sz:=1) (ec:=intC) (Good:=fun _=>True) T.vC T.ex.cI (by omega) intC_length (el_intP T.ex.vI) h3
     obtain ⟨fs,hfl,hlc,hcm,hg,hs⟩:=open_slx (sz:=5) (ec:=fpC) (Good:=fun f=>∃ p k,PlAt w w.heap.size k f p) T.vQ T.cP (by omega) fpC_length (fun fuel' cs' y hy hl' h'=>ih (SizeOf.sizeOf y.1) (by
      have:SizeOf.sizeOf y4.1 < SizeOf.sizeOf x.1:=by
       rw [hx]
       simp only [DataW.agg.sizeOf_spec,List.cons.sizeOf_spec]
       omega
      omega) fuel' cs' y (Nat.le_refl _) hl' h') h4
     obtain ⟨ps,d,hel,hps⟩:=plAt_uni hg
     exact ⟨⟨k,c,⟨A2,n2,m2⟩,⟨A3,n3,m3⟩,⟨A4,n4,m4⟩⟩,rfl,.mk k c es xs ps,d + 1,rfl,rfl,⟨e1.symm,e2,e3⟩,⟨i1.symm,i2,i3⟩,⟨by show n4=ps.length;omega,hlc,hcm⟩,e4,i4,fs,by show fs.length=ps.length;omega,hs,hps⟩
end
end Go.Qo
