import Derived.Test.YtcbfbgngkdiijaaGreatZvPls
import Derived.Test.YtcbfbgngkdiijaaGreatZvPln
import Derived.Test.YtcbfbgngkdiijaaGreatProg
import Derived.Test.YtcbfbgngkdiijaaGreatZvGe
import Derived.Test.YtcbfbgngkdiijaaGreatZvRgG
import Derived.Test.YtcbfbgngkdiijaaGreatZvGe
import Derived.Deep.DeepCutAuto
namespace Go.Qo
open Go.RowKit
set_option linter.unusedVariables false
set_option linter.unusedSimpArgs false

def SlS {α:Type} (S:Nat → Prop) (sz:Nat) (enc:α → List Value) (w:World) (A:Option Addr) (xs:List α):Prop:=
 0 < xs.length → ∃ b off,A=some ⟨b,off,none⟩ ∧ S b ∧ b < w.heap.size ∧ ∀ i x,xs[i]? = some x → ∀ j u,(enc x)[j]? = some u → w.cell? ⟨b,off + i * sz + j,none⟩=some u
section
variable {α:Type} {S T:Nat → Prop} {sz:Nat} {enc:α → List Value} {w w':World} {A:Option Addr} {xs:List α}
theorem SlS.nil:SlS S sz enc w A []:=fun h=>absurd h (by simp)
theorem SlS.sl (h:SlS S sz enc w A xs):Sl sz enc w w.heap.size A xs:=fun h0=>by
 obtain ⟨b,off,hA,_,hB,hc⟩:=h h0
 exact ⟨b,off,hA,hB,hc⟩
theorem SlS.mono (h:SlS S sz enc w A xs) (hST:∀ b,b < w.heap.size → S b → T b):SlS T sz enc w A xs:=fun h0=>by
 obtain ⟨b,off,hA,hS,hB,hc⟩:=h h0
 exact ⟨b,off,hA,hST b hB hS,hB,hc⟩
theorem SlS.keep (h:SlS S sz enc w A xs) (hs:w.heap.size ≤ w'.heap.size) (hk:∀ b,S b → b < w.heap.size → w'.heap[b]? = w.heap[b]?):SlS S sz enc w' A xs:=fun h0=>by
 obtain ⟨b,off,hA,hS,hB,hc⟩:=h h0
 exact ⟨b,off,hA,hS,by omega,fun i x hx j u hu=>(World.cell?_of_block (w:=w) (a:=⟨b,_,none⟩) (hk b hS hB)).trans (hc i x hx j u hu)⟩
theorem SlS.of_ow {lo:Nat} {e:TypeId} {n c:Nat} (he:∀ x,(enc x).length=sz) (h:Ow lo e sz enc w (.slice A n c) xs):SlS (fun b=>lo ≤ b) sz enc w A xs:=fun h0=>by
 obtain ⟨A',c',hv,_,_,hs⟩:=h.shape he
 cases hv
 obtain ⟨b,off,hA,h1,h2,_,h4⟩:=hs h0
 exact ⟨b,off,hA,h1,h2,h4⟩
end
theorem uni {α β:Type} (R:Nat → α → β → Prop) (hm:∀ n m a b,n ≤ m → R n a b → R m a b):∀ (fs:List α) (es:List β),(∀ (i:Nat) (g:α) (x:β),fs[i]? = some g → es[i]? = some x → ∃ n,R n g x) → ∃ n,∀ (i:Nat) (g:α) (x:β),fs[i]? = some g → es[i]? = some x → R n g x
 | [],_,_=>⟨0,fun i g x h _=>by simp at h⟩
 | _ :: _,[],_=>⟨0,fun i g x _ h=>by simp at h⟩
 | f :: fs,e :: es,h=>by
   obtain ⟨n,hn⟩:=uni R hm fs es fun i g x hg hx=>h (i + 1) g x (by simpa using hg) (by simpa using hx)
   obtain ⟨m,hm'⟩:=h 0 f e rfl rfl
   refine ⟨n + m,fun i g x hg hx=>?_⟩
   cases i with
   | zero=>
     simp at hg hx
     subst hg hx
     exact hm _ _ _ _ (by omega) hm'
   | succ i=>exact hm _ _ _ _ (by omega) (hn i g x (by simpa using hg) (by simpa using hx))

def ExS (S:Nat → Prop) (w:World):Nat → FE → Ex → Prop
 | 0,_,_=>False
 | n + 1,f,e=>f.kind=e.kind ∧ f.col=e.col ∧ f.val=e.val ∧ f.sv.n=e.kids.length ∧ f.sv.n ≤ f.sv.c ∧ f.sv.c ≤ maxLen ∧ e.kids.length ≤ 1048576 ∧
     ∃ fs:List FE,fs.length=e.kids.length ∧ SlS S 5 feC w f.sv.A fs ∧ ∀ (i:Nat) (g:FE) (x:Ex),fs[i]? = some g → e.kids[i]? = some x → ExS S w n g x
section
variable {S T:Nat → Prop} {w w':World}
theorem ExS.more:∀ (n m:Nat) (f:FE) (e:Ex),n ≤ m → ExS S w n f e → ExS S w m f e
 | 0,_,_,_,_,h=>h.elim
 | n + 1,0,_,_,hm,_=>absurd hm (by omega)
 | n + 1,m + 1,f,e,hm,⟨h1,h2,h3,h4,h5,h6,hb,fs,h7,h8,h9⟩=>⟨h1,h2,h3,h4,h5,h6,hb,fs,h7,h8,fun i g x hg hx=>ExS.more n m g x (by omega) (h9 i g x hg hx)⟩
theorem ExS.map (hf:∀ A (fs:List FE),SlS S 5 feC w A fs → SlS T 5 feC w' A fs):∀ (n:Nat) (f:FE) (e:Ex),ExS S w n f e → ExS T w' n f e
 | 0,_,_,h=>h.elim
 | n + 1,f,e,⟨h1,h2,h3,h4,h5,h6,hb,fs,h7,h8,h9⟩=>⟨h1,h2,h3,h4,h5,h6,hb,fs,h7,hf _ _ h8,fun i g x hg hx=>ExS.map hf n g x (h9 i g x hg hx)⟩
theorem ExS.at_:∀ (n:Nat) (f:FE) (e:Ex),ExS S w n f e → ExAt w w.heap.size n f e
 | 0,_,_,h=>h.elim
 | n + 1,f,e,⟨h1,h2,h3,h4,h5,h6,hb,fs,h7,h8,h9⟩=>⟨h1,h2,h3,h4,h5,h6,fs,h7,h8.sl,fun i g x hg hx=>ExS.at_ n g x (h9 i g x hg hx)⟩
def ExT (S:Nat → Prop) (w:World) (f:FE) (e:Ex):Prop:=∃ n,ExS S w n f e
theorem ExT.in_ {f:FE} {e:Ex} (h:ExT S w f e):ExIn w w.heap.size f e:=h.imp fun _ h=>h.at_
theorem ExT.mono {f:FE} {e:Ex} (h:ExT S w f e) (hST:∀ b,b < w.heap.size → S b → T b):ExT T w f e:=h.imp fun _ h=>ExS.map (fun _ _ h=>h.mono hST) _ _ _ h
theorem ExT.keep {f:FE} {e:Ex} (h:ExT S w f e) (hs:w.heap.size ≤ w'.heap.size) (hk:∀ b,S b → b < w.heap.size → w'.heap[b]? = w.heap[b]?):ExT S w' f e:=h.imp fun _ h=>ExS.map (fun _ _ h=>h.keep hs hk) _ _ _ h
def ExsT (S:Nat → Prop) (w:World) (A:Option Addr) (es:List Ex):Prop:=
 ∃ fs:List FE,fs.length=es.length ∧ SlS S 5 feC w A fs ∧ ∀ (i:Nat) (g:FE) (x:Ex),fs[i]? = some g → es[i]? = some x → ExT S w g x
theorem ExsT.in_ {A:Option Addr} {es:List Ex} (h:ExsT S w A es):ExsIn w w.heap.size A es:=by
 obtain ⟨fs,h1,h2,h3⟩:=h
 exact ⟨fs,h1,h2.sl,fun i g x hg hx=>(h3 i g x hg hx).in_⟩
theorem ExsT.mono {A:Option Addr} {es:List Ex} (h:ExsT S w A es) (hST:∀ b,b < w.heap.size → S b → T b):ExsT T w A es:=by
 obtain ⟨fs,h1,h2,h3⟩:=h
 exact ⟨fs,h1,h2.mono hST,fun i g x hg hx=>(h3 i g x hg hx).mono hST⟩
theorem ExsT.keep {A:Option Addr} {es:List Ex} (h:ExsT S w A es) (hs:w.heap.size ≤ w'.heap.size) (hk:∀ b,S b → b < w.heap.size → w'.heap[b]? = w.heap[b]?):ExsT S w' A es:=by
 obtain ⟨fs,h1,h2,h3⟩:=h
 exact ⟨fs,h1,h2.keep hs hk,fun i g x hg hx=>(h3 i g x hg hx).keep hs hk⟩
theorem ExsT.nil {A:Option Addr}:ExsT S w A []:=⟨[],rfl,SlS.nil,fun i g x h _=>by simp at h⟩
theorem ExT.make {k c:Int} {v:Val} {A:Option Addr} {n cap:Nat} {es:List Ex} (h:ExsT S w A es) (hn:n=es.length) (h1:n ≤ cap) (h2:cap ≤ maxLen) (h3:es.length ≤ 1048576:=by first | decide | simp | omega):ExT S w ⟨k,c,v,⟨A,n,cap⟩⟩ (.mk k c v es):=by
 obtain ⟨fs,e1,e2,e3⟩:=h
 obtain ⟨m,hm⟩:=uni (ExS S w) (fun n m f e=>ExS.more n m f e) fs es fun i g x hg hx=>e3 i g x hg hx
 exact ⟨m + 1,rfl,rfl,rfl,hn,h1,h2,h3,fs,e1,e2,hm⟩
theorem ExT.flat {f:FE} {e:Ex} (h:ExT S w f e):f.sv.n=e.kids.length ∧ f.sv.n ≤ f.sv.c ∧ f.sv.c ≤ maxLen ∧ ExsT S w f.sv.A e.kids:=by
 obtain ⟨n,h⟩:=h
 cases n with
 | zero=>exact h.elim
 | succ n=>
   obtain ⟨h1,h2,h3,h4,h5,h6,hb,fs,h7,h8,h9⟩:=h
   exact ⟨h4,h5,h6,fs,h7,h8,fun i g x hg hx=>⟨n,h9 i g x hg hx⟩⟩
end

def PlS (S:Nat → Prop) (w:World):Nat → FP → Pl → Prop
 | 0,_,_=>False
 | n + 1,f,p=>f.kind=p.kind ∧ f.table=p.table ∧ SVok f.es p.exprs.length ∧ SVok f.cs p.cols.length ∧ SVok f.ks p.kids.length ∧ ExsT S w f.es.A p.exprs ∧ SlS S 1 intC w f.cs.A p.cols ∧ (p.exprs.length ≤ 1048576 ∧ p.cols.length ≤ 1048576 ∧ p.kids.length ≤ 1048576) ∧
     ∃ fs:List FP,fs.length=p.kids.length ∧ SlS S 5 fpC w f.ks.A fs ∧ ∀ (i:Nat) (g:FP) (x:Pl),fs[i]? = some g → p.kids[i]? = some x → PlS S w n g x
section
variable {S T:Nat → Prop} {w w':World}
theorem PlS.more:∀ (n m:Nat) (f:FP) (p:Pl),n ≤ m → PlS S w n f p → PlS S w m f p
 | 0,_,_,_,_,h=>h.elim
 | n + 1,0,_,_,hm,_=>absurd hm (by omega)
 | n + 1,m + 1,f,p,hm,⟨h1,h2,h3,h4,h5,h6,h7,hb,fs,h8,h9,h10⟩=>⟨h1,h2,h3,h4,h5,h6,h7,hb,fs,h8,h9,fun i g x hg hx=>PlS.more n m g x (by omega) (h10 i g x hg hx)⟩
theorem PlS.map (hs:∀ A (es:List Ex),ExsT S w A es → ExsT T w' A es) (hi:∀ A (cs:List Int),SlS S 1 intC w A cs → SlS T 1 intC w' A cs) (hf:∀ A (fs:List FP),SlS S 5 fpC w A fs → SlS T 5 fpC w' A fs):∀ (n:Nat) (f:FP) (p:Pl),PlS S w n f p → PlS T w' n f p
 | 0,_,_,h=>h.elim
 | n + 1,f,p,⟨h1,h2,h3,h4,h5,h6,h7,hb,fs,h8,h9,h10⟩=>⟨h1,h2,h3,h4,h5,hs _ _ h6,hi _ _ h7,hb,fs,h8,hf _ _ h9,fun i g x hg hx=>PlS.map hs hi hf n g x (h10 i g x hg hx)⟩
theorem PlS.at_:∀ (n:Nat) (f:FP) (p:Pl),PlS S w n f p → PlAt w w.heap.size n f p
 | 0,_,_,h=>h.elim
 | n + 1,f,p,⟨h1,h2,h3,h4,h5,h6,h7,hb,fs,h8,h9,h10⟩=>⟨h1,h2,h3,h4,h5,h6.in_,h7.sl,fs,h8,h9.sl,fun i g x hg hx=>PlS.at_ n g x (h10 i g x hg hx)⟩
def PlT (S:Nat → Prop) (w:World) (f:FP) (p:Pl):Prop:=∃ n,PlS S w n f p
theorem PlT.in_ {f:FP} {p:Pl} (h:PlT S w f p):PlIn w w.heap.size f p:=h.imp fun _ h=>h.at_
theorem PlT.mono {f:FP} {p:Pl} (h:PlT S w f p) (hST:∀ b,b < w.heap.size → S b → T b):PlT T w f p:=h.imp fun _ h=>PlS.map (fun _ _ h=>h.mono hST) (fun _ _ h=>h.mono hST) (fun _ _ h=>h.mono hST) _ _ _ h
theorem PlT.keep {f:FP} {p:Pl} (h:PlT S w f p) (hs:w.heap.size ≤ w'.heap.size) (hk:∀ b,S b → b < w.heap.size → w'.heap[b]? = w.heap[b]?):PlT S w' f p:=h.imp fun _ h=>PlS.map (fun _ _ h=>h.keep hs hk) (fun _ _ h=>h.keep hs hk) (fun _ _ h=>h.keep hs hk) _ _ _ h
def PlsT (S:Nat → Prop) (w:World) (A:Option Addr) (ps:List Pl):Prop:=
 ∃ fs:List FP,fs.length=ps.length ∧ SlS S 5 fpC w A fs ∧ ∀ (i:Nat) (g:FP) (x:Pl),fs[i]? = some g → ps[i]? = some x → PlT S w g x
theorem PlsT.nil {A:Option Addr}:PlsT S w A []:=⟨[],rfl,SlS.nil,fun i g x h _=>by simp at h⟩
theorem PlT.make {k t:Int} {es cs ks:SV} {xs:List Ex} {cols:List Int} {ps:List Pl} (h1:SVok es xs.length) (h2:SVok cs cols.length) (h3:SVok ks ps.length) (h4:ExsT S w es.A xs) (h5:SlS S 1 intC w cs.A cols) (h6:PlsT S w ks.A ps) (h7:xs.length ≤ 1048576:=by first | decide | simp | omega) (h8:cols.length ≤ 1048576:=by first | decide | simp | omega) (h9:ps.length ≤ 1048576:=by first | decide | simp | omega) :
 PlT S w ⟨k,t,es,cs,ks⟩ (.mk k t xs cols ps):=by
 obtain ⟨fs,e1,e2,e3⟩:=h6
 obtain ⟨m,hm⟩:=uni (PlS S w) (fun n m f e=>PlS.more n m f e) fs ps fun i g x hg hx=>e3 i g x hg hx
 exact ⟨m + 1,rfl,rfl,h1,h2,h3,h4,h5,⟨h7,h8,h9⟩,fs,e1,e2,hm⟩
theorem PlT.flat {f:FP} {p:Pl} (h:PlT S w f p):f.kind=p.kind ∧ f.table=p.table ∧ SVok f.es p.exprs.length ∧ SVok f.cs p.cols.length ∧ SVok f.ks p.kids.length ∧ ExsT S w f.es.A p.exprs ∧ SlS S 1 intC w f.cs.A p.cols ∧ PlsT S w f.ks.A p.kids:=by
 obtain ⟨n,h⟩:=h
 cases n with
 | zero=>exact h.elim
 | succ n=>
   obtain ⟨h1,h2,h3,h4,h5,h6,h7,hb,fs,h8,h9,h10⟩:=h
   exact ⟨h1,h2,h3,h4,h5,h6,h7,fs,h8,h9,fun i g x hg hx=>⟨n,h10 i g x hg hx⟩⟩
theorem SVok.nil:SVok ⟨none,0,0⟩ 0:=⟨rfl,Nat.le_refl _,by decide⟩
theorem SVok.lit {A:Option Addr} {n:Nat} (h:n ≤ maxLen):SVok ⟨A,n,n⟩ n:=⟨rfl,Nat.le_refl _,h⟩
end
inductive ExB:Ex → Prop where
 | mk {e:Ex} (h:e.kids.length ≤ 1048576) (hk:∀ x,x ∈ e.kids → ExB x):ExB e
theorem ExB.len {e:Ex} (h:ExB e):e.kids.length ≤ 1048576:=by cases h with | mk h _=>exact h
theorem ExB.kid {e x:Ex} (h:ExB e) (hx:x ∈ e.kids):ExB x:=by cases h with | mk _ hk=>exact hk x hx
inductive PlB:Pl → Prop where
 | mk {p:Pl} (h1:p.exprs.length ≤ 1048576) (h2:p.cols.length ≤ 1048576) (h3:p.kids.length ≤ 1048576) (he:∀ x,x ∈ p.exprs → ExB x) (hk:∀ x,x ∈ p.kids → PlB x):PlB p
theorem PlB.all {p:Pl} (h:PlB p):(p.exprs.length ≤ 1048576 ∧ p.cols.length ≤ 1048576 ∧ p.kids.length ≤ 1048576) ∧ (∀ x ∈ p.exprs,ExB x) ∧ ∀ x ∈ p.kids,PlB x:=by cases h with | mk h1 h2 h3 he hk=>exact ⟨⟨h1,h2,h3⟩,he,hk⟩
end Go.Qo

namespace Go.Qo
open Go.RowKit
set_option linter.unusedVariables false
set_option linter.unusedSimpArgs false

end Go.Qo

namespace Go.Proofs.YtcbfbgngkdiijaaGreat
open Go.RowKit Go.Qo
set_option linter.unusedVariables false
set_option linter.unusedSimpArgs false

def Kds (lo:Nat) (w:World) (v:Value) (es:List Ex):Prop:=
 ∃ fs:List FE,fs.length=es.length ∧ Ow lo 87 5 feC w v fs ∧ ∀ (i:Nat) (g:FE) (x:Ex),fs[i]? = some g → es[i]? = some x → ExT (fun k=>lo ≤ k ∧ v.ownBlock ≠ some k) w g x
theorem Kds.nil {lo:Nat} {w:World}:Kds lo w (.slice none 0 0) []:=⟨[],rfl,Ow.nil,fun i g x h _=>by simp at h⟩
theorem Kds.only {lo:Nat} {w w':World} {v:Value} {es:List Ex} {S:Nat → Prop} (h:Kds lo w v es) (k:Only S w w') (hS:∀ i,S i → i < lo):Kds lo w' v es:=by
 obtain ⟨fs,h1,h2,h3⟩:=h
 exact ⟨fs,h1,h2.only k fun i hi=>.inl (hS i hi),fun i g x hg hx=>(h3 i g x hg hx).keep k.size fun c hc hl=>k.block c hl fun hs=>by have:=hS c hs;omega⟩
theorem Kds.shape {lo:Nat} {w:World} {v:Value} {es:List Ex} (h:Kds lo w v es):∃ A c,v=.slice A es.length c ∧ es.length ≤ c ∧ c ≤ maxLen:=by
 obtain ⟨fs,h1,h2,h3⟩:=h
 obtain ⟨A,c,hv,h4,h5,_⟩:=h2.shape feC_length
 exact ⟨A,c,by rw [hv,h1],by omega,h5⟩
theorem Kds.snoc {lo:Nat} {w w':World} {v v':Value} {es:List Ex} {fs:List FE} {f:FE} {x:Ex} (hl:fs.length=es.length)
 (h3:∀ (i:Nat) (g:FE) (x:Ex),fs[i]? = some g → es[i]? = some x → ExT (fun k=>lo ≤ k ∧ v.ownBlock ≠ some k) w g x) (hx:ExT (fun k=>lo ≤ k ∧ v.ownBlock ≠ some k) w f x)
 (how:Ow lo 87 5 feC w' v' (fs ++ [f])) (hgr:w.grownBy w' v.ownBlock) (hob:v'.ownBlock=v.ownBlock ∨ v'.ownBlock=some w.heap.size):Kds lo w' v' (es ++ [x]):=by
 have key:∀ (g:FE) (y:Ex),ExT (fun k=>lo ≤ k ∧ v.ownBlock ≠ some k) w g y → ExT (fun k=>lo ≤ k ∧ v'.ownBlock ≠ some k) w' g y:=fun g y h=>by
  have h':ExT (fun k=>lo ≤ k ∧ v.ownBlock ≠ some k ∧ k < w.heap.size) w g y:=h.mono fun b hb hk=>⟨hk.1,hk.2,hb⟩
  refine (h'.keep hgr.size fun c hc hl=>hgr.block c hl fun e=>hc.2.1 e.symm).mono fun c _ hc=>⟨hc.1,?_⟩
  rcases hob with e | e
  ·rw [e];exact hc.2.1
  ·rw [e];intro e';have:=Option.some.inj e';omega
 refine ⟨fs ++ [f],by simp [hl],how,fun i g y hg hy=>?_⟩
 by_cases hi:i < fs.length
 ·rw [List.getElem?_append_left hi] at hg
  rw [List.getElem?_append_left (by omega)] at hy
  exact key g y (h3 i g y hg hy)
 ·rw [List.getElem?_append_right (by omega)] at hg
  rw [List.getElem?_append_right (by omega)] at hy
  have h0:i - fs.length=0:=by
   have:=(List.getElem?_eq_some_iff.1 hg).1
   simp at this
   omega
  rw [h0] at hg
  rw [← hl,h0] at hy
  simp at hg hy
  subst hg hy
  exact key _ _ hx
end Go.Proofs.YtcbfbgngkdiijaaGreat

namespace Go.Proofs.YtcbfbgngkdiijaaGreat
open Go.RowKit Go.Qo
set_option linter.unusedVariables false
set_option linter.unusedSimpArgs false

theorem PlsT.mono {S T:Nat → Prop} {w:World} {A:Option Addr} {ps:List Pl} (h:PlsT S w A ps) (hST:∀ b,b < w.heap.size → S b → T b):PlsT T w A ps:=by
 obtain ⟨fs,h1,h2,h3⟩:=h
 exact ⟨fs,h1,h2.mono hST,fun i g x hg hx=>(h3 i g x hg hx).mono hST⟩
theorem PlsT.keep {S:Nat → Prop} {w w':World} {A:Option Addr} {ps:List Pl} (h:PlsT S w A ps) (hs:w.heap.size ≤ w'.heap.size) (hk:∀ b,S b → b < w.heap.size → w'.heap[b]? = w.heap[b]?):PlsT S w' A ps:=by
 obtain ⟨fs,h1,h2,h3⟩:=h
 exact ⟨fs,h1,h2.keep hs hk,fun i g x hg hx=>(h3 i g x hg hx).keep hs hk⟩
def KdsP (lo:Nat) (w:World) (v:Value) (es:List Pl):Prop:=
 ∃ fs:List FP,fs.length=es.length ∧ Ow lo 38 5 fpC w v fs ∧ ∀ (i:Nat) (g:FP) (x:Pl),fs[i]? = some g → es[i]? = some x → PlT (fun k=>lo ≤ k ∧ v.ownBlock ≠ some k) w g x
theorem KdsP.nil {lo:Nat} {w:World}:KdsP lo w (.slice none 0 0) []:=⟨[],rfl,Ow.nil,fun i g x h _=>by simp at h⟩
theorem KdsP.only {lo:Nat} {w w':World} {v:Value} {es:List Pl} {S:Nat → Prop} (h:KdsP lo w v es) (k:Only S w w') (hS:∀ i,S i → i < lo):KdsP lo w' v es:=by
 obtain ⟨fs,h1,h2,h3⟩:=h
 exact ⟨fs,h1,h2.only k fun i hi=>.inl (hS i hi),fun i g x hg hx=>(h3 i g x hg hx).keep k.size fun c hc hl=>k.block c hl fun hs=>by have:=hS c hs;omega⟩
theorem KdsP.shape {lo:Nat} {w:World} {v:Value} {es:List Pl} (h:KdsP lo w v es):∃ A c,v=.slice A es.length c ∧ es.length ≤ c ∧ c ≤ maxLen:=by
 obtain ⟨fs,h1,h2,h3⟩:=h
 obtain ⟨A,c,hv,h4,h5,_⟩:=h2.shape fpC_length
 exact ⟨A,c,by rw [hv,h1],by omega,h5⟩
theorem KdsP.snoc {lo:Nat} {w w':World} {v v':Value} {es:List Pl} {fs:List FP} {f:FP} {x:Pl} (hl:fs.length=es.length)
 (h3:∀ (i:Nat) (g:FP) (x:Pl),fs[i]? = some g → es[i]? = some x → PlT (fun k=>lo ≤ k ∧ v.ownBlock ≠ some k) w g x) (hx:PlT (fun k=>lo ≤ k ∧ v.ownBlock ≠ some k) w f x)
 (how:Ow lo 38 5 fpC w' v' (fs ++ [f])) (hgr:w.grownBy w' v.ownBlock) (hob:v'.ownBlock=v.ownBlock ∨ v'.ownBlock=some w.heap.size):KdsP lo w' v' (es ++ [x]):=by
 have key:∀ (g:FP) (y:Pl),PlT (fun k=>lo ≤ k ∧ v.ownBlock ≠ some k) w g y → PlT (fun k=>lo ≤ k ∧ v'.ownBlock ≠ some k) w' g y:=fun g y h=>by
  have h':PlT (fun k=>lo ≤ k ∧ v.ownBlock ≠ some k ∧ k < w.heap.size) w g y:=h.mono fun b hb hk=>⟨hk.1,hk.2,hb⟩
  refine (h'.keep hgr.size fun c hc hl=>hgr.block c hl fun e=>hc.2.1 e.symm).mono fun c _ hc=>⟨hc.1,?_⟩
  rcases hob with e | e
  ·rw [e];exact hc.2.1
  ·rw [e];intro e';have:=Option.some.inj e';omega
 refine ⟨fs ++ [f],by simp [hl],how,fun i g y hg hy=>?_⟩
 by_cases hi:i < fs.length
 ·rw [List.getElem?_append_left hi] at hg
  rw [List.getElem?_append_left (by omega)] at hy
  exact key g y (h3 i g y hg hy)
 ·rw [List.getElem?_append_right (by omega)] at hg
  rw [List.getElem?_append_right (by omega)] at hy
  have h0:i - fs.length=0:=by
   have:=(List.getElem?_eq_some_iff.1 hg).1
   simp at this
   omega
  rw [h0] at hg
  rw [← hl,h0] at hy
  simp at hg hy
  subst hg hy
  exact key _ _ hx
end Go.Proofs.YtcbfbgngkdiijaaGreat

namespace Go.Proofs.YtcbfbgngkdiijaaGreat
open Go.RowKit Go.Qo
set_option linter.unusedVariables false
set_option linter.unusedSimpArgs false

end Go.Proofs.YtcbfbgngkdiijaaGreat

namespace Go.Proofs.YtcbfbgngkdiijaaGreat
open Go.RowKit Go.Qo
set_option linter.unusedVariables false
set_option linter.unusedSimpArgs false

end Go.Proofs.YtcbfbgngkdiijaaGreat

namespace Go.Proofs.YtcbfbgngkdiijaaGreat
open Go.RowKit Go.Qo
set_option linter.unusedVariables false
set_option linter.unusedSimpArgs false

end Go.Proofs.YtcbfbgngkdiijaaGreat
