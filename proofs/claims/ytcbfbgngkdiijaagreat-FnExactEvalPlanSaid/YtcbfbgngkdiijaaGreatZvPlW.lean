import Derived.Test.YtcbfbgngkdiijaaGreatZvExW
namespace Go.Qo
open Go.RowKit
set_option linter.unusedVariables false
set_option linter.unusedSimpArgs false

def svV (s:SV):Value:=.slice s.A s.n s.c
def ExsW (ty:TypeId) (w:World) (S:Nat → Prop) (s:SV) (es:List Ex):Prop:=
 s.n=es.length ∧ ∃ fs:List FE,fs.length=es.length ∧ Ow 0 ty 5 feC w (svV s) fs ∧ (∀ b,(svV s).ownBlock=some b → S b) ∧ KidsW ty w (fun b=>S b ∧ (svV s).ownBlock ≠ some b) fs es
def IntW (ty:TypeId) (w:World) (S:Nat → Prop) (s:SV) (cs:List Int):Prop:=
 s.n=cs.length ∧ Ow 0 ty 1 intC w (svV s) cs ∧ ∀ b,(svV s).ownBlock=some b → S b
section
variable {ty:TypeId} {w w':World} {S T:Nat → Prop}
theorem ExsW.carry {s:SV} {es:List Ex} (h:ExsW ty w S s es) (hST:∀ b,b < w.heap.size → S b → T b) (hk:∀ b,S b → b < w.heap.size → w'.heap[b]? = w.heap[b]?):ExsW ty w' T s es:=by
 obtain ⟨h1,fs,h3,h4,h5,h6⟩:=h
 exact ⟨h1,fs,h3,h4.keepOwn fun b hb=>hk b (h5 b hb) (h4.ty b hb).2.1,fun b hb=>hST b (h4.ty b hb).2.1 (h5 b hb),KidsW.carry (fun x _ S T f hST hk h=>ExW.carry x S T f hST hk h) _ _ fs (fun b hb hS=>⟨hST b hb hS.1,hS.2⟩) (fun b hb hl=>hk b hb.1 hl) h6⟩
theorem IntW.carry {s:SV} {cs:List Int} (h:IntW ty w S s cs) (hST:∀ b,b < w.heap.size → S b → T b) (hk:∀ b,S b → b < w.heap.size → w'.heap[b]? = w.heap[b]?):IntW ty w' T s cs:=
 ⟨h.1,h.2.1.keepOwn fun b hb=>hk b (h.2.2 b hb) (h.2.1.ty b hb).2.1,fun b hb=>hST b (h.2.1.ty b hb).2.1 (h.2.2 b hb)⟩
theorem ExsW.nil:ExsW ty w S ⟨none,0,0⟩ []:=⟨rfl,[],rfl,Ow.nil,(fun b hb=>by cases hb),by rw [KidsW]⟩
theorem IntW.nil:IntW ty w S ⟨none,0,0⟩ []:=⟨rfl,Ow.nil,fun b hb=>by cases hb⟩
theorem ExsW.ext {s:SV} {es:List Ex} (h:ExsW ty w S s es):SVok s es.length ∧ ExsT S w s.A es:=by
 obtain ⟨h1,fs,h3,h4,h5,h6⟩:=h
 obtain ⟨A,c,hv,hc1,hc2,_⟩:=Ow.shape feC_length h4
 unfold svV at hv
 injection hv with hA hn hc
 refine ⟨⟨h1,by omega,by omega⟩,fs,h3,slS_ow feC_length h4 h5,fun i g x hg hx=>(ExW.ext x _ g (h6.get i g x hg hx)).mono fun b _ hb=>hb.1⟩
theorem IntW.ext {s:SV} {cs:List Int} (h:IntW ty w S s cs):SVok s cs.length ∧ SlS S 1 intC w s.A cs:=by
 obtain ⟨h1,h4,h5⟩:=h
 obtain ⟨A,c,hv,hc1,hc2,_⟩:=Ow.shape intC_length h4
 unfold svV at hv
 injection hv with hA hn hc
 exact ⟨⟨h1,by omega,by omega⟩,slS_ow intC_length h4 h5⟩
theorem ExsW.of {lo z:Nat} {A:Option Addr} {n c:Nat} {es:List Ex} (h:KdsW ty lo z w (.slice A n c) es) (hS:∀ b,b < w.heap.size → lo ≤ b → S b):ExsW ty w S ⟨A,n,c⟩ es:=by
 obtain ⟨fs,h1,h2,h4⟩:=h
 obtain ⟨A',c',hv,_⟩:=h2.shape feC_length
 cases hv
 exact ⟨h1,fs,h1,h2.low (Nat.zero_le _),fun b hb=>hS b (h2.ty b hb).2.1 (h2.ty b hb).1,h4.mono fun b hl hb=>⟨hS b hl hb.1,hb.2.2⟩⟩
theorem IntW.of {lo:Nat} {A:Option Addr} {n c:Nat} {cs:List Int} (h:Ow lo ty 1 intC w (.slice A n c) cs) (hS:∀ b,b < w.heap.size → lo ≤ b → S b):IntW ty w S ⟨A,n,c⟩ cs:=by
 obtain ⟨A',c',hv,_⟩:=h.shape intC_length
 cases hv
 exact ⟨rfl,h.low (Nat.zero_le _),fun b hb=>hS b (h.ty b hb).2.1 (h.ty b hb).1⟩
end

mutual
def PlW (tE tI tP:TypeId) (w:World):(Nat → Prop) → FP → Pl → Prop
 | S,f,.mk k t es cs ks=>f.kind=k ∧ f.table=t ∧ ∃ SE SC SK:Nat → Prop,((∀ b,SE b → S b) ∧ (∀ b,SC b → S b) ∧ ∀ b,SK b → S b) ∧ ((∀ b,SE b → ¬ SC b) ∧ (∀ b,SE b → ¬ SK b) ∧ ∀ b,SC b → ¬ SK b) ∧
  ExsW tE w SE f.es es ∧ IntW tI w SC f.cs cs ∧ f.ks.n=ks.length ∧ ∃ fs:List FP,fs.length=ks.length ∧ Ow 0 tP 5 fpC w (svV f.ks) fs ∧ (∀ b,(svV f.ks).ownBlock=some b → SK b) ∧ PkidsW tE tI tP w (fun b=>SK b ∧ (svV f.ks).ownBlock ≠ some b) fs ks
def PkidsW (tE tI tP:TypeId) (w:World):(Nat → Prop) → List FP → List Pl → Prop
 | _,fs,[]=>fs=[]
 | S,fs,x :: xs=>∃ (f:FP) (fs':List FP) (T:Nat → Prop),fs=f :: fs' ∧ (∀ b,T b → S b) ∧ PlW tE tI tP w T f x ∧ PkidsW tE tI tP w (fun b=>S b ∧ ¬ T b) fs' xs
end
section
variable {tE tI tP:TypeId} {w w':World}
theorem plW_iff {S:Nat → Prop} {f:FP} {p:Pl}:PlW tE tI tP w S f p ↔ f.kind=p.kind ∧ f.table=p.table ∧ ∃ SE SC SK:Nat → Prop,((∀ b,SE b → S b) ∧ (∀ b,SC b → S b) ∧ ∀ b,SK b → S b) ∧ ((∀ b,SE b → ¬ SC b) ∧ (∀ b,SE b → ¬ SK b) ∧ ∀ b,SC b → ¬ SK b) ∧
 ExsW tE w SE f.es p.exprs ∧ IntW tI w SC f.cs p.cols ∧ f.ks.n=p.kids.length ∧ ∃ fs:List FP,fs.length=p.kids.length ∧ Ow 0 tP 5 fpC w (svV f.ks) fs ∧ (∀ b,(svV f.ks).ownBlock=some b → SK b) ∧ PkidsW tE tI tP w (fun b=>SK b ∧ (svV f.ks).ownBlock ≠ some b) fs p.kids:=by
 obtain ⟨k,t,es,cs,ks⟩:=p
 rw [PlW]
 rfl
theorem PkidsW.len {S:Nat → Prop}:∀ {fs:List FP} {ps:List Pl},PkidsW tE tI tP w S fs ps → fs.length=ps.length:=by
 intro fs ps
 induction ps generalizing fs S with
 | nil=>intro h;rw [PkidsW] at h;rw [h];rfl
 | cons x xs ih=>
   intro h
   rw [PkidsW] at h
   obtain ⟨f,fs',T,rfl,_,_,h4⟩:=h
   simp [ih h4]
theorem PkidsW.carry {ps:List Pl} (ih:∀ x ∈ ps,∀ (S T:Nat → Prop) (f:FP),(∀ b,b < w.heap.size → S b → T b) → (∀ b,S b → b < w.heap.size → w'.heap[b]? = w.heap[b]?) → PlW tE tI tP w S f x → PlW tE tI tP w' T f x) :
 ∀ (S T:Nat → Prop) (fs:List FP),(∀ b,b < w.heap.size → S b → T b) → (∀ b,S b → b < w.heap.size → w'.heap[b]? = w.heap[b]?) → PkidsW tE tI tP w S fs ps → PkidsW tE tI tP w' T fs ps:=by
 induction ps with
 | nil=>intro S T fs _ _ h;rw [PkidsW] at h ⊢;exact h
 | cons x xs ihl=>
   intro S T fs hST hk h
   rw [PkidsW] at h ⊢
   obtain ⟨f,fs',U,rfl,h2,h3,h4⟩:=h
   refine ⟨f,fs',fun b=>U b ∧ b < w.heap.size,rfl,fun b hb=>hST b hb.2 (h2 b hb.1),ih x (List.mem_cons_self ..) U _ f (fun b hb hU=>⟨hU,hb⟩) (fun b hb hl=>hk b (h2 b hb) hl) h3,?_⟩
   exact ihl (fun y hy=>ih y (List.mem_cons_of_mem _ hy)) _ _ fs' (fun b hb hS=>⟨hST b hb hS.1,fun hU=>hS.2 hU.1⟩) (fun b hb hl=>hk b hb.1 hl) h4
theorem PlW.carry:∀ (p:Pl) (S T:Nat → Prop) (f:FP),(∀ b,b < w.heap.size → S b → T b) → (∀ b,S b → b < w.heap.size → w'.heap[b]? = w.heap[b]?) → PlW tE tI tP w S f p → PlW tE tI tP w' T f p:=Pl.ind fun p ih S T f hST hk h=>by
 rw [plW_iff] at h ⊢
 obtain ⟨h1,h2,SE,SC,SK,⟨s1,s2,s3⟩,⟨d1,d2,d3⟩,h3,h4,h5,fs,h7,h8,h9,h10⟩:=h
 refine ⟨h1,h2,fun b=>SE b ∧ b < w.heap.size,fun b=>SC b ∧ b < w.heap.size,fun b=>SK b ∧ b < w.heap.size,⟨fun b hb=>hST b hb.2 (s1 b hb.1),fun b hb=>hST b hb.2 (s2 b hb.1),fun b hb=>hST b hb.2 (s3 b hb.1)⟩,⟨fun b hb hc=>d1 b hb.1 hc.1,fun b hb hc=>d2 b hb.1 hc.1,fun b hb hc=>d3 b hb.1 hc.1⟩,
  h3.carry (fun b hb hS=>⟨hS,hb⟩) (fun b hb hl=>hk b (s1 b hb) hl),h4.carry (fun b hb hS=>⟨hS,hb⟩) (fun b hb hl=>hk b (s2 b hb) hl),h5,fs,h7,h8.keepOwn fun b hb=>hk b (s3 b (h9 b hb)) (h8.ty b hb).2.1,fun b hb=>⟨h9 b hb,(h8.ty b hb).2.1⟩,?_⟩
 exact PkidsW.carry ih _ _ fs (fun b hb hS=>⟨⟨hS.1,hb⟩,hS.2⟩) (fun b hb hl=>hk b (s3 b hb.1) hl) h10
theorem PlW.mono {S T:Nat → Prop} {f:FP} {p:Pl} (h:PlW tE tI tP w S f p) (hST:∀ b,b < w.heap.size → S b → T b):PlW tE tI tP w T f p:=PlW.carry p S T f hST (fun _ _ _=>rfl) h
theorem PlW.keep {S:Nat → Prop} {f:FP} {p:Pl} (h:PlW tE tI tP w S f p) (hs:w.heap.size ≤ w'.heap.size) (hk:∀ b,S b → b < w.heap.size → w'.heap[b]? = w.heap[b]?):PlW tE tI tP w' S f p:=PlW.carry p S S f (fun _ _ h=>h) hk h
theorem PkidsW.mono {S T:Nat → Prop} {fs:List FP} {ps:List Pl} (h:PkidsW tE tI tP w S fs ps) (hST:∀ b,b < w.heap.size → S b → T b):PkidsW tE tI tP w T fs ps:=
 PkidsW.carry (fun x _ S T f hST hk h=>PlW.carry x S T f hST hk h) S T fs hST (fun _ _ _=>rfl) h
theorem PkidsW.keep {S:Nat → Prop} {fs:List FP} {ps:List Pl} (h:PkidsW tE tI tP w S fs ps) (hs:w.heap.size ≤ w'.heap.size) (hk:∀ b,S b → b < w.heap.size → w'.heap[b]? = w.heap[b]?):PkidsW tE tI tP w' S fs ps:=
 PkidsW.carry (fun x _ S T f hST hk h=>PlW.carry x S T f hST hk h) S S fs (fun _ _ h=>h) hk h
theorem PkidsW.snoc {ps:List Pl}:∀ {S T U:Nat → Prop} {fs:List FP} {f:FP} {x:Pl},PkidsW tE tI tP w S fs ps → PlW tE tI tP w T f x → (∀ b,S b → U b) → (∀ b,T b → U b ∧ ¬ S b) → PkidsW tE tI tP w U (fs ++ [f]) (ps ++ [x]):=by
 induction ps with
 | nil=>
   intro S T U fs f x h hx hS hT
   rw [PkidsW] at h
   subst h
   rw [List.nil_append,List.nil_append,PkidsW]
   exact ⟨f,[],T,rfl,fun b hb=>(hT b hb).1,hx,by rw [PkidsW]⟩
 | cons y ys ih=>
   intro S T U fs f x h hx hS hT
   rw [PkidsW] at h
   obtain ⟨g,fs',V,rfl,h2,h3,h4⟩:=h
   rw [List.cons_append,List.cons_append,PkidsW]
   exact ⟨g,fs' ++ [f],V,rfl,fun b hb=>hS b (h2 b hb),h3,ih h4 hx (fun b hb=>⟨hS b hb.1,hb.2⟩) fun b hb=>⟨⟨(hT b hb).1,fun hV=>(hT b hb).2 (h2 b hV)⟩,fun hn=>(hT b hb).2 hn.1⟩⟩
theorem PkidsW.get {ps:List Pl}:∀ {S:Nat → Prop} {fs:List FP},PkidsW tE tI tP w S fs ps → ∀ (i:Nat) (g:FP) (x:Pl),fs[i]? = some g → ps[i]? = some x → PlW tE tI tP w S g x:=by
 induction ps with
 | nil=>intro S fs h i g x hg hx;simp at hx
 | cons y ys ih=>
   intro S fs h i g x hg hx
   rw [PkidsW] at h
   obtain ⟨f,fs',T,rfl,h2,h3,h4⟩:=h
   cases i with
   | zero=>
     simp at hg hx
     subst hg hx
     exact h3.mono fun b _ hb=>h2 b hb
   | succ i=>exact (ih h4 i g x (by simpa using hg) (by simpa using hx)).mono fun b _ hb=>hb.1
theorem PlW.ext:∀ (p:Pl) (S:Nat → Prop) (f:FP),PlB p → PlW tE tI tP w S f p → PlT S w f p:=Pl.ind fun p ih S f hB h=>by
 rw [plW_iff] at h
 obtain ⟨h1,h2,SE,SC,SK,⟨s1,s2,s3⟩,_,h3,h4,h5,fs,h7,h8,h9,h10⟩:=h
 obtain ⟨⟨b1,b2,b3⟩,_,hBk⟩:=hB.all
 obtain ⟨k,t,es,cs,ks⟩:=f
 obtain ⟨k',t',es',cs',ks'⟩:=p
 change k=k' at h1
 change t=t' at h2
 subst h1 h2
 obtain ⟨e1,e2⟩:=h3.ext
 obtain ⟨c1,c2⟩:=h4.ext
 have hsh:=Ow.shape fpC_length h8
 obtain ⟨A,c,hv,hc1,hc2,_⟩:=hsh
 unfold svV at hv
 injection hv with hA hn hc
 change fs.length=ks'.length at h7
 refine PlT.make e1 c1 ⟨h5,?_,?_⟩ (e2.mono fun b _ hb=>s1 b hb) (c2.mono fun b _ hb=>s2 b hb) ⟨fs,h7,(slS_ow fpC_length h8 h9).mono fun b _ hb=>s3 b hb,fun i g x hg hx=>(ih x (List.mem_of_getElem? hx) _ g (hBk x (List.mem_of_getElem? hx)) (h10.get i g x hg hx)).mono fun b _ hb=>s3 b hb.1⟩ b1 b2 b3
 ·change ks.n ≤ ks.c
  rw [hn,hc];omega
 ·change ks.c ≤ maxLen
  rw [hc];exact hc2
theorem PlAt.more {B:Nat}:∀ (n m:Nat) (f:FP) (p:Pl),n ≤ m → PlAt w B n f p → PlAt w B m f p
 | 0,_,_,_,_,h=>h.elim
 | n + 1,0,_,_,hm,_=>absurd hm (by omega)
 | n + 1,m + 1,f,p,hm,⟨h1,h2,h3,h4,h5,h6,h7,fs,h8,h9,h10⟩=>⟨h1,h2,h3,h4,h5,h6,h7,fs,h8,h9,fun i g x hg hx=>PlAt.more n m g x (by omega) (h10 i g x hg hx)⟩
theorem PlW.in_:∀ {p:Pl} {S:Nat → Prop} {f:FP},PlW tE tI tP w S f p → PlIn w w.heap.size f p:=by
 have key:∀ (p:Pl) (S:Nat → Prop) (f:FP),PlW tE tI tP w S f p → PlIn w w.heap.size f p:=Pl.ind fun p ih S f h=>by
  rw [plW_iff] at h
  obtain ⟨h1,h2,SE,SC,SK,⟨s1,s2,s3⟩,_,h3,h4,h5,fs,h7,h8,h9,h10⟩:=h
  obtain ⟨e1,e2⟩:=h3.ext
  obtain ⟨c1,c2⟩:=h4.ext
  have hsh:=Ow.shape fpC_length h8
  obtain ⟨A,c,hv,hc1,hc2,_⟩:=hsh
  unfold svV at hv
  injection hv with hA hn hc
  obtain ⟨m,hm⟩:=uni (PlAt w w.heap.size) (fun n m f e=>PlAt.more n m f e) fs p.kids fun i g x hg hx=>ih x (List.mem_of_getElem? hx) _ g (h10.get i g x hg hx)
  exact ⟨m + 1,h1,h2,e1,c1,⟨h5,by rw [hn,hc];omega,by rw [hc];exact hc2⟩,e2.in_,c2.sl,fs,h7,(slS_ow fpC_length h8 h9).sl,hm⟩
 exact fun {p} {S} {f} h=>key p S f h
def PdsW (tE tI tP:TypeId) (lo z:Nat) (w:World) (v:Value) (ps:List Pl):Prop:=
 ∃ fs:List FP,fs.length=ps.length ∧ Ow lo tP 5 fpC w v fs ∧ PkidsW tE tI tP w (fun b=>lo ≤ b ∧ b < z ∧ v.ownBlock ≠ some b) fs ps
theorem PdsW.nil {lo z:Nat}:PdsW tE tI tP lo z w (.slice none 0 0) []:=⟨[],rfl,Ow.nil,by rw [PkidsW]⟩
theorem PdsW.only {lo z:Nat} {v:Value} {ps:List Pl} {S:Nat → Prop} (h:PdsW tE tI tP lo z w v ps) (k:Only S w w') (hS:∀ i,S i → i < lo):PdsW tE tI tP lo z w' v ps:=by
 obtain ⟨fs,h1,h2,h3⟩:=h
 exact ⟨fs,h1,h2.only k fun i hi=>.inl (hS i hi),h3.keep k.size fun c hc hl=>k.block c hl fun hs=>by have:=hS c hs;omega⟩
theorem PdsW.shape {lo z:Nat} {v:Value} {ps:List Pl} (h:PdsW tE tI tP lo z w v ps):∃ A c,v=.slice A ps.length c ∧ ps.length ≤ c ∧ c ≤ maxLen:=by
 obtain ⟨fs,h1,h2,h3⟩:=h
 obtain ⟨A,c,hv,h4,h5,_⟩:=h2.shape fpC_length
 exact ⟨A,c,by rw [hv,h1],by omega,h5⟩
theorem PdsW.snoc {lo z:Nat} {v v':Value} {ps:List Pl} {f:FP} {x:Pl} {fs:List FP} (hl:fs.length=ps.length) (h3:PkidsW tE tI tP w (fun b=>lo ≤ b ∧ b < z ∧ v.ownBlock ≠ some b) fs ps) (hz:z ≤ w.heap.size)
 (hx:PlW tE tI tP w (fun k=>lo ≤ k ∧ z ≤ k ∧ v.ownBlock ≠ some k) f x) (how:Ow lo tP 5 fpC w' v' (fs ++ [f])) (hgr:w.grownBy w' v.ownBlock) (hob:v'.ownBlock=v.ownBlock ∨ v'.ownBlock=some w.heap.size):PdsW tE tI tP lo w.heap.size w' v' (ps ++ [x]):=by
 refine ⟨fs ++ [f],by simp [hl],how,?_⟩
 have key:∀ b,b < w.heap.size → v.ownBlock ≠ some b → v'.ownBlock ≠ some b:=fun b hb hn=>by
  rcases hob with e | e
  ·rw [e];exact hn
  ·rw [e];intro e';have:=Option.some.inj e';omega
 have x1:PlW tE tI tP w (fun k=>lo ≤ k ∧ z ≤ k ∧ v.ownBlock ≠ some k ∧ k < w.heap.size) f x:=hx.mono fun b hb h=>⟨h.1,h.2.1,h.2.2,hb⟩
 have k2:=h3.keep (w':=w') hgr.size fun b hb hl=>hgr.block b hl fun e=>hb.2.2 e.symm
 have x2:=x1.keep (w':=w') hgr.size fun b hb hl=>hgr.block b hl fun e=>hb.2.2.1 e.symm
 exact PkidsW.snoc k2 x2 (fun b hb=>⟨hb.1,by omega,key b (by omega) hb.2.2⟩) fun b hb=>⟨⟨hb.1,hb.2.2.2,key b hb.2.2.2 hb.2.2.1⟩,fun hn=>by omega⟩
theorem PlW.make {k t:Int} {es cs:SV} {A:Option Addr} {n c lo z:Nat} {xs:List Ex} {cols:List Int} {ps:List Pl} {S SE SC:Nat → Prop} (h1:ExsW tE w SE es xs) (h2:IntW tI w SC cs cols) (h3:PdsW tE tI tP lo z w (.slice A n c) ps)
 (s1:∀ b,SE b → S b) (s2:∀ b,SC b → S b) (s3:∀ b,b < w.heap.size → lo ≤ b → S b) (d1:∀ b,SE b → ¬ SC b) (d2:∀ b,SE b → b < lo) (d3:∀ b,SC b → b < lo):PlW tE tI tP w S ⟨k,t,es,cs,⟨A,n,c⟩⟩ (.mk k t xs cols ps):=by
 obtain ⟨fs,h7,h8,h9⟩:=h3
 obtain ⟨A',c',hv,_⟩:=h8.shape fpC_length
 cases hv
 rw [PlW]
 exact ⟨rfl,rfl,SE,SC,fun b=>lo ≤ b ∧ b < w.heap.size,⟨s1,s2,fun b hb=>s3 b hb.2 hb.1⟩,⟨d1,fun b hb hk=>by have:=d2 b hb;omega,fun b hb hk=>by have:=d3 b hb;omega⟩,h1,h2,h7,fs,h7,h8.low (Nat.zero_le _),fun b hb=>⟨(h8.ty b hb).1,(h8.ty b hb).2.1⟩,h9.mono fun b hl hb=>⟨⟨hb.1,hl⟩,hb.2.2⟩⟩
theorem PlW.zero {S:Nat → Prop} {k t:Int}:PlW tE tI tP w S ⟨k,t,⟨none,0,0⟩,⟨none,0,0⟩,⟨none,0,0⟩⟩ (.mk k t [] [] []):=
 PlW.make (SE:=fun _=>False) (SC:=fun _=>False) (lo:=w.heap.size) (z:=0) ExsW.nil IntW.nil PdsW.nil (fun _ h=>h.elim) (fun _ h=>h.elim) (fun b h1 h2=>by omega) (fun _ h=>h.elim) (fun _ h=>h.elim) fun _ h=>h.elim
end
end Go.Qo
