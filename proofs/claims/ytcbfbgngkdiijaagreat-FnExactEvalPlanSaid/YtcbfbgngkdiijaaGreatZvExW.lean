import Derived.Test.YtcbfbgngkdiijaaGreatZvGeg
namespace Go.Qo
open Go.RowKit
set_option linter.unusedVariables false
set_option linter.unusedSimpArgs false

mutual
def ExW (ty:TypeId) (w:World):(Nat → Prop) → FE → Ex → Prop
 | S,f,.mk k c v ks=>f.kind=k ∧ f.col=c ∧ f.val=v ∧ f.sv.n=ks.length ∧ ks.length ≤ 1048576 ∧ ∃ fs:List FE,fs.length=ks.length ∧ Ow 0 ty 5 feC w (.slice f.sv.A f.sv.n f.sv.c) fs ∧
  (∀ b,(Value.slice f.sv.A f.sv.n f.sv.c).ownBlock=some b → S b) ∧ KidsW ty w (fun b=>S b ∧ (Value.slice f.sv.A f.sv.n f.sv.c).ownBlock ≠ some b) fs ks
def KidsW (ty:TypeId) (w:World):(Nat → Prop) → List FE → List Ex → Prop
 | _,fs,[]=>fs=[]
 | S,fs,x :: xs=>∃ (f:FE) (fs':List FE) (T:Nat → Prop),fs=f :: fs' ∧ (∀ b,T b → S b) ∧ ExW ty w T f x ∧ KidsW ty w (fun b=>S b ∧ ¬ T b) fs' xs
end
section
variable {ty:TypeId} {w w':World}
theorem exW_iff {S:Nat → Prop} {f:FE} {e:Ex}:ExW ty w S f e ↔ f.kind=e.kind ∧ f.col=e.col ∧ f.val=e.val ∧ f.sv.n=e.kids.length ∧ e.kids.length ≤ 1048576 ∧ ∃ fs:List FE,fs.length=e.kids.length ∧ Ow 0 ty 5 feC w (.slice f.sv.A f.sv.n f.sv.c) fs ∧
 (∀ b,(Value.slice f.sv.A f.sv.n f.sv.c).ownBlock=some b → S b) ∧ KidsW ty w (fun b=>S b ∧ (Value.slice f.sv.A f.sv.n f.sv.c).ownBlock ≠ some b) fs e.kids:=by
 obtain ⟨k,c,v,ks⟩:=e
 rw [ExW]
 rfl
theorem KidsW.len {S:Nat → Prop}:∀ {fs:List FE} {es:List Ex},KidsW ty w S fs es → fs.length=es.length:=by
 intro fs es
 induction es generalizing fs S with
 | nil=>intro h;rw [KidsW] at h;rw [h];rfl
 | cons x xs ih=>
   intro h
   rw [KidsW] at h
   obtain ⟨f,fs',T,rfl,_,_,h4⟩:=h
   simp [ih h4]
theorem KidsW.carry {es:List Ex} (ih:∀ x ∈ es,∀ (S T:Nat → Prop) (f:FE),(∀ b,b < w.heap.size → S b → T b) → (∀ b,S b → b < w.heap.size → w'.heap[b]? = w.heap[b]?) → ExW ty w S f x → ExW ty w' T f x) :
 ∀ (S T:Nat → Prop) (fs:List FE),(∀ b,b < w.heap.size → S b → T b) → (∀ b,S b → b < w.heap.size → w'.heap[b]? = w.heap[b]?) → KidsW ty w S fs es → KidsW ty w' T fs es:=by
 induction es with
 | nil=>intro S T fs _ _ h;rw [KidsW] at h ⊢;exact h
 | cons x xs ihl=>
   intro S T fs hST hk h
   rw [KidsW] at h ⊢
   obtain ⟨f,fs',U,rfl,h2,h3,h4⟩:=h
   refine ⟨f,fs',fun b=>U b ∧ b < w.heap.size,rfl,fun b hb=>hST b hb.2 (h2 b hb.1),ih x (List.mem_cons_self ..) U _ f (fun b hb hU=>⟨hU,hb⟩) (fun b hb hl=>hk b (h2 b hb) hl) h3,?_⟩
   exact ihl (fun y hy=>ih y (List.mem_cons_of_mem _ hy)) _ _ fs' (fun b hb hS=>⟨hST b hb hS.1,fun hU=>hS.2 hU.1⟩) (fun b hb hl=>hk b hb.1 hl) h4
theorem ExW.carry:∀ (e:Ex) (S T:Nat → Prop) (f:FE),(∀ b,b < w.heap.size → S b → T b) → (∀ b,S b → b < w.heap.size → w'.heap[b]? = w.heap[b]?) → ExW ty w S f e → ExW ty w' T f e:=Ex.ind fun e ih S T f hST hk h=>by
 rw [exW_iff] at h ⊢
 obtain ⟨h1,h2,h3,h4,h5,fs,h6,h7,h8,h9⟩:=h
 refine ⟨h1,h2,h3,h4,h5,fs,h6,h7.keepOwn fun b hb=>hk b (h8 b hb) (h7.ty b hb).2.1,fun b hb=>hST b (h7.ty b hb).2.1 (h8 b hb),?_⟩
 exact KidsW.carry ih _ _ fs (fun b hb hS=>⟨hST b hb hS.1,hS.2⟩) (fun b hb hl=>hk b hb.1 hl) h9
theorem ExW.mono {S T:Nat → Prop} {f:FE} {e:Ex} (h:ExW ty w S f e) (hST:∀ b,b < w.heap.size → S b → T b):ExW ty w T f e:=ExW.carry e S T f hST (fun _ _ _=>rfl) h
theorem ExW.keep {S:Nat → Prop} {f:FE} {e:Ex} (h:ExW ty w S f e) (hs:w.heap.size ≤ w'.heap.size) (hk:∀ b,S b → b < w.heap.size → w'.heap[b]? = w.heap[b]?):ExW ty w' S f e:=ExW.carry e S S f (fun _ _ h=>h) hk h
theorem KidsW.mono {S T:Nat → Prop} {fs:List FE} {es:List Ex} (h:KidsW ty w S fs es) (hST:∀ b,b < w.heap.size → S b → T b):KidsW ty w T fs es:=
 KidsW.carry (fun x _ S T f hST hk h=>ExW.carry x S T f hST hk h) S T fs hST (fun _ _ _=>rfl) h
theorem KidsW.keep {S:Nat → Prop} {fs:List FE} {es:List Ex} (h:KidsW ty w S fs es) (hs:w.heap.size ≤ w'.heap.size) (hk:∀ b,S b → b < w.heap.size → w'.heap[b]? = w.heap[b]?):KidsW ty w' S fs es:=
 KidsW.carry (fun x _ S T f hST hk h=>ExW.carry x S T f hST hk h) S S fs (fun _ _ h=>h) hk h
theorem KidsW.snoc {es:List Ex}:∀ {S T U:Nat → Prop} {fs:List FE} {f:FE} {x:Ex},KidsW ty w S fs es → ExW ty w T f x → (∀ b,S b → U b) → (∀ b,T b → U b ∧ ¬ S b) → KidsW ty w U (fs ++ [f]) (es ++ [x]):=by
 induction es with
 | nil=>
   intro S T U fs f x h hx hS hT
   rw [KidsW] at h
   subst h
   rw [List.nil_append,List.nil_append,KidsW]
   exact ⟨f,[],T,rfl,fun b hb=>(hT b hb).1,hx,by rw [KidsW]⟩
 | cons y ys ih=>
   intro S T U fs f x h hx hS hT
   rw [KidsW] at h
   obtain ⟨g,fs',V,rfl,h2,h3,h4⟩:=h
   rw [List.cons_append,List.cons_append,KidsW]
   exact ⟨g,fs' ++ [f],V,rfl,fun b hb=>hS b (h2 b hb),h3,ih h4 hx (fun b hb=>⟨hS b hb.1,hb.2⟩) fun b hb=>⟨⟨(hT b hb).1,fun hV=>(hT b hb).2 (h2 b hV)⟩,fun hn=>(hT b hb).2 hn.1⟩⟩
theorem KidsW.get {es:List Ex}:∀ {S:Nat → Prop} {fs:List FE},KidsW ty w S fs es → ∀ (i:Nat) (g:FE) (x:Ex),fs[i]? = some g → es[i]? = some x → ExW ty w S g x:=by
 induction es with
 | nil=>intro S fs h i g x hg hx;simp at hx
 | cons y ys ih=>
   intro S fs h i g x hg hx
   rw [KidsW] at h
   obtain ⟨f,fs',T,rfl,h2,h3,h4⟩:=h
   cases i with
   | zero=>
     simp at hg hx
     subst hg hx
     exact h3.mono fun b _ hb=>h2 b hb
   | succ i=>exact (ih h4 i g x (by simpa using hg) (by simpa using hx)).mono fun b _ hb=>hb.1
theorem slS_ow {α:Type} {sz:Nat} {enc:α → List Value} (he:∀ x,(enc x).length=sz) {S:Nat → Prop} {lo:Nat} {A:Option Addr} {n c:Nat} {xs:List α} (h:Ow lo ty sz enc w (.slice A n c) xs) (hS:∀ b,(Value.slice A n c).ownBlock=some b → S b):SlS S sz enc w A xs:=fun h0=>by
 obtain ⟨b,off,hA,h1,h2,h3⟩:=SlS.of_ow he h h0
 exact ⟨b,off,hA,hS b (by rw [hA];rfl),h2,h3⟩
theorem ExW.ext:∀ (e:Ex) (S:Nat → Prop) (f:FE),ExW ty w S f e → ExT S w f e:=Ex.ind fun e ih S f h=>by
 rw [exW_iff] at h
 obtain ⟨h1,h2,h3,h4,h5,fs,h6,h7,h8,h9⟩:=h
 obtain ⟨k,c,v,⟨A,n,cp⟩⟩:=f
 obtain ⟨k',c',v',ks⟩:=e
 obtain ⟨A',c1,hv,hc1,hc2,_⟩:=h7.shape feC_length
 cases hv
 change k=k' at h1
 change c=c' at h2
 change v=v' at h3
 change fs.length=ks.length at h6
 change ks.length ≤ 1048576 at h5
 subst h1 h2 h3
 refine ExT.make ⟨fs,h6,slS_ow feC_length h7 h8,fun i g x hg hx=>?_⟩ h6 hc1 hc2 h5
 exact (ih x (List.mem_of_getElem? hx) _ g (h9.get i g x hg hx)).mono fun b _ hb=>hb.1
theorem ExW.in_ {S:Nat → Prop} {f:FE} {e:Ex} (h:ExW ty w S f e):ExIn w w.heap.size f e:=(ExW.ext e S f h).in_
def KdsW (ty:TypeId) (lo z:Nat) (w:World) (v:Value) (es:List Ex):Prop:=
 ∃ fs:List FE,fs.length=es.length ∧ Ow lo ty 5 feC w v fs ∧ KidsW ty w (fun b=>lo ≤ b ∧ b < z ∧ v.ownBlock ≠ some b) fs es
theorem KdsW.nil {lo z:Nat}:KdsW ty lo z w (.slice none 0 0) []:=⟨[],rfl,Ow.nil,by rw [KidsW]⟩
theorem KdsW.only {lo z:Nat} {v:Value} {es:List Ex} {S:Nat → Prop} (h:KdsW ty lo z w v es) (k:Only S w w') (hS:∀ i,S i → i < lo):KdsW ty lo z w' v es:=by
 obtain ⟨fs,h1,h2,h3⟩:=h
 exact ⟨fs,h1,h2.only k fun i hi=>.inl (hS i hi),h3.keep k.size fun c hc hl=>k.block c hl fun hs=>by have:=hS c hs;omega⟩
theorem KdsW.shape {lo z:Nat} {v:Value} {es:List Ex} (h:KdsW ty lo z w v es):∃ A c,v=.slice A es.length c ∧ es.length ≤ c ∧ c ≤ maxLen:=by
 obtain ⟨fs,h1,h2,h3⟩:=h
 obtain ⟨A,c,hv,h4,h5,_⟩:=h2.shape feC_length
 exact ⟨A,c,by rw [hv,h1],by omega,h5⟩
theorem ExW.make {lo z:Nat} {S:Nat → Prop} {k c:Int} {v:Val} {A:Option Addr} {n cap:Nat} {es:List Ex} (h:KdsW ty lo z w (.slice A n cap) es) (hS:∀ b,lo ≤ b → S b) (h3:es.length ≤ 1048576):ExW ty w S ⟨k,c,v,⟨A,n,cap⟩⟩ (.mk k c v es):=by
 obtain ⟨fs,h1,h2,h4⟩:=h
 obtain ⟨A',c',hv,_⟩:=h2.shape feC_length
 cases hv
 rw [ExW]
 exact ⟨rfl,rfl,rfl,h1,h3,fs,h1,h2.low (Nat.zero_le _),fun b hb=>hS b (h2.ty b hb).1,h4.mono fun b _ hb=>⟨hS b hb.1,hb.2.2⟩⟩
theorem KdsW.snoc {lo z:Nat} {v v':Value} {es:List Ex} {f:FE} {x:Ex} {fs:List FE} (hl:fs.length=es.length) (h3:KidsW ty w (fun b=>lo ≤ b ∧ b < z ∧ v.ownBlock ≠ some b) fs es) (hz:z ≤ w.heap.size)
 (hx:ExW ty w (fun k=>lo ≤ k ∧ z ≤ k ∧ v.ownBlock ≠ some k) f x) (how:Ow lo ty 5 feC w' v' (fs ++ [f])) (hgr:w.grownBy w' v.ownBlock) (hob:v'.ownBlock=v.ownBlock ∨ v'.ownBlock=some w.heap.size):KdsW ty lo w.heap.size w' v' (es ++ [x]):=by
 refine ⟨fs ++ [f],by simp [hl],how,?_⟩
 have k1:KidsW ty w (fun b=>lo ≤ b ∧ b < z ∧ v.ownBlock ≠ some b) (fs) es:=h3
 have key:∀ b,b < w.heap.size → v.ownBlock ≠ some b → v'.ownBlock ≠ some b:=fun b hb hn=>by
  rcases hob with e | e
  ·rw [e];exact hn
  ·rw [e];intro e';have:=Option.some.inj e';omega
 have x1:ExW ty w (fun k=>lo ≤ k ∧ z ≤ k ∧ v.ownBlock ≠ some k ∧ k < w.heap.size) f x:=hx.mono fun b hb h=>⟨h.1,h.2.1,h.2.2,hb⟩
 have k2:=k1.keep (w':=w') hgr.size fun b hb hl=>hgr.block b hl fun e=>hb.2.2 e.symm
 have x2:=x1.keep (w':=w') hgr.size fun b hb hl=>hgr.block b hl fun e=>hb.2.2.1 e.symm
 exact KidsW.snoc k2 x2 (fun b hb=>⟨hb.1,by omega,key b (by omega) hb.2.2⟩) fun b hb=>⟨⟨hb.1,hb.2.2.2,key b hb.2.2.2 hb.2.2.1⟩,fun hn=>by omega⟩
end
end Go.Qo
