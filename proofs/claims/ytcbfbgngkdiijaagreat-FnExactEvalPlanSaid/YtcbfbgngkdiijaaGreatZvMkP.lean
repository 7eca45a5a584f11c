import Derived.Test.YtcbfbgngkdiijaaGreatProg
import Derived.Test.YtcbfbgngkdiijaaGreatZvPlW
import Derived.Test.YtcbfbgngkdiijaaGreatZvMkE
import Derived.Test.YtcbfbgngkdiijaaGreatZvGf
import Derived.Test.YtcbfbgngkdiijaaGreatZvMkg
namespace Go.Proofs.YtcbfbgngkdiijaaGreat
open Go.RowKit Go.Qo
set_option linter.unusedVariables false
set_option linter.unusedSimpArgs false

mutual
def plMk:Pl → Nat
 | .mk _ _ es cs ks=>2 + 4 * (es.length + exKids es) + cs.length + plsMk ks
def plsMk:List Pl → Nat
 | []=>0
 | x :: xs=>plMk x + plsMk xs
end
mutual
def rePl:Int → Pl → Pl × Int
 | k,.mk _ _ es cs ks=>(.mk k (k + 1) (reKids (k + 2) es).1 (markI (k + 2 + 4 * (es.length + exKids es)) cs.length) (rePls (k + 2 + 4 * (es.length + exKids es) + cs.length) ks).1,(rePls (k + 2 + 4 * (es.length + exKids es) + cs.length) ks).2)
def rePls:Int → List Pl → List Pl × Int
 | k,[]=>([],k)
 | k,x :: xs=>((rePl k x).1 :: (rePls (rePl k x).2 xs).1,(rePls (rePl k x).2 xs).2)
end
theorem plMk_eq (x:Pl):plMk x=2 + 4 * (x.exprs.length + exKids x.exprs) + x.cols.length + plsMk x.kids:=by
 obtain ⟨k,t,es,cs,ks⟩:=x
 rw [plMk]
 rfl
theorem rePl_eq (k:Int) (x:Pl):rePl k x=(.mk k (k + 1) (reKids (k + 2) x.exprs).1 (markI (k + 2 + 4 * (x.exprs.length + exKids x.exprs)) x.cols.length) (rePls (k + 2 + 4 * (x.exprs.length + exKids x.exprs) + x.cols.length) x.kids).1,(rePls (k + 2 + 4 * (x.exprs.length + exKids x.exprs) + x.cols.length) x.kids).2):=by
 obtain ⟨a,b,c,d,e⟩:=x
 rw [rePl]
 rfl
theorem rePls_len:∀ (xs:List Pl) (k:Int),(rePls k xs).1.length=xs.length
 | [],k=>by rw [rePls]
 | x :: xs,k=>by rw [rePls];simp [rePls_len xs]
theorem rePls_snoc:∀ (xs:List Pl) (k:Int) (x:Pl),rePls k (xs ++ [x])=((rePls k xs).1 ++ [(rePl (rePls k xs).2 x).1],(rePl (rePls k xs).2 x).2)
 | [],k,x=>by rw [List.nil_append,rePls,rePls,rePls];rfl
 | y :: ys,k,x=>by rw [List.cons_append,rePls,rePls_snoc ys,rePls];rfl
theorem rePls_cnt:∀ (xs:List Pl),(∀ x ∈ xs,∀ k,(rePl k x).2=k + plMk x) → ∀ k,(rePls k xs).2=k + plsMk xs
 | [],_,k=>by rw [rePls];simp [plsMk]
 | x :: xs,h,k=>by
   rw [rePls]
   dsimp only
   rw [rePls_cnt xs (fun y hy=>h y (List.mem_cons_of_mem _ hy)),h x (List.mem_cons_self ..),plsMk]
   omega
theorem rePl_cnt:∀ (x:Pl) (k:Int),(rePl k x).2=k + plMk x:=Pl.ind fun x ih k=>by
 rw [rePl_eq]
 dsimp only
 rw [rePls_cnt x.kids ih,plMk_eq]
 omega
theorem rePls_end (xs:List Pl) (k:Int):(rePls k xs).2=k + plsMk xs:=rePls_cnt xs (fun x _=>rePl_cnt x) k
theorem plsMk_append:∀ (a b:List Pl),plsMk (a ++ b)=plsMk a + plsMk b
 | [],b=>by simp [plsMk]
 | x :: a,b=>by rw [List.cons_append,plsMk,plsMk,plsMk_append a b];omega
theorem flat_setP:∀ (xs:List FP) (j:Nat) (y f:FP),xs[j]? = some f → ((xs.flatMap fpC).set (j * 5) (.int .i64 y.kind)).set (j * 5 + 1) (.int .i64 y.table)=(xs.set j ⟨y.kind,y.table,f.es,f.cs,f.ks⟩).flatMap fpC
 | [],j,y,f,h=>by simp at h
 | x :: xs,0,y,f,h=>by
   simp at h
   subst h
   simp [fpC]
 | x :: xs,j + 1,y,f,h=>by
   have ih:=flat_setP xs j y f (by simpa using h)
   rw [show (j + 1) * 5=j * 5 + 5 by omega]
   simpa [fpC] using ih

section
variable {tE tI tP:TypeId}
def PlsW (tE tI tP:TypeId) (w:World) (S:Nat → Prop) (s:SV) (ps:List Pl):Prop:=
 s.n=ps.length ∧ ∃ fs:List FP,fs.length=ps.length ∧ Ow 0 tP 5 fpC w (svV s) fs ∧ (∀ b,(svV s).ownBlock=some b → S b) ∧ PkidsW tE tI tP w (fun b=>S b ∧ (svV s).ownBlock ≠ some b) fs ps
theorem PlsW.keep {w w':World} {S:Nat → Prop} {s:SV} {ps:List Pl} (h:PlsW tE tI tP w S s ps) (hs:w.heap.size ≤ w'.heap.size) (hk:∀ b,S b → b < w.heap.size → w'.heap[b]? = w.heap[b]?):PlsW tE tI tP w' S s ps:=by
 obtain ⟨h1,fs,h2,h3,h4,h5⟩:=h
 exact ⟨h1,fs,h2,h3.keepOwn fun b hb=>hk b (h4 b hb) (h3.ty b hb).2.1,h4,h5.keep hs fun b hb hl=>hk b hb.1 hl⟩
end
theorem markExs_ok (s:SV) (es:List Ex) (S:Nat → Prop) (k:Int) (w:World) (h:ExsW 87 w S s es) (hn:es.length ≤ 1048576) (hk0:0 ≤ k) (hk:k + 4 * (es.length + exKids es) ≤ 1125899906842624) :
 Calls Tryz.prog 36 #[.slice s.A s.n s.c,.int .i64 k] w fun e w'=>e=.returned (.int .i64 (k + 4 * (es.length + exKids es))) ∧ w'.heap.size=w.heap.size ∧ Only S w w' ∧ ExsW 87 w' S s (reKids k es).1:=by
 obtain ⟨A,n,c⟩:=s
 obtain ⟨h1,fs,h2,h3,h4,h5⟩:=h
 change n=es.length at h1
 subst h1
 change Ow 0 87 5 feC w (.slice A es.length c) fs at h3
 refine (markExprS_of es (fun x _=>markExprS_ok x) A c _ fs k w h2 hn h3 h5 (fun b hb=>hb.2) hk0 hk).mono ?_
 rintro e w' ⟨rfl,g2,g3,gs,g4,g5,g6⟩
 have hS:∀ b,((S b ∧ (svV ⟨A,es.length,c⟩).ownBlock ≠ some b) ∨ (Value.slice A es.length c).ownBlock=some b) → S b:=fun b hb=>hb.elim (fun h=>h.1) (h4 b)
 exact ⟨by rw [reKids_end],g2,g3.mono fun b _ hb=>hS b hb,by rw [reKids_len],gs,by rw [reKids_len];exact g4,g5,h4,g6⟩
theorem markInt_ok (s:SV) (cs:List Int) (S:Nat → Prop) (k:Int) (w:World) (h:IntW 3 w S s cs) (hn:cs.length ≤ 1048576) (hk0:0 ≤ k) (hk:k ≤ 1099511627776) :
 Calls Tryz.prog 37 #[.slice s.A s.n s.c,.int .i64 k] w fun e w'=>e=.returned (.int .i64 (k + cs.length)) ∧ w'.heap.size=w.heap.size ∧ Only S w w' ∧ IntW 3 w' S s (markI k cs.length):=by
 obtain ⟨A,n,c⟩:=s
 obtain ⟨h1,h2,h3⟩:=h
 change n=cs.length at h1
 subst h1
 change Ow 0 3 1 intC w (.slice A cs.length c) cs at h2
 refine (markIntS_ok 0 A c cs k w hk0 hk hn h2).mono ?_
 rintro e w' ⟨rfl,g1,g2,g3⟩
 exact ⟨rfl,g3,g2.mono fun b _ hb=>h3 b hb,by rw [markI_length],g1,h3⟩

def MkP (x:Pl):Prop:=∀ (s:SV) (S:Nat → Prop) (k:Int) (w:World),PlsW 87 3 38 w S s x.kids → PlB x → 0 ≤ k → k + plsMk x.kids ≤ 1099511627776 →
 Calls Tryz.prog 38 #[.slice s.A s.n s.c,.int .i64 k] w fun e w'=>e=.returned (.int .i64 (k + plsMk x.kids)) ∧ w'.heap.size=w.heap.size ∧ Only S w w' ∧ PlsW 87 3 38 w' S s (rePls k x.kids).1

set_option maxRecDepth 20000 in
set_option maxHeartbeats 2000000 in
theorem markPlanS_of (ps:List Pl) (he:∀ x ∈ ps,MkP x) (hB:∀ x ∈ ps,PlB x) (s:SV) (S:Nat → Prop) (k:Int) (w:World) (h:PlsW 87 3 38 w S s ps) (hn:ps.length ≤ 1048576) (hk0:0 ≤ k) (hk:k + plsMk ps ≤ 1099511627776) :
 Calls Tryz.prog 38 #[.slice s.A s.n s.c,.int .i64 k] w fun e w'=>e=.returned (.int .i64 (k + plsMk ps)) ∧ w'.heap.size=w.heap.size ∧ Only S w w' ∧ PlsW 87 3 38 w' S s (rePls k ps).1:=by
 obtain ⟨A,n,c⟩:=s
 obtain ⟨h1,fs,hfl,how,hoS,hks⟩:=h
 change n=ps.length at h1
 subst h1
 change Ow 0 38 5 fpC w (.slice A ps.length c) fs at how
 have HE:=Lib.hid he
 have HPB:=Lib.hid hB
 have HO:=Lib.hid how
 have HKs:=Lib.hid hks
 have HoS:=Lib.hid hoS
 have HF:=Lib.hid hfl
 clear he hB how hks hoS hfl
 go_enter Tryz.func38,Tryz.ntmps38
 go_wp2
 go_loopg [1,5] (ps.length) (fun g kv iv wr=>∃ (i:Nat) (kk:Int) (ds:List FP) (D R:Nat → Prop),i ≤ ps.length ∧ g=ps.length - i ∧ kk=(rePls k (ps.take i)).2 ∧ kv=.int .i64 kk ∧ iv=.int .i64 i ∧ ds.length=i ∧ Ow 0 38 5 fpC wr (.slice A ps.length c) (ds ++ fs.drop i) ∧
  PkidsW 87 3 38 wr D ds (rePls k (ps.take i)).1 ∧ PkidsW 87 3 38 wr R (fs.drop i) (ps.drop i) ∧ (∀ b,D b → S b ∧ (Value.slice A ps.length c).ownBlock ≠ some b) ∧ (∀ b,R b → (S b ∧ (Value.slice A ps.length c).ownBlock ≠ some b) ∧ ¬ D b) ∧ Only S w wr ∧ wr.heap.size=w.heap.size)
 case atStart=>
  refine ⟨0,k,[],fun _=>False,fun b=>S b ∧ (Value.slice A ps.length c).ownBlock ≠ some b,by omega,by omega,?_,rfl,rfl,rfl,?_,?_,?_,fun b hb=>hb.elim,fun b hb=>⟨hb,fun h=>h⟩,Only.refl _,rfl⟩
  ·rw [List.take_zero,rePls]
  ·simpa using HO.out
  ·rw [List.take_zero,rePls,PkidsW]
  ·rw [List.drop_zero,List.drop_zero];exact HKs.out
 case round=>
  obtain ⟨i,kk,ds,D,R,hi,rfl,hkk,rfl,rfl,hdl,how,hkd,hkr,hD,hR,hon,hsz⟩:=hrel
  have hke:=rePls_end (ps.take i) k
  rw [← hkk] at hke
  have hsum0:=plsMk_append (ps.take i) (ps.drop i)
  rw [List.take_append_drop] at hsum0
  have hkk1:0 ≤ kk ∧ kk ≤ 1099511627776:=by omega
  have HW:=Lib.hid (And.intro how (And.intro hkd (And.intro hkr (And.intro hD (And.intro hR (And.intro hon hsz))))))
  have HKK:=Lib.hid hkk
  have HDL:=Lib.hid hdl
  have HKE:=Lib.hid hke
  clear how hkd hD hR hon hsz hkk hdl hkr
  by_cases hlt:i < ps.length
  ·obtain ⟨x,hx⟩:∃ x,ps[i]? = some x:=⟨_,List.getElem?_eq_getElem hlt⟩
   have hfl:i < fs.length:=by rw [HF.out];exact hlt
   obtain ⟨f,hf⟩:∃ f,fs[i]? = some f:=⟨_,List.getElem?_eq_getElem hfl⟩
   have hdr:ps.drop i=x :: ps.drop (i + 1):=by
    rw [List.drop_eq_getElem_cons hlt]
    rw [List.getElem?_eq_getElem hlt] at hx
    rw [Option.some.inj hx]
   have hdf:fs.drop i=f :: fs.drop (i + 1):=by
    rw [List.drop_eq_getElem_cons hfl]
    rw [List.getElem?_eq_getElem hfl] at hf
    rw [Option.some.inj hf]
   have hmem:x ∈ ps:=List.mem_of_getElem? hx
   obtain ⟨how,hkd,hkr,hD,hR,hon,hsz⟩:=HW.out
   rw [hdr,hdf,PkidsW] at hkr
   obtain ⟨f1,fs1,T,hc,hT,hxw,hrest⟩:=hkr
   obtain ⟨rfl,rfl⟩:f=f1 ∧ fs.drop (i + 1)=fs1:=by injection hc with h1 h2;exact ⟨h1,h2⟩
   obtain ⟨e1,e2,SE,SC,SK,⟨s1,s2,s3⟩,⟨d1,d2,d3⟩,hE,hI,hP1,hP2⟩:=plW_iff.1 hxw
   have hP:PlsW 87 3 38 wr SK f.ks x.kids:=⟨hP1,hP2⟩
   have hpb:=HPB.out x hmem
   obtain ⟨⟨b1,b2,b3⟩,_,_⟩:=hpb.all
   have hcx:=plMk_eq x
   rw [hdr,plsMk] at hsum0
   rw [hdf] at how
   have hat:(ds ++ f :: fs.drop (i + 1))[i]? = some f:=by rw [List.getElem?_append_right (by rw [HDL.out];omega),HDL.out,Nat.sub_self];rfl
   obtain ⟨g,hA,hn2,_,hgl,_,hfz,hcs⟩:=how.head fpC_length (by simp;omega)
   subst hA
   have c0:wr.cell? ⟨g,i * 5,none⟩=some (.int .i64 f.kind):=hcs _ _ (flat_get 5 fpC fpC_length _ i f 0 _ hat rfl)
   have c1:=hcs _ _ (flat_get 5 fpC fpC_length _ i f 1 _ hat rfl)
   have f0:=hfz (i * 5)
   have f1:=hfz (i * 5 + 1)
   have hDg:∀ b,D b → b ≠ g:=fun b hb e=>(hD b hb).2 (by rw [e];rfl)
   have hRg:∀ b,R b → b ≠ g:=fun b hb e=>(hR b hb).1.2 (by rw [e];rfl)
   have hTR:∀ b,T b → R b:=hT
   obtain ⟨W4,hW4⟩:∃ z,(wr.setCell ⟨g,i * 5,none⟩ (.int .i64 kk)).setCell ⟨g,i * 5 + 1,none⟩ (.int .i64 (kk + 1))=z:=⟨_,rfl⟩
   have O4:Only (fun b=>b=g) wr W4:=by
    rw [← hW4]
    exact (((Only.refl (S:=fun b=>b=g) wr).set (p:=⟨g,i * 5,none⟩) (.inl rfl) _).set (p:=⟨g,i * 5 + 1,none⟩) (.inl rfl) _)
   have z4:W4.heap.size=wr.heap.size:=by rw [← hW4];simp [World.setCell]
   have r4:Ow 0 38 5 fpC W4 (.slice (some ⟨g,0,none⟩) ps.length c) (ds ++ ⟨kk,kk + 1,f.es,f.cs,f.ks⟩ :: fs.drop (i + 1)):=by
    have hlen:(ds ++ f :: fs.drop (i + 1)).length=ps.length:=by simp [HDL.out];have:=HF.out;omega
    have how2:wr.ownsRow 0 38 5 (.slice (some ⟨g,0,none⟩) ps.length c) ps.length ((ds ++ f :: fs.drop (i + 1)).flatMap fpC):=by have:=how;unfold Ow at this;rwa [hlen] at this
    have h1:=(World.ownsRow.stored how2 (i * 5) (.int .i64 kk)).1
    have h2:=(World.ownsRow.stored h1 (i * 5 + 1) (.int .i64 (kk + 1))).1
    rw [flat_setP _ i ⟨kk,kk + 1,f.es,f.cs,f.ks⟩ f hat,List.set_append_right _ _ (by rw [HDL.out];omega),HDL.out,Nat.sub_self,List.set_cons_zero] at h2
    rw [← hW4]
    unfold Ow
    have hlen2:(ds ++ ⟨kk,kk + 1,f.es,f.cs,f.ks⟩ :: fs.drop (i + 1)).length=ps.length:=by simp [HDL.out];have:=HF.out;omega
    rw [hlen2]
    exact h2
   have k4:∀ b,b ≠ g → b < wr.heap.size → W4.heap[b]? = wr.heap[b]?:=fun b hb hl=>O4.block b hl hb
   have hE4:=hE.carry (w':=W4) (T:=SE) (fun _ _ h=>h) fun b hb hl=>k4 b (hRg b (hTR b (s1 b hb))) hl
   have hI4:=hI.carry (w':=W4) (T:=SC) (fun _ _ h=>h) fun b hb hl=>k4 b (hRg b (hTR b (s2 b hb))) hl
   have hP4:=hP.keep (w':=W4) O4.size fun b hb hl=>k4 b (hRg b (hTR b (s3 b hb))) hl
   have hd4:=hkd.keep (w':=W4) O4.size fun b hb hl=>k4 b (hDg b hb) hl
   have hr4:=hrest.keep (w':=W4) O4.size fun b hb hl=>k4 b (hRg b hb.1) hl
   obtain ⟨k1,hk1⟩:∃ k1:Int,kk + 2 + 4 * ((x.exprs.length:Int) + (exKids x.exprs:Int))=k1:=⟨_,rfl⟩
   obtain ⟨k2,hk2⟩:∃ k2:Int,k1 + (x.cols.length:Int)=k2:=⟨_,rfl⟩
   obtain ⟨k3,hk3⟩:∃ k3:Int,k2 + (plsMk x.kids:Int)=k3:=⟨_,rfl⟩
   have hkb:k3 ≤ 1099511627776 ∧ k3=kk + plMk x:=by omega
   have ME:=Lib.hid (markExs_ok f.es x.exprs SE (kk + 2) W4 hE4 b1 (by omega) (by omega))
   rw [hk1] at ME
   have MI:=Lib.hid (fun (z:World) hz=>markInt_ok f.cs x.cols SC k1 z hz b2 (by omega) (by omega))
   rw [hk2] at MI
   have MP:=Lib.hid (fun (z:World) hz=>HE.out x hmem f.ks SK k2 z hz hpb (by omega) (by omega))
   rw [hk3] at MP
   have CX:=Lib.hid (fun (z:World) (hz:Only T W4 z)=>show z.cell? ⟨g,i * 5 + 2,none⟩=some (.slice f.es.A f.es.n f.es.c) ∧ z.cell? ⟨g,i * 5 + 3,none⟩=some (.slice f.cs.A f.cs.n f.cs.c) ∧ z.cell? ⟨g,i * 5 + 4,none⟩=some (.slice f.ks.A f.ks.n f.ks.c) ∧ g < z.heap.size from by
    have rz:=r4.keepOwn (w':=z) fun b hb=>hz.block b (r4.ty b hb).2.1 fun ht=>hRg b (hTR b ht) (by cases hb;rfl)
    have hat2:(ds ++ ⟨kk,kk + 1,f.es,f.cs,f.ks⟩ :: fs.drop (i + 1))[i]? = some ⟨kk,kk + 1,f.es,f.cs,f.ks⟩:=by rw [List.getElem?_append_right (by rw [HDL.out];omega),HDL.out,Nat.sub_self];rfl
    obtain ⟨g',hA',_,_,hgl',_,_,hcs'⟩:=rz.head fpC_length (by simp;omega)
    cases hA'
    exact ⟨hcs' _ _ (flat_get 5 fpC fpC_length _ i _ 2 _ hat2 rfl),hcs' _ _ (flat_get 5 fpC fpC_length _ i _ 3 _ hat2 rfl),hcs' _ _ (flat_get 5 fpC fpC_length _ i _ 4 _ hat2 rfl),hgl'⟩)
   have HI4:=Lib.hid hI4
   have HP4:=Lib.hid hP4
   have HR4:=Lib.hid (And.intro r4 (And.intro hd4 (And.intro hr4 (And.intro (hon.trans (O4.mono fun b _ hb=>show S b from HoS.out b (by rw [hb];rfl))) (And.intro z4 hsz)))))
   have HSETS:=Lib.hid (And.intro hD (And.intro hR (And.intro hT (And.intro (And.intro s1 (And.intro s2 s3)) (And.intro d1 (And.intro d2 d3))))))
   have HX:=Lib.hid (And.intro hx (And.intro hdr hdf))
   have HK3:=Lib.hid (And.intro hk1 (And.intro hk2 (And.intro hk3 hkb.2)))
   have HG:=Lib.hid (And.intro hDg hRg)
   have HW4:=Lib.hid hW4
   have w1:IntKind.i64.wrap (kk + 1)=kk + 1:=IntWalk.i64_in _ (by omega)
   have w2:IntKind.i64.wrap (kk + 1 + 1)=kk + 2:=by rw [show kk + 1 + 1=kk + 2 by omega];exact IntWalk.i64_in _ (by omega)
   obtain ⟨q2,q3,q4,ql⟩:=CX.out W4 (Only.refl _)
   clear hn2 how hkd hD hR hon hsz hc hT hxw hrest e1 e2 hE hI hP hP1 hP2 hcs hfz hDg hRg hTR hW4 O4 z4 r4 k4 hE4 hI4 hP4 hd4 hr4 hx hf hdr hdf hat hcx hk1 hk2 hk3 hkb s1 s2 s3 d1 d2 d3 hpb HW hke hsum0
   go_upto_region 8 with fail
   rw [HW4.out]
   go_wp2_with fail
   refine ME.out.mono ?_
   rintro e w5 ⟨rfl,z5,o5,hE5⟩
   have O5T:=Lib.hid (show Only T W4 w5 from o5.mono fun b _ hb=>HSETS.out.2.2.2.1.1 b hb)
   have HI5:=Lib.hid (HI4.out.carry (w':=w5) (T:=SC) (fun _ _ h=>h) fun b hb hl=>o5.block b hl fun he=>HSETS.out.2.2.2.2.1 b he hb)
   have HP5:=Lib.hid (HP4.out.keep (w':=w5) o5.size fun b hb hl=>o5.block b hl fun he=>HSETS.out.2.2.2.2.2.1 b he hb)
   have HE5:=Lib.hid hE5
   have Z5:=Lib.hid z5
   clear q2 q3 q4 ql o5 hE5 z5
   obtain ⟨q2,q3,q4,ql⟩:=CX.out w5 O5T.out
   go_wp2_with fail
   refine (MI.out w5 HI5.out).mono ?_
   rintro e w6 ⟨rfl,z6,o6,hI6⟩
   have O6T:=Lib.hid (show Only T W4 w6 from O5T.out.trans (o6.mono fun b _ hb=>HSETS.out.2.2.2.1.2.1 b hb))
   have HE6:=Lib.hid (HE5.out.carry (w':=w6) (T:=SE) (fun _ _ h=>h) fun b hb hl=>o6.block b hl fun he=>HSETS.out.2.2.2.2.1 b hb he)
   have HP6:=Lib.hid (HP5.out.keep (w':=w6) o6.size fun b hb hl=>o6.block b hl fun he=>HSETS.out.2.2.2.2.2.2 b he hb)
   have HI6:=Lib.hid hI6
   have Z6:=Lib.hid (z6.trans Z5.out)
   clear q2 q3 q4 ql o6 hI6 z6
   obtain ⟨q2,q3,q4,ql⟩:=CX.out w6 O6T.out
   go_wp2_with fail
   refine (MP.out w6 HP6.out).mono ?_
   rintro e w7 ⟨rfl,z7,o7,hP7⟩
   have O7T:=Lib.hid (show Only T W4 w7 from O6T.out.trans (o7.mono fun b _ hb=>HSETS.out.2.2.2.1.2.2 b hb))
   have HE7:=Lib.hid (HE6.out.carry (w':=w7) (T:=SE) (fun _ _ h=>h) fun b hb hl=>o7.block b hl fun he=>HSETS.out.2.2.2.2.2.1 b hb he)
   have HI7:=Lib.hid (HI6.out.carry (w':=w7) (T:=SC) (fun _ _ h=>h) fun b hb hl=>o7.block b hl fun he=>HSETS.out.2.2.2.2.2.2 b hb he)
   have HP7:=Lib.hid hP7
   have Z7:=Lib.hid (z7.trans Z6.out)
   clear q2 q3 q4 ql o7 hP7 z7
   go_wp2
   go_roundg (ps.length - (i + 1))
   case measure=>omega
   case rel=>
    obtain ⟨r4,hd4,hr4,hOn4,z4,hsz⟩:=HR4.out
    obtain ⟨hD,hR,hT,⟨s1,s2,s3⟩,d1,d2,d3⟩:=HSETS.out
    obtain ⟨hx,hdr,hdf⟩:=HX.out
    obtain ⟨hk1,hk2,hk3,hk4⟩:=HK3.out
    obtain ⟨hDg,hRg⟩:=HG.out
    have htk:ps.take (i + 1)=ps.take i ++ [x]:=by rw [List.take_add_one,hx];rfl
    have hk5:∀ b,¬ T b → b < W4.heap.size → w7.heap[b]? = W4.heap[b]?:=fun b hb hl=>O7T.out.block b hl hb
    refine ⟨i + 1,k3,ds ++ [⟨kk,kk + 1,f.es,f.cs,f.ks⟩],fun b=>D b ∨ T b,fun b=>R b ∧ ¬ T b,by omega,rfl,?_,rfl,by go_num,by simp [HDL.out],?_,?_,?_,fun b hb=>hb.elim (hD b) fun h=>(hR b (hT b h)).1,fun b hb=>⟨(hR b hb.1).1,fun h=>h.elim (hR b hb.1).2 hb.2⟩,?_,by have:=Z7.out;omega⟩
    ·rw [htk,rePls_snoc,← HKK.out]
     show k3=(rePl kk x).2
     rw [rePl_cnt,hk4]
    ·rw [List.append_assoc]
     exact r4.keepOwn fun b hb=>hk5 b (fun h=>hRg b (hT b h) (by cases hb;rfl)) (r4.ty b hb).2.1
    ·rw [htk,rePls_snoc,← HKK.out]
     refine PkidsW.snoc (hd4.keep O7T.out.size fun b hb hl=>hk5 b (fun h=>(hR b (hT b h)).2 hb) hl) (T:=T) ?_ (fun b hb=>.inl hb) fun b hb=>⟨.inr hb,(hR b (hT b hb)).2⟩
     rw [rePl_eq,hk1,hk2,PlW]
     exact ⟨rfl,rfl,SE,SC,SK,⟨s1,s2,s3⟩,⟨d1,d2,d3⟩,HE7.out,HI7.out,HP7.out.1,HP7.out.2⟩
    ·exact hr4.keep O7T.out.size fun b hb hl=>hk5 b hb.2 hl
    ·exact hOn4.trans (O7T.out.mono fun b _ hb=>(hR b (hT b hb)).1.1)
  ·have hie:i=ps.length:=by omega
   have HIE:=Lib.hid hie
   go_wp2
   go_ret
   obtain ⟨how,hkd,hkr,hD,hR,hon,hsz⟩:=HW.out
   have hk2:=HKK.out
   rw [HIE.out,List.take_of_length_le (Nat.le_refl _)] at hk2 hkd
   rw [HIE.out,← HF.out,List.drop_length,List.append_nil,HF.out] at how
   refine ⟨ret_int (by rw [hk2,rePls_end]),hsz,hon,by rw [rePls_len],ds,by rw [rePls_len,HDL.out,HIE.out],how,HoS.out,hkd.mono fun b _ hb=>hD b hb⟩

theorem markPlanS_ok:∀ x:Pl,MkP x:=Pl.ind fun x ih s S k w h hB h0 hk=>markPlanS_of x.kids ih (fun y hy=>hB.all.2.2 y hy) s S k w h hB.all.1.2.2 h0 hk
def rePT (k:Int) (x:Pl):Pl:=.mk x.kind x.table (reKids k x.exprs).1 (markI (k + 4 * (x.exprs.length + exKids x.exprs)) x.cols.length) (rePls (k + 4 * (x.exprs.length + exKids x.exprs) + x.cols.length) x.kids).1
def ptMk (x:Pl):Nat:=4 * (x.exprs.length + exKids x.exprs) + x.cols.length + plsMk x.kids

set_option maxHeartbeats 1000000 in
theorem markPlan_ok (x:Pl) (f:FP) (S:Nat → Prop) (k:Int) (w:World) (h:PlW 87 3 38 w S f x) (hB:PlB x) (hk0:0 ≤ k) (hk:k + ptMk x ≤ 1099511627776) :
 Calls Tryz.prog 14 #[fpV f,.int .i64 k] w fun e w'=>e=.returned (.int .i64 (k + ptMk x)) ∧ PlW 87 3 38 w' S f (rePT k x) ∧ Only S w w':=by
 obtain ⟨e1,e2,SE,SC,SK,⟨s1,s2,s3⟩,⟨d1,d2,d3⟩,hE,hI,hP1,hP2⟩:=plW_iff.1 h
 have hP:PlsW 87 3 38 w SK f.ks x.kids:=⟨hP1,hP2⟩
 obtain ⟨⟨b1,b2,b3⟩,_,_⟩:=hB.all
 have hpt:ptMk x=4 * (x.exprs.length + exKids x.exprs) + x.cols.length + plsMk x.kids:=rfl
 obtain ⟨W1,hW1⟩:∃ z,w.alloc (.cells #[.int .i64 f.kind,.int .i64 f.table,.slice f.es.A f.es.n f.es.c,.slice f.cs.A f.cs.n f.cs.c,.slice f.ks.A f.ks.n f.ks.c] 38)=z:=⟨_,rfl⟩
 have B1:Below w.heap.size w W1:=by rw [← hW1];exact balloc (Below.refl _ _) _
 have r1:Row W1 w.heap.size 38 [.int .i64 f.kind,.int .i64 f.table,.slice f.es.A f.es.n f.es.c,.slice f.cs.A f.cs.n f.cs.c,.slice f.ks.A f.ks.n f.ks.c]:=by rw [← hW1];exact Row.new _ _ _
 have lE:∀ b,SE b ∧ b < w.heap.size → SE b:=fun b h=>h.1
 obtain ⟨k1,hk1⟩:∃ k1:Int,k + 4 * ((x.exprs.length:Int) + (exKids x.exprs:Int))=k1:=⟨_,rfl⟩
 obtain ⟨k2,hk2⟩:∃ k2:Int,k1 + (x.cols.length:Int)=k2:=⟨_,rfl⟩
 obtain ⟨k3,hk3⟩:∃ k3:Int,k2 + (plsMk x.kids:Int)=k3:=⟨_,rfl⟩
 have hkb:k3=k + ptMk x:=by omega
 rw [← hkb] at hk ⊢
 -- the lists lie below: the box of the call's own is none of theirs
 have hE1:=hE.carry (w':=W1) (T:=fun b=>SE b ∧ b < w.heap.size) (fun b hb h=>⟨h,hb⟩) fun b _ hl=>B1.block b hl
 have hI1:=hI.carry (w':=W1) (T:=fun b=>SC b ∧ b < w.heap.size) (fun b hb h=>⟨h,hb⟩) fun b _ hl=>B1.block b hl
 have hP0:PlsW 87 3 38 w (fun b=>SK b ∧ b < w.heap.size) f.ks x.kids:=by
  obtain ⟨h1,fs,h2,h3,h4,h5⟩:=hP
  exact ⟨h1,fs,h2,h3,fun b hb=>⟨h4 b hb,(h3.ty b hb).2.1⟩,h5.mono fun b hl hb=>⟨⟨hb.1,hl⟩,hb.2⟩⟩
 have hP1':=hP0.keep (w':=W1) B1.size fun b _ hl=>B1.block b hl
 have ME:=Lib.hid (markExs_ok f.es x.exprs _ k W1 hE1 b1 hk0 (by omega))
 rw [hk1] at ME
 have MI:=Lib.hid (fun (z:World) hz=>markInt_ok f.cs x.cols (fun b=>SC b ∧ b < w.heap.size) k1 z hz b2 (by omega) (by omega))
 rw [hk2] at MI
 have MP:=Lib.hid (fun (z:World) hz=>markPlanS_ok x f.ks (fun b=>SK b ∧ b < w.heap.size) k2 z hz hB (by omega) (by omega))
 rw [hk3] at MP
 have CX:=Lib.hid (fun (z:World) (hz:Only (fun b=>b < w.heap.size) W1 z)=>show z.cell? ⟨w.heap.size,2,none⟩=some (.slice f.es.A f.es.n f.es.c) ∧ z.cell? ⟨w.heap.size,3,none⟩=some (.slice f.cs.A f.cs.n f.cs.c) ∧ z.cell? ⟨w.heap.size,4,none⟩=some (.slice f.ks.A f.ks.n f.ks.c) from by
  have rz:=r1.only hz (by omega)
  exact ⟨rz.cell 2,rz.cell 3,rz.cell 4⟩)
 have HE1:=Lib.hid hE1
 have HI1:=Lib.hid hI1
 have HP1:=Lib.hid hP1'
 have HD:=Lib.hid (And.intro (And.intro d1 (And.intro d2 d3)) (And.intro s1 (And.intro s2 s3)))
 have HW1:=Lib.hid hW1
 have HB1:=Lib.hid B1
 have HH:=Lib.hid (And.intro e1 (And.intro e2 (And.intro hk1 hk2)))
 obtain ⟨q2,q3,q4⟩:=CX.out W1 (Only.refl _)
 unfold fpV
 clear h e1 e2 hE hI hP hP1 hP2 hE1 hI1 hP0 hP1' hW1 B1 r1 s1 s2 s3 d1 d2 d3 hk1 hk2 hk3 hkb hpt lE
 go_enter Tryz.func14,Tryz.ntmps14
 go_upto_region 1 with fail
 rw [HW1.out]
 go_wp2_with fail
 refine ME.out.mono ?_
 rintro e w5 ⟨rfl,z5,o5,hE5⟩
 have O5:=Lib.hid (show Only (fun b=>b < w.heap.size) W1 w5 from o5.mono fun b _ hb=>hb.2)
 have O5S:=Lib.hid (show Only S W1 w5 from o5.mono fun b _ hb=>HD.out.2.1 b hb.1)
 have HI5:=Lib.hid (HI1.out.carry (w':=w5) (T:=fun b=>SC b ∧ b < w.heap.size) (fun _ _ h=>h) fun b hb hl=>o5.block b hl fun he=>HD.out.1.1 b he.1 hb.1)
 have HP5:=Lib.hid (HP1.out.keep (w':=w5) o5.size fun b hb hl=>o5.block b hl fun he=>HD.out.1.2.1 b he.1 hb.1)
 have HE5:=Lib.hid hE5
 clear q2 q3 q4 o5 hE5 z5
 obtain ⟨q2,q3,q4⟩:=CX.out w5 O5.out
 go_wp2_with fail
 refine (MI.out w5 HI5.out).mono ?_
 rintro e w6 ⟨rfl,z6,o6,hI6⟩
 have O6:=Lib.hid (show Only (fun b=>b < w.heap.size) W1 w6 from O5.out.trans (o6.mono fun b _ hb=>hb.2))
 have O6S:=Lib.hid (show Only S W1 w6 from O5S.out.trans (o6.mono fun b _ hb=>HD.out.2.2.1 b hb.1))
 have HE6:=Lib.hid (HE5.out.carry (w':=w6) (T:=fun b=>SE b ∧ b < w.heap.size) (fun _ _ h=>h) fun b hb hl=>o6.block b hl fun he=>HD.out.1.1 b hb.1 he.1)
 have HP6:=Lib.hid (HP5.out.keep (w':=w6) o6.size fun b hb hl=>o6.block b hl fun he=>HD.out.1.2.2 b he.1 hb.1)
 have HI6:=Lib.hid hI6
 clear q2 q3 q4 o6 hI6 z6
 obtain ⟨q2,q3,q4⟩:=CX.out w6 O6.out
 go_wp2_with fail
 refine (MP.out w6 HP6.out).mono ?_
 rintro e w7 ⟨rfl,z7,o7,hP7⟩
 have O7S:=Lib.hid (show Only S W1 w7 from O6S.out.trans (o7.mono fun b _ hb=>HD.out.2.2.2 b hb.1))
 have HE7:=Lib.hid (HE6.out.carry (w':=w7) (T:=SE) (fun _ _ h=>h.1) fun b hb hl=>o7.block b hl fun he=>HD.out.1.2.1 b hb.1 he.1)
 have HI7:=Lib.hid (HI6.out.carry (w':=w7) (T:=SC) (fun _ _ h=>h.1) fun b hb hl=>o7.block b hl fun he=>HD.out.1.2.2 b hb.1 he.1)
 have HP7:=Lib.hid hP7
 clear q2 q3 q4 o7 hP7 z7
 go_wp2
 go_ret
 obtain ⟨⟨d1,d2,d3⟩,s1,s2,s3⟩:=HD.out
 obtain ⟨e1,e2,hk1,hk2⟩:=HH.out
 refine ⟨rfl,?_,(only_below (S:=S) HB1.out).trans O7S.out⟩
 unfold rePT
 rw [hk1,hk2,plW_iff]
 obtain ⟨h1,fs,h2,h3,h4,h5⟩:=HP7.out
 exact ⟨e1,e2,SE,SC,SK,⟨s1,s2,s3⟩,⟨d1,d2,d3⟩,HE7.out,HI7.out,h1,fs,h2,h3,fun b hb=>(h4 b hb).1,h5.mono fun b _ hb=>⟨hb.1.1,hb.2⟩⟩
end Go.Proofs.YtcbfbgngkdiijaaGreat
