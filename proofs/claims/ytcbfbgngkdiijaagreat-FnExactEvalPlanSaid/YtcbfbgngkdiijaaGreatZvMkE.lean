import Derived.Test.YtcbfbgngkdiijaaGreatProg
import Derived.Test.YtcbfbgngkdiijaaGreatZvExW
import Derived.Test.YtcbfbgngkdiijaaGreatZvSzE
namespace Go.Proofs.YtcbfbgngkdiijaaGreat
open Go.RowKit Go.Qo
set_option linter.unusedVariables false
set_option linter.unusedSimpArgs false

mutual
def reEx:Int → Ex → Ex × Int
 | k,.mk _ _ _ ks=>(.mk k (k + 1) (((k + 2) % 3 == 0),k + 3) (reKids (k + 4) ks).1,(reKids (k + 4) ks).2)
def reKids:Int → List Ex → List Ex × Int
 | k,[]=>([],k)
 | k,x :: xs=>((reEx k x).1 :: (reKids (reEx k x).2 xs).1,(reKids (reEx k x).2 xs).2)
end
theorem reEx_eq (k:Int) (x:Ex):reEx k x=(.mk k (k + 1) (((k + 2) % 3 == 0),k + 3) (reKids (k + 4) x.kids).1,(reKids (k + 4) x.kids).2):=by
 obtain ⟨a,b,c,d⟩:=x
 rw [reEx]
 rfl
theorem reKids_len:∀ (xs:List Ex) (k:Int),(reKids k xs).1.length=xs.length
 | [],k=>by rw [reKids]
 | x :: xs,k=>by rw [reKids];simp [reKids_len xs]
theorem reKids_snoc:∀ (xs:List Ex) (k:Int) (x:Ex),reKids k (xs ++ [x])=((reKids k xs).1 ++ [(reEx (reKids k xs).2 x).1],(reEx (reKids k xs).2 x).2)
 | [],k,x=>by rw [List.nil_append,reKids,reKids,reKids];rfl
 | y :: ys,k,x=>by rw [List.cons_append,reKids,reKids_snoc ys,reKids];rfl
theorem reKids_cnt:∀ (xs:List Ex),(∀ x ∈ xs,∀ k,(reEx k x).2=k + 4 * (1 + exCnt x)) → ∀ k,(reKids k xs).2=k + 4 * (xs.length + exKids xs)
 | [],_,k=>by rw [reKids];simp [exKids]
 | x :: xs,h,k=>by
   rw [reKids]
   dsimp only
   rw [reKids_cnt xs (fun y hy=>h y (List.mem_cons_of_mem _ hy)),h x (List.mem_cons_self ..),exKids]
   simp
   omega
theorem reEx_cnt:∀ (x:Ex) (k:Int),(reEx k x).2=k + 4 * (1 + exCnt x):=Ex.ind fun x ih k=>by
 rw [reEx_eq]
 dsimp only
 rw [reKids_cnt x.kids ih,exCnt_eq]
 omega
theorem reKids_end (xs:List Ex) (k:Int):(reKids k xs).2=k + 4 * (xs.length + exKids xs):=reKids_cnt xs (fun x _=>reEx_cnt x) k
theorem flat_setE:∀ (xs:List FE) (j:Nat) (y:FE) (sv:SV),xs[j]?.map (·.sv)=some sv → ((((xs.flatMap feC).set (j * 5) (.int .i64 y.kind)).set (j * 5 + 1) (.int .i64 y.col)).set (j * 5 + 2) (.bool y.val.1)).set (j * 5 + 3) (.int .i64 y.val.2)=(xs.set j ⟨y.kind,y.col,y.val,sv⟩).flatMap feC
 | [],j,y,sv,h=>by simp at h
 | x :: xs,0,y,sv,h=>by
   simp at h
   subst h
   simp [feC]
 | x :: xs,j + 1,y,sv,h=>by
   have ih:=flat_setE xs j y sv (by simpa using h)
   rw [show (j + 1) * 5=j * 5 + 5 by omega]
   simpa [feC] using ih

def MkS (es:List Ex) (A:Option Addr) (c:Nat) (S:Nat → Prop) (k:Int) (w:World) (e:Ending) (w':World):Prop:=
 e=.returned (.int .i64 (reKids k es).2) ∧ w'.heap.size=w.heap.size ∧ Only (fun b=>S b ∨ (Value.slice A es.length c).ownBlock=some b) w w' ∧
  ∃ fs:List FE,fs.length=es.length ∧ Ow 0 87 5 feC w' (.slice A es.length c) fs ∧ KidsW 87 w' S fs (reKids k es).1
def MkE (x:Ex):Prop:=∀ (A:Option Addr) (c:Nat) (S:Nat → Prop) (fs:List FE) (k:Int) (w:World),fs.length=x.kids.length → x.kids.length ≤ 1048576 → Ow 0 87 5 feC w (.slice A x.kids.length c) fs → KidsW 87 w S fs x.kids →
 (∀ b,S b → (Value.slice A x.kids.length c).ownBlock ≠ some b) → 0 ≤ k → k + 4 * (x.kids.length + exKids x.kids) ≤ 1125899906842624 →
 Calls Tryz.prog 36 #[.slice A x.kids.length c,.int .i64 k] w (MkS x.kids A c S k w)

set_option maxHeartbeats 2000000 in
theorem markExprS_of (es:List Ex) (he:∀ x ∈ es,MkE x) (A:Option Addr) (c:Nat) (S:Nat → Prop) (fs:List FE) (k:Int) (w:World) (hfl:fs.length=es.length) (hn:es.length ≤ 1048576) (how:Ow 0 87 5 feC w (.slice A es.length c) fs) (hks:KidsW 87 w S fs es)
 (hS:∀ b,S b → (Value.slice A es.length c).ownBlock ≠ some b) (hk0:0 ≤ k) (hk:k + 4 * (es.length + exKids es) ≤ 1125899906842624) :
 Calls Tryz.prog 36 #[.slice A es.length c,.int .i64 k] w (MkS es A c S k w):=by
 have HE:=Lib.hid he
 have HO:=Lib.hid how
 have HKs:=Lib.hid hks
 have HS:=Lib.hid hS
 have HF:=Lib.hid hfl
 clear he how hks hS hfl
 go_enter Tryz.func36,Tryz.ntmps36
 go_wp2
 go_loopg [1,5] (es.length) (fun g kv iv wr=>∃ (i:Nat) (kk:Int) (ds:List FE) (D R:Nat → Prop),i ≤ es.length ∧ g=es.length - i ∧ kk=(reKids k (es.take i)).2 ∧ kv=.int .i64 kk ∧ iv=.int .i64 i ∧ ds.length=i ∧ Ow 0 87 5 feC wr (.slice A es.length c) (ds ++ fs.drop i) ∧
  KidsW 87 wr D ds (reKids k (es.take i)).1 ∧ KidsW 87 wr R (fs.drop i) (es.drop i) ∧ (∀ b,D b → S b) ∧ (∀ b,R b → S b ∧ ¬ D b) ∧ Only (fun b=>S b ∨ (Value.slice A es.length c).ownBlock=some b) w wr ∧ wr.heap.size=w.heap.size)
 case atStart=>
  refine ⟨0,k,[],fun _=>False,S,by omega,by omega,?_,rfl,rfl,rfl,?_,?_,?_,fun b hb=>hb.elim,fun b hb=>⟨hb,fun h=>h⟩,Only.refl _,rfl⟩
  ·rw [List.take_zero,reKids]
  ·simpa using HO.out
  ·rw [List.take_zero,reKids,KidsW]
  ·simpa using HKs.out
 case round=>
  obtain ⟨i,kk,ds,D,R,hi,rfl,hkk,rfl,rfl,hdl,how,hkd,hkr,hD,hR,hon,hsz⟩:=hrel
  have hke:=reKids_end (es.take i) k
  rw [← hkk] at hke
  have htl:=exKids_le (ks:=es) i
  have hkk1:0 ≤ kk ∧ kk ≤ 1125899906842624:=by rw [hke,List.length_take];omega
  have HW:=Lib.hid (And.intro how (And.intro hkd (And.intro hkr (And.intro hD (And.intro hR (And.intro hon hsz))))))
  have HKK:=Lib.hid hkk
  have HDL:=Lib.hid hdl
  have HKE:=Lib.hid hke
  clear how hkd hD hR hon hsz hkk hdl hke htl
  by_cases hlt:i < es.length
  ·obtain ⟨x,hx⟩:∃ x,es[i]? = some x:=⟨_,List.getElem?_eq_getElem hlt⟩
   have hfl:i < fs.length:=by rw [HF.out];exact hlt
   obtain ⟨f,hf⟩:∃ f,fs[i]? = some f:=⟨_,List.getElem?_eq_getElem hfl⟩
   have hdr:es.drop i=x :: es.drop (i + 1):=by
    rw [List.drop_eq_getElem_cons hlt]
    rw [List.getElem?_eq_getElem hlt] at hx
    rw [Option.some.inj hx]
   have hdf:fs.drop i=f :: fs.drop (i + 1):=by
    rw [List.drop_eq_getElem_cons hfl]
    rw [List.getElem?_eq_getElem hfl] at hf
    rw [Option.some.inj hf]
   have hmem:x ∈ es:=List.mem_of_getElem? hx
   obtain ⟨how,hkd,hkr,hD,hR,hon,hsz⟩:=HW.out
   rw [hdr,hdf,KidsW] at hkr
   obtain ⟨f1,fs1,T,hc,hT,hxw,hrest⟩:=hkr
   obtain ⟨rfl,rfl⟩:f=f1 ∧ fs.drop (i + 1)=fs1:=by injection hc with h1 h2;exact ⟨h1,h2⟩
   obtain ⟨e1,e2,e3,e4,e5,gs,e6,e7,e8,e9⟩:=exW_iff.1 hxw
   have hcap:=e7.shape feC_length
   have hcx:=exCnt_eq x
   have hsum:exKids es=exKids (es.take i) + (exCnt x + exKids (es.drop (i + 1))):=by
    have:=exKids_append (es.take i) (es.drop i)
    rw [List.take_append_drop,hdr,exKids] at this
    exact this
   have hkx:kk + 4 + 4 * (x.kids.length + exKids x.kids) ≤ 1125899906842624:=by
    have:=HKE.out
    rw [List.length_take] at this
    omega
   rw [hdf] at how
   have hat:(ds ++ f :: fs.drop (i + 1))[i]? = some f:=by rw [List.getElem?_append_right (by rw [HDL.out];omega),HDL.out,Nat.sub_self];rfl
   obtain ⟨g,hA,hn2,_,hgl,_,hfz,hcs⟩:=how.head feC_length (by simp;omega)
   subst hA
   have c0:wr.cell? ⟨g,i * 5,none⟩=some (.int .i64 f.kind):=hcs _ _ (flat_get 5 feC feC_length _ i f 0 _ hat rfl)
   have c1:=hcs _ _ (flat_get 5 feC feC_length _ i f 1 _ hat rfl)
   have c2:=hcs _ _ (flat_get 5 feC feC_length _ i f 2 _ hat rfl)
   have c3:=hcs _ _ (flat_get 5 feC feC_length _ i f 3 _ hat rfl)
   have c4:=hcs _ _ (flat_get 5 feC feC_length _ i f 4 _ hat rfl)
   have f0:=hfz (i * 5)
   have f1:=hfz (i * 5 + 1)
   have f2:=hfz (i * 5 + 2)
   have f3:=hfz (i * 5 + 3)
   have hSg:∀ b,S b → b ≠ g:=fun b hb e=>HS.out b hb (by rw [e];rfl)
   have hTS:∀ b,T b → S b ∧ ¬ D b:=fun b hb=>hR b (hT b hb)
   obtain ⟨W4,hW4⟩:∃ z,(((wr.setCell ⟨g,i * 5,none⟩ (.int .i64 kk)).setCell ⟨g,i * 5 + 1,none⟩ (.int .i64 (kk + 1))).setCell ⟨g,i * 5 + 2,none⟩ (.bool ((kk + 2) % 3 == 0))).setCell ⟨g,i * 5 + 3,none⟩ (.int .i64 (kk + 3))=z:=⟨_,rfl⟩
   have O4:Only (fun b=>b=g) wr W4:=by
    rw [← hW4]
    exact ((((Only.refl (S:=fun b=>b=g) wr).set (p:=⟨g,i * 5,none⟩) (.inl rfl) _).set (p:=⟨g,i * 5 + 1,none⟩) (.inl rfl) _).set (p:=⟨g,i * 5 + 2,none⟩) (.inl rfl) _).set (p:=⟨g,i * 5 + 3,none⟩) (.inl rfl) _
   have z4:W4.heap.size=wr.heap.size:=by rw [← hW4];simp [World.setCell]
   have r4:Ow 0 87 5 feC W4 (.slice (some ⟨g,0,none⟩) es.length c) (ds ++ ⟨kk,kk + 1,(((kk + 2) % 3 == 0),kk + 3),f.sv⟩ :: fs.drop (i + 1)):=by
    have hlen:(ds ++ f :: fs.drop (i + 1)).length=es.length:=by simp [HDL.out];have:=HF.out;omega
    have how2:wr.ownsRow 0 87 5 (.slice (some ⟨g,0,none⟩) es.length c) es.length ((ds ++ f :: fs.drop (i + 1)).flatMap feC):=by have:=how;unfold Ow at this;rwa [hlen] at this
    have h1:=(World.ownsRow.stored how2 (i * 5) (.int .i64 kk)).1
    have h2:=(World.ownsRow.stored h1 (i * 5 + 1) (.int .i64 (kk + 1))).1
    have h3:=(World.ownsRow.stored h2 (i * 5 + 2) (.bool ((kk + 2) % 3 == 0))).1
    have h4:=(World.ownsRow.stored h3 (i * 5 + 3) (.int .i64 (kk + 3))).1
    rw [flat_setE _ i ⟨kk,kk + 1,(((kk + 2) % 3 == 0),kk + 3),f.sv⟩ f.sv (by rw [hat];rfl),List.set_append_right _ _ (by rw [HDL.out];omega),HDL.out,Nat.sub_self,List.set_cons_zero] at h4
    rw [← hW4]
    unfold Ow
    have hlen2:(ds ++ ⟨kk,kk + 1,(((kk + 2) % 3 == 0),kk + 3),f.sv⟩ :: fs.drop (i + 1)).length=es.length:=by simp [HDL.out];have:=HF.out;omega
    rw [hlen2]
    exact h4
   have k4:∀ b,b ≠ g → b < wr.heap.size → W4.heap[b]? = wr.heap[b]?:=fun b hb hl=>O4.block b hl hb
   have e7':=e7.keepOwn (w':=W4) fun b hb=>k4 b (hSg b (hTS b (e8 b hb)).1) (e7.ty b hb).2.1
   have e9':=e9.keep (w':=W4) O4.size fun b hb hl=>k4 b (hSg b (hTS b hb.1).1) hl
   rw [e4] at e7' e9' c4
   have IHc:=Lib.hid (HE.out x hmem f.sv.A f.sv.c (fun b=>T b ∧ (Value.slice f.sv.A x.kids.length f.sv.c).ownBlock ≠ some b) gs (kk + 4) W4 e6 e5 e7' e9' (fun b hb=>hb.2) (by omega) hkx)
   have hd4:=hkd.keep (w':=W4) O4.size fun b hb hl=>k4 b (hSg b (hD b hb)) hl
   have hr4:=hrest.keep (w':=W4) O4.size fun b hb hl=>k4 b (hSg b (hR b hb.1).1) hl
   have hOn4:Only (fun b=>S b ∨ (Value.slice (some ⟨g,0,none⟩) es.length c).ownBlock=some b) w W4:=hon.trans (O4.mono fun b _ hb=>.inr (by rw [hb];rfl))
   have HR4:=Lib.hid (And.intro r4 (And.intro hd4 (And.intro hr4 (And.intro hOn4 (And.intro z4 hsz)))))
   have HSETS:=Lib.hid (And.intro hSg (And.intro hTS (And.intro hD (And.intro hR hT))))
   have HX:=Lib.hid (And.intro e6 (And.intro e4 (And.intro hdr hdf)))
   have HHX:=Lib.hid (And.intro hx (And.intro e5 e8))
   have HW4:=Lib.hid hW4
   have hk20:0 ≤ kk + 2:=by omega
   have w1:IntKind.i64.wrap (kk + 1)=kk + 1:=IntWalk.i64_in _ (by omega)
   have w2:IntKind.i64.wrap (kk + 1 + 1)=kk + 2:=by rw [show kk + 1 + 1=kk + 2 by omega];exact IntWalk.i64_in _ (by omega)
   have w3:IntKind.i64.wrap (kk + 2 + 1)=kk + 3:=by rw [show kk + 2 + 1=kk + 3 by omega];exact IntWalk.i64_in _ (by omega)
   have w4:IntKind.i64.wrap (kk + 3 + 1)=kk + 4:=by rw [show kk + 3 + 1=kk + 4 by omega];exact IntWalk.i64_in _ (by omega)
   clear hn2 how hkd hD hR hon hsz hc hT hxw hrest e1 e2 e3 e4 e5 e6 e7 e8 e9 hcap hcs hfz hSg hTS hW4 O4 z4 r4 k4 e7' e9' hd4 hr4 hOn4 hx hf hdr hdf hat hkx hsum hcx
   clear HW
   go_wp2_with fail
   rw [HW4.out]
   refine IHc.out.mono ?_
   rintro e w5 ⟨rfl,hz5,ho5,gs',hg1,hg2,hg3⟩
   have H5:=Lib.hid (And.intro hz5 (And.intro ho5 (And.intro hg1 (And.intro hg2 hg3))))
   have hre:(reEx kk x).2=(reKids (kk + 4) x.kids).2:=by rw [reEx_eq]
   have HRE:=Lib.hid hre
   clear hz5 ho5 hg1 hg2 hg3 c0 c1 c2 c3 c4 f0 f1 f2 f3 hre
   go_wp2
   go_roundg (es.length - (i + 1))
   case measure=>omega
   case rel=>
    obtain ⟨hz5,ho5,hg1,hg2,hg3⟩:=H5.out
    obtain ⟨r4,hd4,hr4,hOn4,z4,hsz⟩:=HR4.out
    obtain ⟨hSg,hTS,hD,hR,hT⟩:=HSETS.out
    obtain ⟨e6,e4,hdr,hdf⟩:=HX.out
    obtain ⟨hx,e5,e8⟩:=HHX.out
    rw [e4] at e8
    have hto:∀ b,((T b ∧ (Value.slice f.sv.A x.kids.length f.sv.c).ownBlock ≠ some b) ∨ (Value.slice f.sv.A x.kids.length f.sv.c).ownBlock=some b) → T b:=fun b hb=>hb.elim (fun h=>h.1) (e8 b)
    have hoT:Only T W4 w5:=ho5.mono fun b _ hb=>hto b hb
    have htk:es.take (i + 1)=es.take i ++ [x]:=by rw [List.take_add_one,hx];rfl
    have hk5:∀ b,¬ T b → b < W4.heap.size → w5.heap[b]? = W4.heap[b]?:=fun b hb hl=>hoT.block b hl hb
    refine ⟨i + 1,(reKids (kk + 4) x.kids).2,ds ++ [⟨kk,kk + 1,(((kk + 2) % 3 == 0),kk + 3),f.sv⟩],fun b=>D b ∨ T b,fun b=>R b ∧ ¬ T b,by omega,rfl,?_,rfl,by go_num,by simp [HDL.out],?_,?_,?_,fun b hb=>hb.elim (hD b) fun h=>(hTS b h).1,fun b hb=>⟨(hR b hb.1).1,fun h=>h.elim (hR b hb.1).2 hb.2⟩,?_,by omega⟩
    ·rw [htk,reKids_snoc,← HKK.out,HRE.out]
    ·rw [List.append_assoc]
     exact r4.keepOwn fun b hb=>hk5 b (fun h=>hSg b (hTS b h).1 (by cases hb;rfl)) (r4.ty b hb).2.1
    ·rw [htk,reKids_snoc,← HKK.out]
     refine KidsW.snoc (hd4.keep hoT.size fun b hb hl=>hk5 b (fun h=>(hTS b h).2 hb) hl) (T:=T) ?_ (fun b hb=>.inl hb) fun b hb=>⟨.inr hb,(hTS b hb).2⟩
     rw [reEx_eq,ExW]
     refine ⟨rfl,rfl,rfl,?_,by rw [reKids_len];exact e5,gs',by rw [reKids_len];exact hg1,?_,?_,?_⟩
     ·rw [reKids_len];exact e4
     ·rw [e4];exact hg2
     ·rw [e4];exact e8
     ·rw [e4];exact hg3
    ·exact hr4.keep hoT.size fun b hb hl=>hk5 b hb.2 hl
    ·exact hOn4.trans (hoT.mono fun b _ hb=>.inl (hTS b hb).1)
  ·have hie:i=es.length:=by omega
   have HIE:=Lib.hid hie
   go_wp2
   go_ret
   obtain ⟨how,hkd,hkr,hD,hR,hon,hsz⟩:=HW.out
   have hk2:=HKK.out
   rw [HIE.out,List.take_of_length_le (Nat.le_refl _)] at hk2 hkd
   rw [HIE.out,← HF.out,List.drop_length,List.append_nil,HF.out] at how
   exact ⟨ret_int hk2,hsz,hon,ds,by rw [HDL.out,HIE.out],how,hkd.mono fun b _ hb=>hD b hb⟩

theorem markExprS_ok:∀ x:Ex,MkE x:=Ex.ind fun x ih A c S fs k w h1 h2 h3 h4 h5 h6 h7=>markExprS_of x.kids ih A c S fs k w h1 h2 h3 h4 h5 h6 h7
end Go.Proofs.YtcbfbgngkdiijaaGreat
