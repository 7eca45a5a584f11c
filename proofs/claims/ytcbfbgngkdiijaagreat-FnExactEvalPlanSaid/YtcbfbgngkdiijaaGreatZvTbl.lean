import Derived.Test.YtcbfbgngkdiijaaGreatProg
import Derived.Test.YtcbfbgngkdiijaaGreatZvRwt
import Derived.Test.YtcbfbgngkdiijaaGreatZvGe
import Derived.Test.YtcbfbgngkdiijaaGreatZvGc
import Derived.Test.YtcbfbgngkdiijaaGreatZvEvr
import Derived.Test.YtcbfbgngkdiijaaGreatZvTev
import Derived.Test.YtcbfbgngkdiijaaGreatZvGe
import Derived.Test.YtcbfbgngkdiijaaGreatZvArgX
namespace Go.Proofs.YtcbfbgngkdiijaaGreat
open Go.RowKit Go.Qo
set_option linter.unusedVariables false
set_option linter.unusedSimpArgs false

def DbB (db:List Tb):Prop:=db.length ≤ 1048576 ∧ ∀ t ∈ db,t.2.length ≤ 1048576 ∧ ∀ r ∈ t.2,r.length ≤ 1048576
set_option maxRecDepth 20000 in
set_option maxHeartbeats 2000000 in
theorem eqTableS_ok (db:List Tb) (A A':Option Addr) (c c':Nat) (w:World) (hn:db.length ≤ maxLen) (h:DbIn w w.heap.size A db) (h':DbIn w w.heap.size A' db) :
 Calls Tryz.prog 13 #[.slice A db.length c,.slice A' db.length c'] w fun e w'=>e=.returned (.bool true) ∧ Below w.heap.size w w':=by
 have HH:=Lib.hid (And.intro h h')
 clear h h'
 unfold maxLen at hn
 go_enter Tryz.func13,Tryz.ntmps13
 go_wp2
 go_loopg [5] db.length (fun g iv wr=>∃ i:Nat,i ≤ db.length ∧ g=db.length - i ∧ iv=.int .i64 i ∧ Below w.heap.size w wr)
 case atStart=>exact ⟨0,by omega,by omega,rfl,Below.refl _ _⟩
 case round=>
  obtain ⟨i,hi,rfl,rfl,hb⟩:=hrel
  have HB:=Lib.hid hb
  clear hb
  by_cases hlt:i < db.length
  ·obtain ⟨b1,o1,A1,c1,hA,hB1,d0,d1,hc1,hc2,hf⟩:=(dbIn_on HH.out.1 HB.out).at_ hlt
   obtain ⟨b2,o2,A2,c2,hA',hB2,k0,k1,hc3,hc4,hg⟩:=(dbIn_on HH.out.2 HB.out).at_ hlt
   subst hA
   subst hA'
   obtain ⟨T,hT⟩:∃ T,db[i]=T:=⟨_,rfl⟩
   rw [hT] at d0 d1 k0 k1 hc1 hc3 hf hg
   have HX:=Lib.hid (fun z:Aft wr.heap.size wr=>eqTable_ok T.1 T.1 A1 A2 c1 c2 T.2 T.2 z.v (by omega) (by omega) (hf.on z.h) (hg.on z.h) true ⟨fun _=>⟨rfl,rfl⟩,fun _=>rfl⟩)
   have hil:(i:Int) < (db.length:Int):=by omega
   obtain ⟨W,hW⟩:∃ x,T.1=x:=⟨_,rfl⟩
   obtain ⟨n,hnn⟩:∃ x,T.2.length=x:=⟨_,rfl⟩
   rw [hW,hnn] at HX
   rw [hW] at d0 k0
   rw [hnn] at d1 k1
   have D0:=fun z:Aft wr.heap.size wr=>z.cell hB1 d0
   have D1:=fun z:Aft wr.heap.size wr=>z.cell hB1 d1
   have K0:=fun z:Aft wr.heap.size wr=>z.cell hB2 k0
   have K1:=fun z:Aft wr.heap.size wr=>z.cell hB2 k1
   clear hf hg d0 d1 k0 k1 hT hW hnn hc1 hc2 hc3 hc4
   go_wp2
   refine wp_region_aft wr.heap.size (by kernel_rfl) (by kernel_rfl) ?_
   repeat (go_big_quiet_step ((go_at_call 11;exact Calls.aft (Nat.le_refl _) (HX.out _))))
   refine wpQuiet_nil ?_
   intro w2 hw'
   obtain ⟨⟨_,hb2⟩,rfl⟩:=hw'
   go_wp2
   have H2:=Lib.hid (bch HB.out hb2)
   clear hb2 D0 D1 K0 K1
   go_wp2
   go_roundg (db.length - (i + 1))
   case measure=>omega
   case rel=>exact ⟨i + 1,by omega,rfl,by go_num,H2.out⟩
  ·go_wp2
   go_ret
   exact ⟨rfl,HB.out⟩

def TbC (w:World) (lo hi:Nat) (f:FTb) (t:Tb):Prop:=f.W=t.1 ∧ ∃ b bs,f.sv=⟨some ⟨b,0,none⟩,t.2.length,t.2.length⟩ ∧ OwnRs valC 100 85 w lo b bs t.2 [] ∧ b < hi ∧ ∀ k ∈ bs,k < hi
theorem TbC.keep {w w':World} {lo hi:Nat} {f:FTb} {t:Tb} (h:TbC w lo hi f t) (hk:∀ c,lo ≤ c → c < w.heap.size → w'.heap[c]? = w.heap[c]?):TbC w' lo hi f t:=by
 obtain ⟨h1,b,bs,h2,h3,h4,h5⟩:=h
 exact ⟨h1,b,bs,h2,h3.keep hk,h4,h5⟩
theorem TbC.lower {w:World} {lo lo' hi:Nat} {f:FTb} {t:Tb} (h:TbC w lo hi f t) (hl:lo' ≤ lo):TbC w lo' hi f t:=by
 obtain ⟨h1,b,bs,h2,h3,h4,h5⟩:=h
 exact ⟨h1,b,bs,h2,h3.lower hl,h4,h5⟩
def DbC (w:World) (b hi:Nat) (db:List Tb):Prop:=∃ (fs:List FTb) (cut:Nat → Nat),fs.length=db.length ∧ Row w b 32 (fs.flatMap ftC) ∧ b < cut 0 ∧ cut db.length ≤ hi ∧ (∀ j,j < db.length → cut j ≤ cut (j + 1)) ∧
 ∀ (j:Nat) (f:FTb) (t:Tb),fs[j]? = some f → db[j]? = some t → TbC w (cut j) (cut (j + 1)) f t
theorem inT_own {w:World} {lo b:Nat} {bs:List Nat} {rows:List Row1} (h:OwnRs valC 100 85 w lo b bs rows []) (hm:∀ r ∈ rows,r.length ≤ maxLen):InT w (some ⟨b,0,none⟩) rows:=by
 refine ⟨List.zipWith rowSV bs rows,Row.slT svC_length h.outer (Nat.zero_le _),by rw [List.length_zipWith,h.len,Nat.min_self],fun i s xs h1 h2=>?_⟩
 rw [List.getElem?_zipWith,h2] at h1
 cases hc:bs[i]? with
 | none=>rw [hc] at h1;simp at h1
 | some c=>
   rw [hc] at h1
   simp only [Option.some.injEq] at h1
   subst h1
   exact ⟨rfl,Nat.le_refl _,hm xs (List.mem_of_getElem? h2),Row.slT' valC_length (h.inner i c xs hc h2) (Nat.zero_le _)⟩
theorem DbC.db {w:World} {b hi:Nat} {db:List Tb} (h:DbC w b hi db) (hB:DbB db):DbT w (some ⟨b,0,none⟩) db:=by
 obtain ⟨fs,cut,h1,h2,h3,h4,h5,h6⟩:=h
 refine ⟨fs,h1,Row.sl' ftC_length h2,fun i f t hf ht=>?_⟩
 obtain ⟨g1,b',bs,g2,g3,g4,g5⟩:=h6 i f t hf ht
 obtain ⟨q1,q2⟩:=hB.2 t (List.mem_of_getElem? ht)
 have hml:t.2.length ≤ maxLen:=by unfold maxLen;omega
 refine ⟨g1,?_,?_⟩
 ·rw [g2];exact ⟨rfl,Nat.le_refl _,hml⟩
 ·rw [g2];exact inT_own g3 fun r hr=>by have:=q2 r hr;unfold maxLen;omega
def zTb:List Value:=[.int .i64 0,.slice none 0 0]
theorem zeroTb2:(Tryz.prog.info? 32).map (fun i=>(i.zero,i.size,i.bytes))=some (some (.agg #[.int .i64 0,.slice none 0 0]),2,32):=by kernel_rfl
set_option maxRecDepth 20000 in
set_option maxHeartbeats 2000000 in
theorem toTableS_ok (db:List Tb) (A:Option Addr) (c:Nat) (w:World) (hB:DbB db) (h:DbIn w w.heap.size A db) :
 Calls Tryz.prog 9 #[.slice A db.length c] w fun e w'=>e=.returned (.slice (some ⟨w.heap.size,0,none⟩) db.length db.length) ∧ DbC w' w.heap.size w'.heap.size db ∧ Below w.heap.size w w':=by
 have hn:=hB.1
 have hmk:=run_make_rowN (P:=Tryz.prog) 40 32 _ _ _ Tryz.underlying40 zeroTb2 .i64 .i64 db.length (by omega) (by omega)
 have HD:=Lib.hid hB.2
 have HH:=Lib.hid h
 clear hB h
 go_enter Tryz.func9,Tryz.ntmps9
 go_wp2
 go_loopg [4] (db.length) (fun g i wr=>∃ (k:Nat) (gs:List FTb) (cut:Nat → Nat),gs.length=db.length ∧ k ≤ db.length ∧ g=db.length - k ∧ i=.int .i64 k ∧ Below w.heap.size w wr ∧ Row wr w.heap.size 32 (filled ftC zTb gs k) ∧
  w.heap.size < cut 0 ∧ cut k ≤ wr.heap.size ∧ (∀ j,j < k → cut j ≤ cut (j + 1)) ∧ ∀ (j:Nat) (g:FTb) (x:Tb),j < k → gs[j]? = some g → db[j]? = some x → TbC wr (cut j) (cut (j + 1)) g x)
 case atStart=>
  refine ⟨0,List.replicate db.length ⟨0,⟨none,0,0⟩⟩,fun _=>w.heap.size + 1,by simp,by omega,by omega,rfl,balloc (Below.refl _ _) _,?_,by simp,by simp,fun j hj=>absurd hj (by omega),fun j g x hj=>absurd hj (by omega)⟩
  refine (Row.new _ _ _).of ((made_zeros zTb db.length).trans ?_)
  have:=filled_zero ftC zTb (List.replicate db.length (⟨0,⟨none,0,0⟩⟩:FTb))
  rw [this]
  simp
 case round=>
  obtain ⟨k,gs,cut,hgl,hk,rfl,rfl,hb,hrow,hcut0,hcutk,hcutm,hts⟩:=hrel
  have HB:=Lib.hid hb
  have HTs:=Lib.hid hts
  have Hrow:=Lib.hid hrow
  have Hgl:=Lib.hid hgl
  have HC:=Lib.hid (And.intro hcut0 (And.intro hcutk hcutm))
  clear hb hts hrow hgl hmk hcut0 hcutk hcutm
  by_cases hlt:k < db.length
  ·obtain ⟨b1,o1,A',c',hA,hB1,d0,d1,hc1,hc2,hf⟩:=(dbIn_on HH.out HB.out).at_ hlt
   subst hA
   obtain ⟨q1,q2⟩:=HD.out _ (List.getElem_mem hlt)
   have hgt:=List.getElem?_eq_getElem hlt
   obtain ⟨T,hT⟩:∃ T,db[k]=T:=⟨_,rfl⟩
   rw [hT] at d0 d1 hc1 hf hgt q1 q2
   have HX:=Lib.hid (toTable_ok T.1 A' c' T.2 wr q1 q2 hf)
   have hil:(k:Int) < (db.length:Int):=by omega
   have hlen:=filled_length 2 ftC ftC_length zTb rfl gs (k:=k) (by have:=Hgl.out;omega)
   have HL:=Lib.hid (show k * 2 + 1 < (filled ftC zTb gs k).length by have:=Hgl.out;omega)
   obtain ⟨v0,hv0⟩:∃ v,(filled ftC zTb gs k)[k * 2]? = some v:=⟨_,List.getElem?_eq_getElem (by have:=HL.out;omega)⟩
   have Hv0:=Lib.hid hv0
   obtain ⟨v1,hv1⟩:∃ v,(filled ftC zTb gs k)[k * 2 + 1]? = some v:=⟨_,List.getElem?_eq_getElem (by have:=HL.out;omega)⟩
   have Hv1:=Lib.hid hv1
   have HG:=Lib.hid hgt
   obtain ⟨W,hW⟩:∃ x,T.1=x:=⟨_,rfl⟩
   obtain ⟨n,hnn⟩:∃ x,T.2.length=x:=⟨_,rfl⟩
   have HN:=Lib.hid (And.intro hW hnn)
   rw [hW,hnn] at HX
   rw [hW] at d0
   rw [hnn] at d1
   clear hf hlen hv0 hv1 hT hgt q1 q2 hc1 hc2 hW hnn
   go_wp2_with fail
   refine HX.out.mono ?_
   rintro e w1 ⟨b',bs,rfl,hb1,hown⟩
   have hrow1:=Hrow.out.on hb1
   have e0:=(hrow1.cell (k * 2)).trans Hv0.out
   have e1:=(hrow1.cell (k * 2 + 1)).trans Hv1.out
   have f0:=hrow1.frozen (k * 2)
   have f1:=hrow1.frozen (k * 2 + 1)
   have Hrow1:=Lib.hid hrow1
   have HB1:=Lib.hid (bch HB.out hb1)
   have HO1:=Lib.hid hown
   have HTs1:=Lib.hid (fun (j:Nat) (g:FTb) (x:Tb) hj hg hx=>(HTs.out j g x hj hg hx).keep fun q _ hq=>hb1.block q hq)
   have hsz:=Hrow.out.lt
   have hsz1:=hb1.size
   clear hrow1 hown hb1
   go_wp2
   go_roundg (db.length - (k + 1))
   case measure=>omega
   case rel=>
    obtain ⟨C1,C2,C3⟩:=HC.out
    have hmon:∀ j,j ≤ k → cut 0 ≤ cut j:=by
     intro j hj
     induction j with
     | zero=>exact Nat.le_refl _
     | succ j ih=>exact Nat.le_trans (ih (by omega)) (C3 j (by omega))
    have hO:∀ q,w.heap.size < q → ((w1.setCell ⟨w.heap.size,k * 2,none⟩ (.int .i64 W)).setCell ⟨w.heap.size,k * 2 + 1,none⟩ (.slice (some ⟨b',0,none⟩) n n)).heap[q]? = w1.heap[q]?:=fun q hq=>by
     rw [Below.heap_setCell _ _ _ _ (by show q ≠ w.heap.size;omega),Below.heap_setCell _ _ _ _ (by show q ≠ w.heap.size;omega)]
    refine ⟨k + 1,gs.set k ⟨W,⟨some ⟨b',0,none⟩,n,n⟩⟩,fun j=>if j ≤ k then cut j else w1.heap.size,by rw [List.length_set];exact Hgl.out,by omega,rfl,by go_num,?_,?_,by simpa using C1,by simp [show ¬ k + 1 ≤ k by omega],fun j hj=>?_,fun j g x hj hg hx=>?_⟩
    ·exact (HB1.out.setCell (p:=⟨_,_,none⟩) (Nat.le_refl _) _).setCell (p:=⟨_,_,none⟩) (Nat.le_refl _) _
    ·refine ((Hrow1.out.set _ _).set _ _).of ?_
     rw [← filled_set ftC zTb gs k ⟨W,⟨some ⟨b',0,none⟩,n,n⟩⟩]
     exact filled_next 2 ftC ftC_length zTb rfl (gs.set k ⟨W,⟨some ⟨b',0,none⟩,n,n⟩⟩) (by rw [List.getElem?_set_self (by have:=Hgl.out;omega)])
    ·dsimp only
     by_cases hjk:j < k
     ·rw [if_pos (by omega),if_pos (by omega)];exact C3 j hjk
     ·rw [if_pos (by omega),if_neg (by omega)]
      obtain rfl:j=k:=by omega
      omega
    ·dsimp only
     by_cases hjk:j < k
     ·rw [if_pos (by omega),if_pos (by omega)]
      rw [List.getElem?_set_ne (by omega)] at hg
      have:=hmon j (by omega)
      exact (HTs1.out j g x hjk hg hx).keep fun q hq1 hq2=>hO q (by omega)
     ·obtain rfl:j=k:=by omega
      rw [if_pos (by omega),if_neg (by omega)]
      rw [List.getElem?_set_self (by have:=Hgl.out;omega)] at hg
      rw [HG.out] at hx
      cases hg
      cases hx
      have ho:=HO1.out
      refine ⟨HN.out.1.symm,b',bs,by rw [HN.out.2],?_,ho.outer.lt,fun q hq=>?_⟩
      ·exact (ho.lower (by omega)).keep fun q hq1 hq2=>hO q (by have:=hmon j (by omega);omega)
      ·obtain ⟨i,hi,rfl⟩:=List.getElem_of_mem hq
       have hil:i < T.2.length:=by rw [← ho.len];exact hi
       exact (ho.inner i _ _ (List.getElem?_eq_getElem hi) (List.getElem?_eq_getElem hil)).lt
  ·go_wp2
   go_ret
   have hke:k=db.length:=by omega
   subst hke
   exact ⟨rfl,⟨gs,cut,Hgl.out,Hrow.out.of (filled_all ftC zTb gs (by have:=Hgl.out;omega)),HC.out.1,HC.out.2.1,HC.out.2.2,fun j g x hg hx=>HTs.out j g x (List.getElem?_eq_some_iff.1 hx).1 hg hx⟩,HB.out⟩

section
open Go.ChangeShapes Go.WideShapes Go.Deep
variable {H:Type} {enc:TypeId × Value → H} {P:Program} {w:World} {base:Nat} {spare:Nat → Bool} {held:Bool}
theorem tabs_uni {w:World} {B:Nat}:∀ {fs:List FTb},(∀ f ∈ fs,∃ rows:List Row1,SVok f.sv rows.length ∧ Rws w B f.sv.A rows) → ∃ db:List Tb,db.length=fs.length ∧ ∀ (i:Nat) (f:FTb) (t:Tb),fs[i]? = some f → db[i]? = some t → f.W=t.1 ∧ SVok f.sv t.2.length ∧ Rws w B f.sv.A t.2
 | [],_=>⟨[],rfl,fun i f t hf=>by simp at hf⟩
 | f :: fs,h=>by
   obtain ⟨rows,h1,h2⟩:=h f (List.mem_cons_self ..)
   obtain ⟨db,h3,h4⟩:=tabs_uni (fs:=fs) fun g hg=>h g (List.mem_cons_of_mem _ hg)
   refine ⟨(f.W,rows) :: db,by simp [h3],fun i g t hg ht=>?_⟩
   cases i with
   | zero=>
     simp only [List.getElem?_cons_zero,Option.some.injEq] at hg ht
     subst hg;subst ht
     exact ⟨rfl,h1,h2⟩
   | succ i=>exact h4 i g t (by simpa using hg) (by simpa using ht)
theorem open_tabs {tD tT tS tR tV tB tI:TypeId} (h:ValTypes P tV tB tI) (hS:P.underlying tS=some (.slice tR)) (hR:P.underlying tR=some (.slice tV)) (cR:P.cellsOf tR=1) (cS:P.cellsOf tS=1)
 (hT:∃ f0 f1:Field,P.underlying tT=some (.struct #[f0,f1]) ∧ f0.offset=0 ∧ f1.offset=1 ∧ f0.type=tI ∧ f1.type=tS) (hD:P.underlying tD=some (.slice tT)) (cT:P.cellsOf tT=2)
 {fuel:Nat} {A:Option Addr} {n c:Nat} {x:DataW H × List MemPlace} (ht:DataW.trod enc P w base spare held fuel tD [.slice A n c]=some x) :
 ∃ db:List Tb,db.length=n ∧ n ≤ c ∧ c ≤ maxLen ∧ DbIn w w.heap.size A db:=by
 obtain ⟨fs,hl,hc,hm,hg,hs⟩:=open_slx (sz:=2) (ec:=ftC) (Good:=fun f:FTb=>∃ rows:List Row1,SVok f.sv rows.length ∧ Rws w w.heap.size f.sv.A rows) hD cT (by omega) ftC_length (fun fuel' cs y _ hl' h'=>by
  obtain ⟨W,A',c',rows,e1,_,e3,e4,e5⟩:=open_tab h hS hR cR cS hT hl' h'
  exact ⟨⟨W,⟨A',rows.length,c'⟩⟩,e1,rows,⟨rfl,e3,e4⟩,e5⟩) ht
 obtain ⟨db,h1,h2⟩:=tabs_uni hg
 exact ⟨db,by omega,hc,hm,fs,h1.symm,hs,h2⟩
end
end Go.Proofs.YtcbfbgngkdiijaaGreat
