import Derived.Test.YtcbfbgngkdiijaaGreatProg
import Derived.Test.YtcbfbgngkdiijaaGreatZvTbl
import Derived.Test.YtcbfbgngkdiijaaGreatZvMkg
import Derived.Test.YtcbfbgngkdiijaaGreatZvMkP
import Derived.Test.YtcbfbgngkdiijaaGreatZvSzP
namespace Go.Proofs.YtcbfbgngkdiijaaGreat
open Go.RowKit Go.Qo
set_option linter.unusedVariables false
set_option linter.unusedSimpArgs false

def cellsN (rows:List Row1):Nat:=(rows.map List.length).sum
theorem cellsN_cons (r:Row1) (rs:List Row1):cellsN (r :: rs)=r.length + cellsN rs:=by simp [cellsN]
theorem cellsN_take {rows:List Row1} {i:Nat} {r:Row1} (h:rows[i]? = some r):cellsN (rows.take (i + 1))=cellsN (rows.take i) + r.length:=by
 unfold cellsN
 rw [List.take_add_one,h]
 simp
theorem cellsN_le:∀ (rows:List Row1) (i:Nat),cellsN (rows.take i) ≤ cellsN rows
 | [],i=>by simp [cellsN]
 | r :: rs,0=>by simp [cellsN]
 | r :: rs,i + 1=>by
   rw [List.take_succ_cons,cellsN_cons,cellsN_cons]
   have:=cellsN_le rs i
   omega
theorem szL_val:∀ (rows:List Row1) (l:Int),0 ≤ Go.Qo.szL l rows → Go.Qo.szL l rows=l - cellsN rows
 | [],l,h=>by simp [Go.Qo.szL,cellsN]
 | r :: rs,l,h=>by
   rw [Go.Qo.szL] at h ⊢
   split at h
   ·omega
   ·rename_i hn
    rw [if_neg hn,szL_val rs _ h,cellsN_cons]
    omega
theorem szR_val {rows:List Row1} {l:Int} (h:0 ≤ Go.Qo.szR l rows):Go.Qo.szR l rows=l - (rows.length + cellsN rows):=by
 unfold Go.Qo.szR at h ⊢
 split at h
 ·omega
 ·rename_i hn
  rw [if_neg hn,szL_val rows _ h]
  omega
def tbN (t:Tb):Nat:=1 + t.2.length + cellsN t.2
def dbN (db:List Tb):Nat:=(db.map tbN).sum
theorem dbN_cons (t:Tb) (ts:List Tb):dbN (t :: ts)=tbN t + dbN ts:=by simp [dbN]
theorem dbN_take {db:List Tb} {i:Nat} {t:Tb} (h:db[i]? = some t):dbN (db.take (i + 1))=dbN (db.take i) + tbN t:=by
 unfold dbN
 rw [List.take_add_one,h]
 simp
theorem dbN_le:∀ (db:List Tb) (i:Nat),dbN (db.take i) ≤ dbN db
 | [],i=>by simp [dbN]
 | r :: rs,0=>by simp [dbN]
 | r :: rs,i + 1=>by
   rw [List.take_succ_cons,dbN_cons,dbN_cons]
   have:=dbN_le rs i
   omega
theorem dbN_ge:∀ (db:List Tb) (i:Nat),i ≤ db.length → i ≤ dbN (db.take i)
 | _,0,_=>Nat.zero_le _
 | [],i + 1,h=>absurd h (by simp)
 | t :: ts,i + 1,h=>by
   rw [List.take_succ_cons,dbN_cons]
   have:=dbN_ge ts i (by simpa using h)
   unfold tbN
   omega
theorem plMk_cnt:∀ x:Pl,plMk x ≤ 2 + 4 * plCnt x:=Pl.ind fun x ih=>by
 rw [plMk_eq,plCnt_eq]
 have:plsMk x.kids ≤ 2 * x.kids.length + 4 * plKids x.kids:=by
  generalize x.kids=ks at ih
  induction ks with
  | nil=>simp [plsMk]
  | cons y ys ihy=>
    have h1:=ih y (List.mem_cons_self ..)
    have h2:=ihy fun z hz=>ih z (List.mem_cons_of_mem _ hz)
    simp only [plsMk,plKids,List.length_cons]
    omega
 omega
theorem ptMk_cnt (x:Pl):ptMk x ≤ 4 * plCnt x:=by
 have h:=plMk_cnt x
 rw [plMk_eq] at h
 unfold ptMk
 omega

set_option maxRecDepth 20000 in
set_option maxHeartbeats 2000000 in
theorem szTableS2_ok (db:List Tb) (A:Option Addr) (c:Nat) (left:Int) (w:World) (hn:db.length ≤ maxLen) (h:DbIn w w.heap.size A db) (h0:0 ≤ left) (h1:left ≤ 1048576) :
 Calls Tryz.prog 6 #[.slice A db.length c,.int .i64 left] w fun e w'=>∃ r:Int,e=.returned (.int .i64 r) ∧ -1 ≤ r ∧ r ≤ 1048576 ∧ (0 ≤ r → DbB db ∧ dbN db ≤ 1048576) ∧ Below w.heap.size w w':=by
 unfold maxLen at hn
 have HH:=Lib.hid h
 clear h
 by_cases hl:left - db.length < 0
 ·go_enter Tryz.func6,Tryz.ntmps6
  go_wp2
  go_ret
  exact ⟨-1,rfl,by omega,by omega,fun h=>by omega,Below.refl _ _⟩
 ·obtain ⟨l0,hl0⟩:∃ l0:Int,left - db.length=l0:=⟨_,rfl⟩
  have Hl0:=Lib.hid hl0
  rw [hl0] at hl
  have hw:IntKind.i64.wrap (left - db.length)=l0:=by rw [hl0];exact IntWalk.i64_in _ (by omega)
  have hl1:l0 ≤ 1048576:=by omega
  have hl2:db.length ≤ 1048576:=by omega
  clear hl0
  go_enter Tryz.func6,Tryz.ntmps6
  go_wp2
  go_loopg [1,5] db.length (fun g lv iv wr=>∃ (i:Nat) (l:Int),i ≤ db.length ∧ g=db.length - i ∧ iv=.int .i64 i ∧ 0 ≤ l ∧ l + dbN (db.take i)=l0 + i ∧ lv=.int .i64 l ∧ Below w.heap.size w wr ∧ ∀ t ∈ db.take i,t.2.length ≤ 1048576 ∧ ∀ r ∈ t.2,r.length ≤ 1048576)
  case atStart=>exact ⟨0,l0,by omega,by omega,rfl,by omega,by simp [dbN],rfl,Below.refl _ _,fun t ht=>by simp at ht⟩
  case round=>
   obtain ⟨i,l,hi,rfl,rfl,hl3,hl4,rfl,hb,hall⟩:=hrel
   have HB:=Lib.hid hb
   have HA:=Lib.hid hall
   have HL4:=Lib.hid hl4
   have hge:=dbN_ge db i hi
   have hl5:l ≤ 1048576:=by omega
   clear hb hall hl4 hge
   by_cases hlt:i < db.length
   ·obtain ⟨b1,o1,A',c',hA,hB1,d0,d1,hc1,hc2,hf⟩:=(dbIn_on HH.out HB.out).at_ hlt
    subst hA
    have hgt:=List.getElem?_eq_getElem hlt
    obtain ⟨T,hT⟩:∃ T,db[i]=T:=⟨_,rfl⟩
    rw [hT] at d0 d1 hc1 hf hgt
    obtain ⟨r,hr⟩:∃ r,Go.Qo.szR l T.2=r:=⟨_,rfl⟩
    have HX:=Lib.hid (szTable_ok T.1 A' c' T.2 l wr (by omega) hl3 hl5 hf r hr)
    have HR:=Lib.hid (And.intro (Go.Qo.szR_range T.2 l hl3) (fun h:0 ≤ Go.Qo.szR l T.2=>szR_val h))
    rw [hr] at HR
    have hil:(i:Int) < (db.length:Int):=by omega
    have HG:=Lib.hid hgt
    obtain ⟨W,hW⟩:∃ x,T.1=x:=⟨_,rfl⟩
    obtain ⟨n,hnn⟩:∃ x,T.2.length=x:=⟨_,rfl⟩
    have HN:=Lib.hid hnn
    rw [hW,hnn] at HX
    rw [hW] at d0
    rw [hnn] at d1
    clear hf hr hT hgt hW hnn hc1 hc2
    by_cases hs:r < 0
    ·go_wp2_with fail
     refine HX.out.mono ?_
     rintro e w2 ⟨rfl,hb2⟩
     go_wp2
     go_ret
     exact ⟨-1,rfl,by omega,by omega,fun h=>by omega,bch HB.out hb2⟩
    ·go_wp2_with fail
     refine HX.out.mono ?_
     rintro e w2 ⟨rfl,hb2⟩
     have HB2:=Lib.hid (bch HB.out hb2)
     clear hb2 d0 d1
     go_wp2
     go_roundg (db.length - (i + 1))
     case measure=>omega
     case rel=>
      obtain ⟨hR,hR2⟩:=HR.out
      have hR3:=hR2 (by omega)
      have hL4:=HL4.out
      have hdt:=dbN_take HG.out
      refine ⟨i + 1,r,by omega,rfl,by go_num,by omega,by rw [hdt];unfold tbN;omega,rfl,HB2.out,fun t ht=>?_⟩
      rw [List.take_add_one,HG.out] at ht
      rcases List.mem_append.1 ht with h | h
      ·exact HA.out t h
      ·simp at h
       subst h
       rcases hR with h | ⟨h5,h6,h7,h8⟩
       ·omega
       ·exact ⟨by omega,fun q hq=>by have:=h8 q hq;omega⟩
   ·have hfin:db.take i=db:=List.take_of_length_le (by omega)
    rw [hfin] at HA HL4
    have hie:i=db.length:=by omega
    clear hfin
    go_wp2
    go_ret
    exact ⟨l,rfl,by omega,by omega,fun _=>⟨⟨hl2,HA.out⟩,by have:=HL4.out;have:=Hl0.out;omega⟩,HB.out⟩

set_option maxHeartbeats 1000000 in
theorem markValueSS3_ok (B0 b c:Nat) (bs:List Nat) (rows:List Row1) (more:List Value) (k:Int) (w:World) (hk0:0 ≤ k) (hk:k + 2 * cellsN rows ≤ 1125899906842624) (hn:rows.length ≤ 1048576) (hr:∀ r ∈ rows,r.length ≤ 1048576) (h:OwnRs valC 100 85 w B0 b bs rows more) :
 Calls Tryz.prog 39 #[.slice (some ⟨b,0,none⟩) rows.length c,.int .i64 k] w fun e w'=>∃ q:Int,e=.returned (.int .i64 q) ∧ q=k + 2 * cellsN rows ∧ Only (fun i=>i ∈ bs) w w' ∧ w'.heap.size=w.heap.size:=by
 have HO:=Lib.hid h
 have HL:=Lib.hid hr
 clear h hr
 go_enter Tryz.func39,Tryz.ntmps39
 go_wp2
 go_loopg [1,5] rows.length (fun g kv iv wr=>∃ (i:Nat) (kk:Int),i ≤ rows.length ∧ g=rows.length - i ∧ kk=k + 2 * cellsN (rows.take i) ∧ kv=.int .i64 kk ∧ iv=.int .i64 i ∧ Only (fun i=>i ∈ bs) w wr ∧ wr.heap.size=w.heap.size ∧ ∀ (j c:Nat) (r:Row1),i ≤ j → bs[j]? = some c → rows[j]? = some r → Row wr c 85 (r.flatMap valC))
 case atStart=>exact ⟨0,k,by omega,by omega,by simp [cellsN],rfl,rfl,Only.refl _,rfl,fun j c r _ h1 h2=>HO.out.inner j c r h1 h2⟩
 case round=>
  obtain ⟨i,kk,hi,rfl,hkk,rfl,rfl,hon,hsz,hin⟩:=hrel
  have hcl:=cellsN_le rows i
  have hkk0:0 ≤ kk:=by omega
  have hkk1:kk ≤ 1125899906842624:=by omega
  have HW:=Lib.hid (And.intro hkk (And.intro hon (And.intro hsz hin)))
  clear hkk hon hsz hin hcl
  by_cases hlt:i < rows.length
  ·have hx:=Lib.hid (List.getElem?_eq_getElem hlt)
   have hxl:=HL.out _ (List.getElem_mem hlt)
   have hbl:i < bs.length:=by rw [HO.out.len];exact hlt
   have hy:=Lib.hid (List.getElem?_eq_getElem hbl)
   generalize rows[i]=x at *
   generalize bs[i]=cb at *
   have hbn:¬ (b ∈ bs):=fun hb=>(HO.out.low b hb).2 rfl
   have hout:=HO.out.outer.only HW.out.2.1 hbn
   have c1:wr.cell? ⟨b,i,none⟩=some (.slice (some ⟨cb,0,none⟩) x.length x.length):=(hout.cell i).trans (rowsC_get hy.out hx.out more)
   have HM:=Lib.hid (markValueS_ok cb (some ⟨cb,0,none⟩) x.length x kk wr hkk0 hkk1 hxl (Row.ow valC_length (HW.out.2.2.2 i cb x (Nat.le_refl _) hy.out hx.out) (Nat.le_refl _) (by unfold maxLen;omega)))
   have HT:=Lib.hid (cellsN_take hx.out)
   clear hout hbn
   go_wp2_with fail
   refine HM.out.mono ?_
   rintro e w1 ⟨rfl,_,hon1,hsz1⟩
   have HW1:=Lib.hid (And.intro hon1 hsz1)
   clear hon1 hsz1
   go_wp2
   go_roundg (rows.length - (i + 1))
   case measure=>omega
   case rel=>
    refine ⟨i + 1,kk + 2 * x.length,by omega,rfl,by rw [HT.out,HW.out.1];omega,rfl,by go_num,HW.out.2.1.trans (HW1.out.1.mono fun q _ hq=>?_),HW1.out.2.trans HW.out.2.2.1,fun j c r hj h1 h2=>?_⟩
    ·cases hq;exact List.mem_of_getElem? hy.out
    ·refine (HW.out.2.2.2 j c r (by omega) h1 h2).only HW1.out.1 fun hq=>?_
     cases hq
     have h3:=hy.out
     have:=(List.getElem?_inj hbl HO.out.nodup).1 (h3.trans h1.symm)
     omega
  ·have hte:rows.take i=rows:=List.take_of_length_le (by omega)
   rw [hte] at HW
   clear hte
   go_wp2
   go_ret
   exact ⟨kk,rfl,HW.out.1,HW.out.2.1,HW.out.2.2.1⟩

set_option maxRecDepth 20000 in
set_option maxHeartbeats 1000000 in
theorem markTableS_ok (db:List Tb) (b hi:Nat) (k:Int) (w:World) (hD:DbC w b hi db) (hB:DbB db) (hk0:0 ≤ k) (hk:k + 2 * dbN db ≤ 1099511627776) :
 Calls Tryz.prog 15 #[.slice (some ⟨b,0,none⟩) db.length db.length,.int .i64 k] w fun e w'=>∃ q:Int,e=.returned (.int .i64 q) ∧ 0 ≤ q ∧ Only (fun i=>b ≤ i ∧ i < hi) w w' ∧ w'.heap.size=w.heap.size:=by
 obtain ⟨fs,cut,hfl,hrow,hcut0,hcutn,hcutm,htb⟩:=hD
 have hn:=hB.1
 have hmon:∀ m j,j ≤ m → m ≤ db.length → cut j ≤ cut m:=by
  intro m
  induction m with
  | zero=>intro j hj _;rw [Nat.le_zero.1 hj];exact Nat.le_refl _
  | succ m ih=>
    intro j hj hm
    rcases Nat.lt_or_ge j (m + 1) with h | h
    ·exact Nat.le_trans (ih j (by omega) (by omega)) (hcutm m (by omega))
    ·rw [show j=m + 1 by omega];exact Nat.le_refl _
 have HMon:=Lib.hid (And.intro hmon (And.intro hcut0 hcutn))
 have HBd:=Lib.hid hB.2
 have Hfl:=Lib.hid hfl
 have HT0:=Lib.hid htb
 have HR0:=Lib.hid hrow
 clear hmon hcut0 hcutn hcutm htb hrow hB hfl
 go_enter Tryz.func15,Tryz.ntmps15
 go_wp2
 go_loopg [1,5] db.length (fun g kv iv wr=>∃ (i:Nat) (kk:Int) (cs:List Value),i ≤ db.length ∧ g=db.length - i ∧ (0 ≤ kk ∧ kk ≤ k + 2 * dbN (db.take i)) ∧ kv=.int .i64 kk ∧ iv=.int .i64 i ∧ Only (fun i=>b ≤ i ∧ i < hi) w wr ∧ wr.heap.size=w.heap.size ∧ Row wr b 32 cs ∧ cs.length=db.length * 2 ∧
  (∀ (j:Nat) (f:FTb),i ≤ j → fs[j]? = some f → cs[j * 2 + 1]? = some (.slice f.sv.A f.sv.n f.sv.c)) ∧ ∀ (j:Nat) (f:FTb) (t:Tb),i ≤ j → fs[j]? = some f → db[j]? = some t → TbC wr (cut j) (cut (j + 1)) f t)
 case atStart=>
  exact ⟨0,k,fs.flatMap ftC,by omega,by omega,by simp [dbN];omega,rfl,rfl,Only.refl _,rfl,HR0.out,by rw [flat_length 2 ftC ftC_length,Hfl.out],fun j f _ hf=>flat_get 2 ftC ftC_length fs j f 1 _ hf rfl,fun j f t _ hf ht=>HT0.out j f t hf ht⟩
 case round=>
  obtain ⟨i,kk,cs,hi',rfl,hkk,rfl,rfl,hon,hsz,hrw,hcl,hcs,hts⟩:=hrel
  have hdl:=dbN_le db i
  have hkk0:=hkk.1
  have hkk1:kk ≤ 1099511627776:=by omega
  have HW:=Lib.hid (And.intro hkk (And.intro hon (And.intro hsz (And.intro hcs hts))))
  have HCL:=Lib.hid hcl
  have HRw:=Lib.hid hrw
  clear hkk hon hsz hcs hts hdl hcl hrw
  by_cases hlt:i < db.length
  ·have hil:(i:Int) < (db.length:Int):=by omega
   have hgt:=List.getElem?_eq_getElem hlt
   obtain ⟨f,hft⟩:∃ f,fs[i]? = some f:=⟨_,List.getElem?_eq_getElem (show i < fs.length by rw [Hfl.out];exact hlt)⟩
   obtain ⟨b1,b2⟩:=HBd.out _ (List.getElem_mem hlt)
   obtain ⟨T,hT⟩:∃ T,db[i]=T:=⟨_,rfl⟩
   rw [hT] at b1 b2 hgt
   clear hT
   obtain ⟨g1,b',bs,g2,g3,g4,g5⟩:=HW.out.2.2.2.2 i f T (Nat.le_refl _) hft hgt
   have hm0:=HMon.out.1 i 0 (Nat.zero_le _) (by omega)
   have hm1:=HMon.out.1 (i + 1) i (by omega) (by omega)
   have hm2:=HMon.out.1 db.length (i + 1) (by omega) (Nat.le_refl _)
   have hc0:=HMon.out.2.1
   have hcn:=HMon.out.2.2
   obtain ⟨v0,hv0⟩:∃ v,cs[i * 2]? = some v:=⟨_,List.getElem?_eq_getElem (by have:=HCL.out;omega)⟩
   have e0:=(HRw.out.cell (i * 2)).trans hv0
   have f0:=HRw.out.frozen (i * 2)
   have hlb:=HRw.out.lt
   obtain ⟨V,hV⟩:∃ z,wr.setCell ⟨b,i * 2,none⟩ (.int .i64 kk)=z:=⟨_,rfl⟩
   have hVr:Row V b 32 (cs.set (i * 2) (.int .i64 kk)):=by rw [← hV];exact HRw.out.set _ _
   have hVh:∀ q,q ≠ b → V.heap[q]? = wr.heap[q]?:=fun q hq=>by rw [← hV];exact Below.heap_setCell _ _ _ _ hq
   have hVs:V.heap.size=wr.heap.size:=by rw [← hV];exact World.size_setCell _ _ _
   have hVo:Only (fun q=>b ≤ q ∧ q < hi) wr V:=by rw [← hV];exact (Only.refl (S:=fun q=>b ≤ q ∧ q < hi) wr).set (p:=⟨b,i * 2,none⟩) (.inl (show b ≤ b ∧ b < hi from ⟨Nat.le_refl _,by omega⟩)) _
   have c1:V.cell? ⟨b,i * 2 + 1,none⟩=some (.slice (some ⟨b',0,none⟩) T.2.length T.2.length):=by
    rw [hVr.cell (i * 2 + 1),List.getElem?_set_ne (by omega),HW.out.2.2.2.1 i f (Nat.le_refl _) hft,g2]
   have HM:=Lib.hid (markValueSS3_ok (cut i) b' T.2.length bs T.2 [] (kk + 1) V (by omega) (by
    have:=dbN_take hgt
    have:=dbN_le db (i + 1)
    have:=HW.out.1.2
    unfold tbN at *
    omega) b1 b2 (g3.keep fun q hq _=>hVh q (by omega)))
   have HV:=Lib.hid (And.intro hVr (And.intro hVh (And.intro hVs hVo)))
   have HVe:=Lib.hid hV
   have HG:=Lib.hid (And.intro hgt (And.intro hft (And.intro g4 (And.intro g5 g3))))
   obtain ⟨n,hnn⟩:∃ x,T.2.length=x:=⟨_,rfl⟩
   rw [hnn] at c1 HM
   clear hV hVr hVh hVs hVo hgt hft g1 g2 g3 g4 g5 hv0 b1 b2
   go_upto_region 5 with fail
   rw [HVe.out]
   clear e0 f0
   go_wp2_with fail
   refine HM.out.mono ?_
   rintro e w1 ⟨q,rfl,hq,hon1,hsz1⟩
   have HW1:=Lib.hid (And.intro hq (And.intro hon1 hsz1))
   have hq0:0 ≤ q:=by omega
   clear hon1 hsz1 c1 hq
   go_wp2
   go_roundg (db.length - (i + 1))
   case measure=>omega
   case rel=>
    obtain ⟨hgt,hft,g4,g5,g3⟩:=HG.out
    have hbn:¬ (b ∈ bs):=fun h=>by have:=(g3.low b h).1;omega
    have hlo:∀ q ∈ bs,cut i ≤ q ∧ q < cut (i + 1):=fun q hq=>⟨(g3.low q hq).1,g5 q hq⟩
    refine ⟨i + 1,q,cs.set (i * 2) (.int .i64 kk),by omega,rfl,⟨hq0,?_⟩,rfl,by go_num,?_,?_,HV.out.1.only HW1.out.2.1 hbn,by rw [List.length_set];exact HCL.out,fun j f' hj hf=>?_,fun j f' t hj hf ht=>?_⟩
    ·have:=dbN_take hgt
     have:=HW.out.1.2
     have:=HW1.out.1
     unfold tbN at *
     omega
    ·exact (HW.out.2.1.trans HV.out.2.2.2).trans (HW1.out.2.1.mono fun q _ hq=>by have:=hlo q hq;exact ⟨by omega,by omega⟩)
    ·rw [HW1.out.2.2,HV.out.2.2.1];exact HW.out.2.2.1
    ·rw [List.getElem?_set_ne (by omega)]
     exact HW.out.2.2.2.1 j f' (by omega) hf
    ·have hjl:j < db.length:=(List.getElem?_eq_some_iff.1 ht).1
     have hmj:=HMon.out.1 j (i + 1) hj (by omega)
     refine (HW.out.2.2.2.2 j f' t (by omega) hf ht).keep fun q hq1 hq2=>?_
     rw [HW1.out.2.1.block q (by rw [HV.out.2.2.1];exact hq2) (fun hb=>by have:=hlo q hb;omega)]
     exact HV.out.2.1 q (by omega)
  ·go_wp2
   go_ret
   exact ⟨kk,rfl,hkk0,HW.out.2.1,HW.out.2.2.1⟩
end Go.Proofs.YtcbfbgngkdiijaaGreat
