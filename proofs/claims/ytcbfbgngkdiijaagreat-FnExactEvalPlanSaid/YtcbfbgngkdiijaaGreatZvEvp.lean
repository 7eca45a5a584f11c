import Derived.Test.YtcbfbgngkdiijaaGreatZvPls
import Derived.Test.YtcbfbgngkdiijaaGreatZvPln
import Derived.Test.YtcbfbgngkdiijaaGreatZvGf
import Derived.Test.YtcbfbgngkdiijaaGreatZvGra
namespace Go.Qo
set_option linter.unusedVariables false
set_option linter.unusedSimpArgs false

theorem plW_scan {ws:List Int} {d:Nat} {p:Pl} (h:plW ws d p ≠ 0) (hk:p.kind=1):0 ≤ p.table ∧ p.table < ws.length:=by
 have ho:OnlyF p:=Classical.byContradiction fun hn=>h (plW_no hn)
 have hkl:p.kids.length=0:=by
  have:=ho.2.1
  rw [hk] at this
  simp [nkids] at this
  simpa using this
 have hkn:p.kids=[]:=List.eq_nil_of_length_eq_zero hkl
 rw [plW_top ho (by omega) (by rw [hkn];intro x hx;cases hx)] at h
 unfold topW at h
 rw [if_pos hk] at h
 apply Classical.byContradiction
 intro hn
 rw [if_neg hn] at h
 exact h rfl
end Go.Qo

namespace Go.Qo
set_option linter.unusedVariables false
set_option linter.unusedSimpArgs false
section
variable {a b:List Row1} {ca cb:Nat}
end
end Go.Qo

namespace Go.Qo
set_option linter.unusedVariables false
set_option linter.unusedSimpArgs false

def trI (v:Val):Int:=if v.1 then 1 else if v.2=0 then 0 else 2
def ofTr (t:Int):Val:=if t=1 then (true,0) else (false,if t=2 then 1 else 0)
def flagV (b:Bool):Val:=(false,if b then 1 else 0)
def combV (k:Int) (a b:Val):Val:=
 if k=8 then ofTr (min (trI a) (trI b)) else if k=9 then ofTr (max (trI a) (trI b)) else if a.1 || b.1 then (true,0)
 else if k=3 then numV (a.2 + b.2) else if k=4 then numV (a.2 - b.2) else if k=5 then numV (a.2 * b.2) else if k=6 then flagV (decide (a.2=b.2)) else flagV (decide (a.2 < b.2))
def topV (row:Row1) (k c:Int) (v a b:Val):Val:=if k=1 then getV row c else if k=2 then v else if k=10 then ofTr (2 - trI a) else if k=11 then flagV a.1 else combV k a b
mutual
def exVal (row:Row1):Ex → Val
 | .mk k c v ks=>topV row k c v ((exVals row ks).getD 0 (false,0)) ((exVals row ks).getD 1 (false,0))
def exVals (row:Row1):List Ex → List Val
 | []=>[]
 | e :: es=>exVal row e :: exVals row es
end
theorem exVals_map (row:Row1):∀ es:List Ex,exVals row es=es.map (exVal row)
 | []=>by simp [exVals]
 | e :: es=>by rw [exVals,exVals_map row es];rfl
def kidV (row:Row1) (e:Ex) (i:Nat):Val:=(e.kids.map (exVal row)).getD i (false,0)
theorem kidV_at {row:Row1} {e:Ex} {i:Nat} (h:i < e.kids.length):kidV row e i=exVal row e.kids[i]:=by
 unfold kidV
 rw [List.getD_eq_getElem?_getD,List.getElem?_map,List.getElem?_eq_getElem h];rfl
theorem exVal_eq (row:Row1) (e:Ex):exVal row e=topV row e.kind e.col e.val (kidV row e 0) (kidV row e 1):=by
 obtain ⟨k,c,v,ks⟩:=e
 rw [exVal,exVals_map];rfl

theorem trI_range (v:Val):0 ≤ trI v ∧ trI v ≤ 2:=by unfold trI;split;· omega
                                                    ·split <;> omega
theorem ofTr_valid (t:Int):vValid (ofTr t)=true:=by unfold ofTr;split;· rfl
                                                    ·split <;> rfl
theorem flagV_valid (b:Bool):vValid (flagV b)=true:=by cases b <;> rfl
theorem combV_valid (k:Int) (a b:Val):vValid (combV k a b)=true:=by
 unfold combV
 split;· exact ofTr_valid _
 split;· exact ofTr_valid _
 split;· rfl
 split;· exact numV_valid _
 split;· exact numV_valid _
 split;· exact numV_valid _
 split <;> exact flagV_valid _
theorem exVal_valid {W:Int} {row:Row1} (hr:RowOk W row):∀ (e:Ex) (d:Int),ExOk W d e → vValid (exVal row e)=true:=Ex.ind fun e ih d h=>by
 obtain ⟨h1,h2,h3,h4⟩:=exOk_iff.1 h
 rw [exVal_eq]
 unfold topV
 unfold LocOk at h4
 split
 ·rename_i hk
  rw [if_pos hk] at h4
  unfold getV
  have hl:e.col.toNat < row.length:=by have:=hr.2;omega
  rw [List.getD_eq_getElem?_getD,List.getElem?_eq_getElem hl]
  exact hr.vals _ (List.getElem_mem hl)
 ·rename_i hk
  rw [if_neg hk] at h4
  split
  ·rename_i hk2;rw [if_pos hk2] at h4;exact h4.2
  ·split
   ·exact ofTr_valid _
   ·split
    ·exact flagV_valid _
    ·exact combV_valid _ _ _
def holdsE (e:Ex) (row:Row1):Bool:=trI (exVal row e) == 2

def colS (rows:List Row1):List Row1:=if rows.length ≤ 400 then gSort rCmp rows else []
theorem rCm (W:Int):Cm rCmp (RowOk W) where
 anti:=fun x y hx hy=>by have:=RowOk.anti hx hy;omega
 trans:=fun x y z hx hy hz h1 h2=>RowOk.trans hx hy hz h1 h2
theorem srt_eq {W:Int} {rows out:List Row1} (hr:∀ r ∈ rows,RowOk W r) (hp:out.Perm rows) (ho:out.Pairwise (fun a b=>rCmp a b ≤ 0)):out=gSort rCmp rows:=
 srt_unique (W:=W) (fun r h=>hr r (hp.mem_iff.1 h)) (hp.trans (gSort_perm (rCm W) hr).symm) ho (gSort_ord (rCm W) hr)
theorem colS_ok {W:Int} {rows:List Row1} (hW:1 ≤ W ∧ W ≤ 6) (hr:∀ r ∈ rows,RowOk W r):TabOk W (colS rows):=by
 unfold colS
 split
 ·rename_i hl
  have hp:=gSort_perm (rCm W) hr
  have ho:=gSort_ord (rCm W) hr
  refine ⟨hW.1,hW.2,by rw [hp.length_eq];exact hl,fun r h=>hr r (hp.mem_iff.1 h),fun i a b ha hb=>?_⟩
  exact List.pairwise_iff_getElem.1 ho i (i + 1) (List.getElem?_eq_some_iff.1 ha).1 (List.getElem?_eq_some_iff.1 hb).1 (by omega) |> fun h=>by
   rwa [(List.getElem?_eq_some_iff.1 ha).2,(List.getElem?_eq_some_iff.1 hb).2] at h
 ·exact ⟨hW.1,hW.2,by simp,fun r h=>by simp at h,fun i a b ha _=>by simp at ha⟩
theorem colS_id {W:Int} {rows:List Row1} (h:TabOk W rows):colS rows=rows:=by
 unfold colS
 rw [if_pos h.2.2.1]
 exact gSort_id (rCm W) h.srt.1 h.srt.2
def joinOne (e:Ex) (outer:Bool) (wb:Nat) (r:Row1) (bs:List Row1):List Row1:=
 (bs.filter fun o=>holdsE e (r ++ o)).map (fun o=>r ++ o) ++ (if outer && !(bs.any fun o=>holdsE e (r ++ o)) then [r ++ List.replicate wb (true,0)] else [])
def joinR (e:Ex) (outer:Bool) (wb:Nat) (xa bs:List Row1):List Row1:=xa.flatMap fun r=>joinOne e outer wb r bs
def keepD (rows:List Row1) (k:Nat):Bool:=decide (k=0 ∨ rCmp (rows.getD (k - 1) []) (rows.getD k []) ≠ 0)
def dedT (rows:List Row1):Nat → List Row1
 | 0=>[]
 | k + 1=>dedT rows k ++ (if keepD rows k then [rows.getD k []] else [])
def dedR (rows:List Row1):List Row1:=dedT rows rows.length
theorem dedT_sub (rows:List Row1):∀ k,k ≤ rows.length → (dedT rows k).Sublist (rows.take k)
 | 0,_=>by simp [dedT]
 | k + 1,h=>by
   have ih:=dedT_sub rows k (by omega)
   have hg:rows[k]? = some (rows.getD k []):=by rw [List.getD_eq_getElem?_getD,List.getElem?_eq_getElem (by omega)];rfl
   rw [List.take_add_one,hg]
   unfold dedT
   refine ih.append ?_
   split
   ·exact List.Sublist.refl _
   ·exact List.nil_sublist _
theorem dedR_sub (rows:List Row1):(dedR rows).Sublist rows:=by
 have:=dedT_sub rows rows.length (Nat.le_refl _)
 rwa [List.take_length] at this
end Go.Qo

namespace Go.Qo
set_option linter.unusedVariables false
set_option linter.unusedSimpArgs false

abbrev Tb:=Int × List Row1
def eAt (p:Pl) (i:Nat):Ex:=p.exprs.getD i (.mk 0 0 (false,0) [])
theorem eAt_at {p:Pl} {i:Nat} (h:i < p.exprs.length):eAt p i=p.exprs[i]:=by unfold eAt;rw [List.getD_eq_getElem?_getD,List.getElem?_eq_getElem h];rfl
def dbAt (db:List Tb) (t:Int):Tb:=db.getD t.toNat (0,[])
def rawR (p:Pl) (a b:Tb):List Row1:=
 if p.kind=2 then a.2.filter (holdsE (eAt p 0)) else if p.kind=3 then a.2.map fun r=>p.exprs.map fun e=>exVal r e
 else if p.kind=4 ∨ p.kind=5 then joinR (eAt p 0) (p.kind == 5) b.1.toNat a.2 b.2 else if p.kind=6 then a.2 ++ b.2 else if p.kind=7 then dedR a.2 else srtRows p.cols 0 1 a.2
def topT (db:List Tb) (p:Pl) (a b:Tb):Tb:=
 if p.kind=1 then dbAt db p.table
 else (if p.kind=3 then (p.exprs.length:Int) else if p.kind=4 ∨ p.kind=5 then a.1 + b.1 else if p.kind=8 then (p.cols.length:Int) + 1 else a.1,colS (rawR p a b))
def kidT (g:Pl → Tb) (p:Pl) (i:Nat):Tb:=match p.kids[i]? with | some x=>g x | none=>(0,[])
theorem kidT_at {g:Pl → Tb} {p:Pl} {i:Nat} (h:i < p.kids.length):kidT g p i=g p.kids[i]:=by unfold kidT;rw [List.getElem?_eq_getElem h]
theorem kidT_none {g:Pl → Tb} {p:Pl} {i:Nat} (h:p.kids.length ≤ i):kidT g p i=(0,[]):=by unfold kidT;rw [List.getElem?_eq_none h]
def plT (db:List Tb):Nat → Pl → Tb
 | 0,_=>(0,[])
 | d + 1,p=>topT db p (kidT (plT db d) p 0) (kidT (plT db d) p 1)
def kidC (g:Pl → Int) (p:Pl) (i:Nat):Int:=match p.kids[i]? with | some x=>g x | none=>0
def plCo (db:List Tb):Nat → Pl → Int
 | 0,_=>0
 | d + 1,p=>((plT db (d + 1) p).2.length:Int) + kidC (plCo db d) p 0 + kidC (plCo db d) p 1
def DbOk (db:List Tb):Prop:=∀ t ∈ db,TabOk t.1 t.2
def wsDb (db:List Tb):List Int:=db.map (·.1)
theorem wsDb_ok {db:List Tb} (h:DbOk db):∀ x ∈ wsDb db,1 ≤ x ∧ x ≤ 6:=fun x hx=>by
 obtain ⟨t,ht,rfl⟩:=List.mem_map.1 hx
 exact ⟨(h t ht).1,(h t ht).2.1⟩

theorem rowOk_of {W:Int} {r:Row1} (hW:1 ≤ W ∧ W ≤ 6) (hl:(r.length:Int)=W) (hv:∀ v ∈ r,vValid v=true):RowOk W r:=by
 refine ⟨?_,hl⟩
 unfold rowValid
 simp only [Bool.and_eq_true,decide_eq_true_eq,List.all_eq_true]
 exact ⟨⟨by omega,by omega⟩,hv⟩
theorem nulls_ok {W:Int} {n:Nat} (h:(n:Int)=W) (hW:1 ≤ W ∧ W ≤ 6):RowOk W (List.replicate n ((true,0):Val)):=
 rowOk_of hW (by simpa using h) fun v hv=>by rw [(List.mem_replicate.1 hv).2];rfl
theorem joinOne_ok {Wa Wb:Int} {e:Ex} {o:Bool} {n:Nat} {r:Row1} {bs:List Row1} (hr:RowOk Wa r) (hb:∀ x ∈ bs,RowOk Wb x) (hn:(n:Int)=Wb) (h6:Wa + Wb ≤ 6) (hwb:1 ≤ Wb ∧ Wb ≤ 6):∀ x ∈ joinOne e o n r bs,RowOk (Wa + Wb) x:=fun x hx=>by
 unfold joinOne at hx
 rcases List.mem_append.1 hx with h | h
 ·obtain ⟨y,hy,rfl⟩:=List.mem_map.1 h
  exact rowOk_append hr (hb y (List.mem_filter.1 hy).1) h6
 ·split at h
  ·simp only [List.mem_singleton] at h
   subst h
   exact rowOk_append hr (nulls_ok hn hwb) h6
  ·simp at h
theorem joinR_ok {Wa Wb:Int} {e:Ex} {o:Bool} {n:Nat} {xa bs:List Row1} (ha:∀ x ∈ xa,RowOk Wa x) (hb:∀ x ∈ bs,RowOk Wb x) (hn:(n:Int)=Wb) (h6:Wa + Wb ≤ 6) (hwb:1 ≤ Wb ∧ Wb ≤ 6):∀ x ∈ joinR e o n xa bs,RowOk (Wa + Wb) x:=fun x hx=>by
 unfold joinR at hx
 obtain ⟨r,hr,hx⟩:=List.mem_flatMap.1 hx
 exact joinOne_ok (ha r hr) hb hn h6 hwb x hx
theorem joinOne_len {e:Ex} {o:Bool} {n:Nat} {r:Row1} {bs:List Row1}:(joinOne e o n r bs).length ≤ bs.length + 1:=by
 unfold joinOne
 rw [List.length_append,List.length_map]
 have:=List.length_filter_le (fun x=>holdsE e (r ++ x)) bs
 split <;> simp <;> omega
theorem flat_le {α β:Type} {f:α → List β} {m:Nat}:∀ {l:List α},(∀ x ∈ l,(f x).length ≤ m) → (l.flatMap f).length ≤ l.length * m
 | [],_=>by simp
 | x :: l,h=>by
   have h1:=h x (by simp)
   have h2:=flat_le (l:=l) (f:=f) fun y hy=>h y (by simp [hy])
   rw [List.flatMap_cons,List.length_append,List.length_cons,Nat.add_mul]
   omega
theorem joinR_len {e:Ex} {o:Bool} {n:Nat} {xa bs:List Row1} (ha:xa.length ≤ 400) (hb:bs.length ≤ 400):(joinR e o n xa bs).length ≤ 160400:=by
 have h1:(joinR e o n xa bs).length ≤ xa.length * (bs.length + 1):=flat_le fun r _=>joinOne_len
 have h2:xa.length * (bs.length + 1) ≤ 400 * 401:=Nat.mul_le_mul ha (by omega)
 omega
theorem keyS_ok {W:Int} {r:Row1} {cols:List Int} (h:RowOk W r) (hc:∀ c ∈ cols,0 ≤ c ∧ c < W):KeyS cols r:=fun x hx=>by
 obtain ⟨c,hcm,rfl⟩:=List.mem_map.1 hx
 have hc':=hc c hcm
 have hlt:c.toNat < r.length:=by have:=h.2;omega
 unfold getV
 rw [List.getD_eq_getElem?_getD,List.getElem?_eq_getElem hlt]
 exact h.vals _ (List.getElem_mem hlt)
theorem srtRows_ok {W:Int} {cols:List Int} {kind:Int} {rows:List Row1} (hr:∀ r ∈ rows,RowOk W r) (hW:1 ≤ W) (hc:∀ c ∈ cols,0 ≤ c ∧ c < W) (hl:cols.length < 6):∀ r ∈ srtRows cols 0 kind rows,RowOk (cols.length + 1) r:=fun r h=>by
 have hp:=grp_perm (col:=0) (kind:=kind) fun r h=>keyS_ok (hr r h) hc
 have h2:=hp.mem_iff.1 h
 obtain ⟨k,hk,rfl⟩:=List.mem_map.1 h2
 exact grpRow_ok hr hc ⟨by omega,by omega⟩ hl hk
theorem colsOk_mem' {cols:List Int} {W:Int} (h:ColsOk cols W):∀ x ∈ cols,0 ≤ x ∧ x < W:=fun x hx=>by
 obtain ⟨i,hi⟩:=List.getElem?_of_mem hx
 have:=(h i x hi).1
 omega

structure TopOk (db:List Tb) (p:Pl) (a b:Tb):Prop where
 raw:p.kind ≠ 1 → ∀ r ∈ rawR p a b,RowOk (topT db p a b).1 r
 tab:TabOk (topT db p a b).1 (topT db p a b).2
theorem topT_ok {db:List Tb} {p:Pl} {a b:Tb} {R:Int} (hdb:DbOk db) (ho:OnlyF p) (hR:topW (wsDb db) p a.1 b.1=R) (hR0:R ≠ 0) (ha:p.kind ≠ 1 → TabOk a.1 a.2) (hb:(p.kind=4 ∨ p.kind=5 ∨ p.kind=6) → TabOk b.1 b.2) :
 (topT db p a b).1=R ∧ TopOk db p a b:=by
 by_cases h1:p.kind=1
 ·have e:topT db p a b=dbAt db p.table:=by unfold topT;rw [if_pos h1]
  unfold topW at hR
  rw [if_pos h1] at hR
  by_cases hlt:0 ≤ p.table ∧ p.table < (wsDb db).length
  ·rw [if_pos hlt] at hR
   have hl:p.table.toNat < db.length:=by have:=hlt.2;unfold wsDb at this;rw [List.length_map] at this;omega
   have e2:dbAt db p.table=db[p.table.toNat]:=by unfold dbAt;rw [List.getD_eq_getElem?_getD,List.getElem?_eq_getElem hl];rfl
   refine ⟨?_,fun h=>absurd h1 h,?_⟩
   ·rw [e,e2,← hR];unfold wsDb;rw [List.getD_eq_getElem?_getD,List.getElem?_map,List.getElem?_eq_getElem hl];rfl
   ·rw [e,e2];exact hdb _ (List.getElem_mem hl)
  ·rw [if_neg hlt] at hR;exact absurd hR.symm hR0
 ·have hA:=ha h1
  have hAr:∀ r ∈ a.2,RowOk a.1 r:=fun r hr=>hA.2.2.2.1 r hr
  have hex:=ho.2.2.1
  have e:topT db p a b=(if p.kind=3 then (p.exprs.length:Int) else if p.kind=4 ∨ p.kind=5 then a.1 + b.1 else if p.kind=8 then (p.cols.length:Int) + 1 else a.1,colS (rawR p a b)):=by unfold topT;rw [if_neg h1]
  have fin:(topT db p a b).1=R → (1 ≤ R ∧ R ≤ 6) → (∀ r ∈ rawR p a b,RowOk R r) → (topT db p a b).1=R ∧ TopOk db p a b:=fun hw hr6 hr=>by
   refine ⟨hw,fun _=>by rw [hw];exact hr,?_⟩
   have h2:(topT db p a b).2=colS (rawR p a b):=by rw [e]
   rw [hw,h2]
   exact colS_ok hr6 hr
  have hkind:=ho.1
  unfold topW at hR
  rw [if_neg h1] at hR
  by_cases h2:p.kind=2
  ·rw [if_pos h2] at hR
   split at hR
   ·subst hR
    refine fin (by rw [e];simp [h2]) ⟨hA.1,hA.2.1⟩ fun r hr=>?_
    unfold rawR at hr
    rw [if_pos h2] at hr
    exact hAr r (List.mem_filter.1 hr).1
   ·exact absurd hR.symm hR0
  rw [if_neg h2] at hR
  by_cases h3:p.kind=3
  ·rw [if_pos h3] at hR
   split at hR
   ·rename_i hc
    refine fin (by rw [e,← hR];simp [h3]) (by have:=hc.2;omega) fun r hr=>?_
    unfold rawR at hr
    rw [if_neg h2,if_pos h3] at hr
    obtain ⟨q,hq,rfl⟩:=List.mem_map.1 hr
    refine rowOk_of (by have:=hc.2;omega) (by rw [List.length_map];exact hR) fun v hv=>?_
    obtain ⟨x,hx,rfl⟩:=List.mem_map.1 hv
    exact exVal_valid (hAr q hq) x 8 (hc.1 x hx).2
   ·exact absurd hR.symm hR0
  rw [if_neg h3] at hR
  by_cases h45:p.kind=4 ∨ p.kind=5
  ·rw [if_pos h45] at hR
   have hB:=hb (by rcases h45 with h | h;exact .inl h;exact .inr (.inl h))
   have hBr:∀ r ∈ b.2,RowOk b.1 r:=fun r hr=>hB.2.2.2.1 r hr
   split at hR
   ·rename_i hc
    subst hR
    refine fin (by rw [e];simp [h3,h45]) (by have:=hA.1;have:=hB.1;have:=hc.1;omega) fun r hr=>?_
    unfold rawR at hr
    rw [if_neg h2,if_neg h3,if_pos h45] at hr
    exact joinR_ok hAr hBr (by have:=hB.1;omega) hc.1 ⟨hB.1,hB.2.1⟩ r hr
   ·exact absurd hR.symm hR0
  rw [if_neg h45] at hR
  by_cases h6:p.kind=6
  ·rw [if_pos h6] at hR
   have hB:=hb (.inr (.inr h6))
   split at hR
   ·rename_i hc
    subst hR
    refine fin (by rw [e];simp [h6]) ⟨hA.1,hA.2.1⟩ fun r hr=>?_
    unfold rawR at hr
    rw [if_neg h2,if_neg h3,if_neg h45,if_pos h6] at hr
    rcases List.mem_append.1 hr with h | h
    ·exact hAr r h
    ·rw [hc];exact hB.2.2.2.1 r h
   ·exact absurd hR.symm hR0
  rw [if_neg h6] at hR
  by_cases h7:p.kind=7
  ·rw [if_pos h7] at hR
   subst hR
   refine fin (by rw [e];simp [h7]) ⟨hA.1,hA.2.1⟩ fun r hr=>?_
   unfold rawR at hr
   rw [if_neg h2,if_neg h3,if_neg h45,if_neg h6,if_pos h7] at hr
   exact hAr r ((dedR_sub _).subset hr)
  rw [if_neg h7] at hR
  have h8:p.kind=8:=by omega
  split at hR
  ·rename_i hc
   refine fin (by rw [e,← hR];simp [h8]) (by have:=hc.2;omega) fun r hr=>?_
   unfold rawR at hr
   rw [if_neg h2,if_neg h3,if_neg h45,if_neg h6,if_neg h7] at hr
   rw [← hR]
   exact srtRows_ok hAr hA.1 (colsOk_mem' hc.1) hc.2 r hr
  ·exact absurd hR.symm hR0

theorem nkids_ne {p:Pl} (ho:OnlyF p) (h1:p.kind ≠ 1):0 < p.kids.length:=by
 have:=ho.2.1
 unfold nkids at this
 rw [if_neg h1] at this
 split at this <;> omega
theorem nkids_two {p:Pl} (ho:OnlyF p) (h:p.kind=4 ∨ p.kind=5 ∨ p.kind=6):p.kids.length=2:=by
 have:=ho.2.1
 unfold nkids at this
 rw [if_neg (by omega),if_pos h] at this
 omega
theorem plT_ok {db:List Tb} (hdb:DbOk db):∀ (d:Nat) (p:Pl),plW (wsDb db) d p ≠ 0 → (plT db (d + 1) p).1=plW (wsDb db) d p ∧ TopOk db p (kidT (plT db d) p 0) (kidT (plT db d) p 1)
 | d,p,h=>by
   have ho:OnlyF p:=Classical.byContradiction fun hn=>h (plW_no hn)
   have hk:∀ i (hi:i < p.kids.length),∃ e,d=e + 1 ∧ plW (wsDb db) e p.kids[i] ≠ 0:=fun i hi=>(plW_kids h (List.getElem_mem hi)).2
   have hd:0 < p.kids.length → 0 < d:=fun h0=>by obtain ⟨e,rfl,_⟩:=hk 0 h0;omega
   have hx:∀ x ∈ p.kids,plW (wsDb db) (d - 1) x ≠ 0:=fun x hx=>by
    obtain ⟨i,hi,rfl⟩:=List.getElem_of_mem hx
    obtain ⟨e,rfl,he⟩:=hk i hi
    exact he
   have ht:=plW_top ho hd hx
   have kid:∀ i,i < p.kids.length → (kidT (plT db d) p i).1=kidW (plW (wsDb db) (d - 1)) p i ∧ TabOk (kidT (plT db d) p i).1 (kidT (plT db d) p i).2:=fun i hi=>by
    obtain ⟨e,rfl,he⟩:=hk i hi
    have:=plT_ok hdb e p.kids[i] he
    rw [kidT_at hi]
    refine ⟨by unfold kidW;rw [List.getElem?_eq_getElem hi];exact this.1,this.2.tab⟩
   have kidw:∀ i,(kidT (plT db d) p i).1=kidW (plW (wsDb db) (d - 1)) p i:=fun i=>by
    by_cases hi:i < p.kids.length
    ·exact (kid i hi).1
    ·rw [kidT_none (by omega)];unfold kidW;rw [List.getElem?_eq_none (by omega)]
   have:=topT_ok (a:=kidT (plT db d) p 0) (b:=kidT (plT db d) p 1) hdb ho (by rw [kidw,kidw,← ht]) h (fun h1=>(kid 0 (nkids_ne ho h1)).2) (fun h2=>(kid 1 (by rw [nkids_two ho h2];omega)).2)
   exact this
theorem plCo_range {db:List Tb} (hdb:DbOk db):∀ (d:Nat) (p:Pl),plW (wsDb db) d p ≠ 0 → 0 ≤ plCo db (d + 1) p ∧ plCo db (d + 1) p ≤ 400 * 3 ^ (d + 1)
 | d,p,h=>by
   have ho:OnlyF p:=Classical.byContradiction fun hn=>h (plW_no hn)
   have ht:=(plT_ok hdb d p h).2.tab.2.2.1
   have hk:∀ i,0 ≤ kidC (plCo db d) p i ∧ kidC (plCo db d) p i ≤ 400 * 3 ^ d:=fun i=>by
    unfold kidC
    split
    ·rename_i x hx
     obtain ⟨_,e,rfl,he⟩:=plW_kids h (List.mem_of_getElem? hx)
     exact plCo_range hdb e x he
    ·exact ⟨Int.le_refl _,Int.mul_nonneg (by omega) (Int.le_of_lt (Int.pow_pos (by omega)))⟩
   have h0:=hk 0
   have h1:=hk 1
   have hp:(1:Int) ≤ 3 ^ d:=Int.pow_pos (show (0:Int) < 3 by omega)
   have e:plCo db (d + 1) p=((plT db (d + 1) p).2.length:Int) + kidC (plCo db d) p 0 + kidC (plCo db d) p 1:=rfl
   have ht':(plT db (d + 1) p).2.length ≤ 400:=ht
   have e3:(400:Int) * 3 ^ (d + 1)=3 * (400 * 3 ^ d):=by rw [Int.pow_succ];omega
   rw [e,e3]
   omega
end Go.Qo

namespace Go.Qo
set_option linter.unusedVariables false
set_option linter.unusedSimpArgs false

section
variable {a b:List Row1} {ca cb:Nat}
end

theorem colS_perm {W:Int} {xs ys:List Row1} (hp:xs.Perm ys) (hr:∀ r ∈ xs,RowOk W r):colS xs=colS ys:=by
 unfold colS
 rw [hp.length_eq]
 split
 ·exact srt_eq (fun r h=>hr r (hp.mem_iff.2 h)) ((gSort_perm (rCm W) hr).trans hp) (gSort_ord (rCm W) hr)
 ·rfl
end Go.Qo

namespace Go.Qo
set_option linter.unusedVariables false
set_option linter.unusedSimpArgs false

end Go.Qo
