import Derived.Test.YtcbfbgngkdiijaaGreatProg
import Derived.Test.YtcbfbgngkdiijaaGreatLsp
import Derived.Test.YtcbfbgngkdiijaaGreatZvGd
import Derived.Test.YtcbfbgngkdiijaaGreatZvGf
import Derived.Test.YtcbfbgngkdiijaaGreatZvPln
import Derived.Test.YtcbfbgngkdiijaaGreatZvRwt
namespace Go.Proofs.YtcbfbgngkdiijaaGreat
open Go.RowKit Go.Qo
set_option linter.unusedVariables false
set_option linter.unusedSimpArgs false

def SRt (W:Int) (lo:Nat) (w:World) (p:SRw):Prop:=RowOk W p.2 ∧ p.1.n=p.2.length ∧ p.2.length ≤ p.1.c ∧ p.1.c ≤ maxLen ∧ SlT 85 2 valC lo w p.1.A p.2
theorem SRt.map {W:Int} {lo lo':Nat} {w w':World} {p:SRw} (h:SRt W lo w p) (hf:SlT 85 2 valC lo w p.1.A p.2 → SlT 85 2 valC lo' w' p.1.A p.2):SRt W lo' w' p:=⟨h.1,h.2.1,h.2.2.1,h.2.2.2.1,hf h.2.2.2.2⟩
theorem SRt.rows {W:Int} {lo:Nat} {w:World}:∀ {ps:List SRw},(∀ p ∈ ps,SRt W lo w p) → RowsT 85 2 valC lo w (ps.map (·.1)) (ps.map (·.2))
 | ps,h=>by
   refine ⟨by simp,fun i s xs h1 h2=>?_⟩
   rw [List.getElem?_map] at h1 h2
   cases hp:ps[i]? with
   | none=>rw [hp] at h1;cases h1
   | some p=>
     rw [hp] at h1 h2
     cases h1;cases h2
     have:=h p (List.mem_of_getElem? hp)
     exact ⟨this.2.1,this.2.2.1,this.2.2.2.1,this.2.2.2.2⟩
def encSR (p:SRw):Value:=.slice p.1.A p.1.n p.1.c

section
variable {α:Type} [Inhabited α]
theorem sortWorld_other (enc:α → Value) (w:World) (g off m:Nat) (d:Array α) (os:Array Obj) {k:Nat} (hk:k < w.heap.size) (hne:k ≠ g):(sortWorld enc w g off m d os).heap[k]? = w.heap[k]?:=by
 unfold sortWorld
 rw [Go.Sort.heap_grow_old _ _ (by rw [size_putRow];exact hk)]
 simp [Go.Sort.putRow,Go.Sort.mapBlock,Go.Sort.ahead,Array.getElem?_modify,Ne.symm hne]
theorem sortWorld_same (enc:α → Value) (w:World) (g off m:Nat) (d:Array α) (os:Array Obj) {cur:Array Value} {t:TypeId} {r:Nat × Nat} (h:w.heap[g]? = some (.cells cur t r)):(sortWorld enc w g off m d os).heap[g]? = some (.cells (Go.Sort.putCells enc off d cur) t r):=by
 have hk:g < w.heap.size:=(Array.getElem?_eq_some_iff.1 h).1
 unfold sortWorld
 rw [Go.Sort.heap_grow_old _ _ (by rw [size_putRow];exact hk)]
 simp [Go.Sort.putRow,Go.Sort.mapBlock,Go.Sort.ahead,Array.getElem?_modify,h,Go.Sort.onCells]
theorem sortWorld_only (enc:α → Value) (w:World) (g off m:Nat) (d:Array α) (os:Array Obj):Only (fun i=>i=g) w (sortWorld enc w g off m d os):=
 ⟨rfl,rfl,rfl,by unfold sortWorld;rw [Go.Sort.size_grow,size_putRow];exact Nat.le_add_right _ _,fun k hk hS=>sortWorld_other enc w g off m d os hk hS⟩
end

theorem swoRows {W:Int} {lo:Nat} {w:World}:Go.Sort.SWO (ltOf fun x y:{p:SRw // SRt W lo w p}=>rpCmp x.1.2 y.1.2) where
 irrefl x:=by
  have h:=(x.2.1.zero x.2.1).2 rfl
  simp [ltOf,x.2.1.rp x.2.1,h]
 trans x y z h1 h2:=by
  simp only [ltOf,decide_eq_true_eq,x.2.1.rp y.2.1,y.2.1.rp z.2.1,x.2.1.rp z.2.1] at *
  have h3:=RowOk.trans x.2.1 y.2.1 z.2.1 (by omega) (by omega)
  have h4:=(x.2.1.zero z.2.1)
  rcases Int.lt_or_lt_of_ne (show rCmp x.1.2 z.1.2 ≠ 0 from fun e=>by
   have e2:=h4.1 e
   rw [e2] at h1
   have:=RowOk.anti z.2.1 y.2.1
   omega) with h5 | h5
  ·exact h5
  ·omega
 ntrans x y z h1 h2:=by
  simp only [ltOf,decide_eq_false_iff_not,x.2.1.rp y.2.1,y.2.1.rp z.2.1,x.2.1.rp z.2.1] at *
  have a1:=RowOk.anti x.2.1 y.2.1
  have a2:=RowOk.anti y.2.1 z.2.1
  have a3:=RowOk.anti x.2.1 z.2.1
  have:=RowOk.trans z.2.1 y.2.1 x.2.1 (by omega) (by omega)
  omega

theorem putCells_list {α:Type} [Inhabited α] (enc:α → Value) (d:Array α) (cur:Array Value) (hs:d.size ≤ cur.size):(Go.Sort.putCells enc 0 d cur).toList.take d.size=d.toList.map enc:=by
 apply List.ext_getElem?
 intro i
 rw [List.getElem?_take,List.getElem?_map]
 by_cases hi:i < d.size
 ·rw [if_pos hi]
  have h1:i < cur.size:=by omega
  simp [Go.Sort.putCells,hi,h1]
 ·rw [if_neg hi]
  simp [hi]

theorem encSR_flat {p:SRw → Prop}:∀ l:List {x:SRw // p x},l.map (fun x=>encSR x.1)=((l.map (·.1)).map (·.1)).flatMap svC
 | []=>rfl
 | x :: l=>by
   have ih:=encSR_flat l
   simp only [List.map_cons,List.flatMap_cons,ih]
   rfl
theorem attachWith_vals {p:SRw → Prop}:∀ (l:List SRw) (h:∀ x ∈ l,p x),(l.attachWith p h).map (·.1)=l
 | [],_=>rfl
 | x :: l,h=>by
   have ih:=attachWith_vals l (fun y hy=>h y (List.mem_cons_of_mem _ hy))
   simp only [List.attachWith_cons,List.map_cons,ih]

set_option maxHeartbeats 1000000 in
theorem sortFunc_ok (W:Int) (lo lo' g n c:Nat) (ps:List SRw) (w:World) (h1:0 < ps.length) (hn:ps.length ≤ 1048576) (hS:∀ p ∈ ps,SRt W lo w p) (hO:Ow lo' 100 1 svC w (.slice (some ⟨g,0,none⟩) n c) (ps.map (·.1))) :
 Calls Tryz.prog 119 #[.slice (some ⟨g,0,none⟩) n c,.func (.func 102) #[] #[]] w fun e w'=>e=.returned (.tuple #[]) ∧
  ∃ qs:List SRw,qs.Perm ps ∧ (qs.Pairwise fun p q=>rCmp p.2 q.2 ≤ 0) ∧ Ow lo' 100 1 svC w' (.slice (some ⟨g,0,none⟩) n c) (qs.map (·.1)) ∧ Only (fun i=>i=g) w w':=by
 obtain ⟨g',hg',hnl,hg,hgl,hty,hfr,hcs⟩:=hO.head svC_length (by rw [List.length_map];exact h1)
 cases hg'
 have hnl:n=ps.length:=by rw [hnl,List.length_map]
 subst hnl
 let inh:Inhabited {p:SRw // SRt W lo w p}:=⟨⟨ps[0],hS _ (List.getElem_mem h1)⟩⟩
 let d:Array {p:SRw // SRt W lo w p}:=(ps.attachWith _ hS).toArray
 have hds:d.size=ps.length:=by simp [d]
 have hdl:d.toList.map (·.1)=ps:=by
  have:d.toList=ps.attachWith _ hS:=by simp [d]
  rw [this]
  exact attachWith_vals _ _
 have hdj:∀ j,(hj:j < ps.length) → d[j]!.1=ps[j]:=fun j hj=>by
  rw [getElem!_pos d j (by omega)]
  simp [d]
 have hcell:∀ (b o k:Nat),b < w.heap.size → b ≠ g → ∀ (m:Nat) (dk:Array {p:SRw // SRt W lo w p}) (os:Array Obj),(sortWorld (fun x=>encSR x.1) w g 0 m dk os).cell? ⟨b,o,none⟩=w.cell? ⟨b,o,none⟩:=fun b o _ hb hne m dk os=>
  World.cell?_of_block (w:=w) (a:=⟨b,o,none⟩) (sortWorld_other _ w g 0 m dk os hb hne)
 have hcmp:CmpLays1 Tryz.prog 102 #[] (fun x:{p:SRw // SRt W lo w p}=>encSR x.1) (fun x y=>rpCmp x.1.2 y.1.2) g 0 d.size w:=by
  intro m os dk hdk x y
  have hread:∀ z:{p:SRw // SRt W lo w p},Sl 2 valC (sortWorld (fun x=>encSR x.1) w g 0 m dk os) (sortWorld (fun x=>encSR x.1) w g 0 m dk os).heap.size z.1.1.A z.1.2:=fun z h0=>by
   obtain ⟨b,off,hA,hl,hb,ht,hc⟩:=z.2.2.2.2.2 h0
   refine ⟨b,off,hA,Nat.lt_of_lt_of_le hb (sortWorld_only _ w g 0 m dk os).size,fun i x hx j u hu=>?_⟩
   rw [hcell b _ 0 hb (TyAt.ne ht hty (by decide))]
   exact hc i x hx j u hu
  have:=implCompareRowsD_ok x.1.1.A y.1.1.A x.1.1.c y.1.1.c x.1.2 y.1.2 _ (Nat.le_trans x.2.2.2.1 x.2.2.2.2.1) (Nat.le_trans y.2.2.2.1 y.2.2.2.2.1) (hread x) (hread y)
  have ex:encSR x.1=.slice x.1.1.A x.1.2.length x.1.1.c:=by unfold encSR;rw [x.2.2.1]
  have ey:encSR y.1=.slice y.1.1.A y.1.2.length y.1.1.c:=by unfold encSR;rw [y.2.2.1]
  show Calls _ _ (#[encSR x.1,encSR y.1] ++ #[]) _ _
  rw [ex,ey]
  exact this.mono fun e w' ⟨he,hb⟩=>⟨he,hb.grow⟩
 have hH:Go.Sort.Holds (fun x:{p:SRw // SRt W lo w p}=>encSR x.1) w g 0 d:=by
  intro j hj
  have hj':j < ps.length:=by omega
  refine ⟨?_,hfr _⟩
  show w.cell? _=some (encSR d[j]!.1)
  rw [hdj j hj',Nat.zero_add]
  refine hcs j _ ?_
  have:=flat_get 1 svC svC_length (ps.map (·.1)) j ps[j].1 0 _ (by rw [List.getElem?_map,List.getElem?_eq_getElem hj'];rfl) rfl
  rwa [Nat.mul_one,Nat.add_zero] at this
 have hc:=Any.slices_SortFunc Tryz.sortRowsL (fun x:{p:SRw // SRt W lo w p}=>encSR x.1) (fun _=>rfl) _ swoRows 102 #[] g 0 c d w (enters_of Tryz.func102 (by kernel_rfl) rfl) hcmp hH hgl (by omega)
 rw [hds] at hc
 refine Calls.mono (show Calls Tryz.prog 119 _ _ _ from hc) ?_
 rintro e w' ⟨rfl,d',m,os,⟨hp1,_,hp3⟩,hso,rfl⟩
 have hd's:d'.size=ps.length:=by rw [hp1,hds]
 have hperm:d'.toList.Perm d.toList:=by
  have a1:(d'.extract 0 ps.length).toList=d'.toList:=by rw [← hd's];simp
  have a2:(d.extract 0 ps.length).toList=d.toList:=by rw [← hds];simp
  rwa [a1,a2] at hp3
 have hq:(d'.toList.map (·.1)).Perm ps:=by rw [← hdl];exact hperm.map _
 refine ⟨rfl,d'.toList.map (·.1),hq,?_,?_,sortWorld_only _ _ _ _ _ _ _⟩
 ·rw [List.pairwise_map,List.pairwise_iff_getElem]
  intro i j hi hj hij
  have hi':i < d'.size:=by simpa using hi
  have hj':j < d'.size:=by simpa using hj
  have h2:=hso i j (Nat.zero_le _) hij (by omega)
  rw [getElem!_pos d' i hi',getElem!_pos d' j hj'] at h2
  simp only [ltOf,decide_eq_false_iff_not,d'[j].2.1.rp d'[i].2.1] at h2
  have h3:=RowOk.anti d'[i].2.1 d'[j].2.1
  simp only [Array.getElem_toList]
  omega
 ·rcases hO.2 with ⟨h2,_⟩ | ⟨g',cap,cur,hv,hg',hh,hn',hm,hcz,ht⟩
  ·cases h2
  ·injection hv with e1 _ e3
   injection e1 with e1
   injection e1 with e1
   subst e1;subst e3
   have hl2:(d'.toList.map (·.1)).length=ps.length:=by simp [hd's]
   have hl3:((d'.toList.map (·.1)).map (·.1)).length=ps.length:=by rw [List.length_map,hl2]
   refine ⟨by rw [flat_length 1 svC svC_length],.inr ⟨g,c,_,?_,hg',sortWorld_same _ w g 0 m d' os hh,?_,hm,?_,?_⟩⟩
   ·rw [hl3]
   ·rw [hl3];simpa using hn'
   ·simpa [Go.Sort.putCells] using hcz
   ·rw [hl3,Nat.mul_one,← hd's,putCells_list _ d' cur (by rw [List.length_map] at hn';rw [hcz,hd's];omega)]
    exact encSR_flat d'.toList
end Go.Proofs.YtcbfbgngkdiijaaGreat
