import Derived.Test.YtcbfbgngkdiijaaGreatProg
import Derived.Test.YtcbfbgngkdiijaaGreatZvPln
import Derived.Test.YtcbfbgngkdiijaaGreatZvRwt
import Derived.Test.YtcbfbgngkdiijaaGreatZvCol
import Derived.Test.YtcbfbgngkdiijaaGreatZvMjg
import Derived.Test.YtcbfbgngkdiijaaGreatZvTbg
import Derived.Deep.DeepCutAuto
import Derived.Test.YtcbfbgngkdiijaaGreatZvGe
namespace Go.Proofs.YtcbfbgngkdiijaaGreat
open Go.RowKit Go.Qo
set_option linter.unusedVariables false
set_option linter.unusedSimpArgs false

def markV (k:Int) (n:Nat):List Val:=(List.range n).map fun (i:Nat)=>(((k + 2 * i) % 3 == 0),k + 2 * i + 1)
theorem markV_length (k:Int) (n:Nat):(markV k n).length=n:=by simp [markV]
theorem markV_succ (k:Int) (n:Nat):markV k (n + 1)=markV k n ++ [(((k + 2 * n) % 3 == 0),k + 2 * n + 1)]:=by simp [markV,List.range_succ]
theorem set_mid {α:Type} (xs ys:List α) (y:α) (i:Nat) (hl:xs.length=i) (hi:i < ys.length):(xs ++ ys.drop i).set i y=(xs ++ [y]) ++ ys.drop (i + 1):=by
 rw [List.set_append_right _ _ (by omega),hl,Nat.sub_self,List.drop_eq_getElem_cons hi,List.set_cons_zero,List.append_assoc,List.singleton_append]

def OwnB (v:Value):Nat → Prop:=fun i=>v.ownBlock=some i

set_option maxHeartbeats 1000000 in
theorem markValueS_ok (lo:Nat) (A:Option Addr) (c:Nat) (xs:List Val) (k:Int) (w:World) (hk0:0 ≤ k) (hk:k ≤ 1125899906842624) (hn:xs.length ≤ 1048576) (h:Ow lo 85 2 valC w (.slice A xs.length c) xs) :
 Calls Tryz.prog 61 #[.slice A xs.length c,.int .i64 k] w fun e w'=>e=.returned (.int .i64 (k + 2 * xs.length)) ∧ Ow lo 85 2 valC w' (.slice A xs.length c) (markV k xs.length) ∧ Only (OwnB (.slice A xs.length c)) w w' ∧ w'.heap.size=w.heap.size:=by
 have HO:=Lib.hid h
 clear h
 go_enter Tryz.func61,Tryz.ntmps61
 go_wp2
 go_loopg [1,5] (xs.length) (fun g kv iv wr=>∃ (i:Nat) (kk:Int),i ≤ xs.length ∧ g=xs.length - i ∧ kk=k + 2 * i ∧ kv=.int .i64 kk ∧ iv=.int .i64 i ∧ wr.ownsRow lo 85 2 (.slice A xs.length c) xs.length ((markV k i ++ xs.drop i).flatMap valC) ∧ Only (OwnB (.slice A xs.length c)) w wr ∧ wr.heap.size=w.heap.size)
 case atStart=>exact ⟨0,k,by omega,by omega,by omega,rfl,rfl,by have:=HO.out;unfold Ow at this;simpa [markV] using this,Only.refl _,rfl⟩
 case round=>
  obtain ⟨i,kk,hi,rfl,hkk,rfl,rfl,how,hon,hsz⟩:=hrel
  have hkk0:0 ≤ kk:=by omega
  have hkk1:kk ≤ 1125899911036928:=by omega
  have HK:=Lib.hid hkk
  have HW:=Lib.hid (And.intro how (And.intro hon hsz))
  clear hkk hsz hon
  by_cases hlt:i < xs.length
  ·have hll:(markV k i ++ xs.drop i).length=xs.length:=by rw [List.length_append,markV_length,List.length_drop];omega
   have how':Ow lo 85 2 valC wr (.slice A (markV k i ++ xs.drop i).length c) (markV k i ++ xs.drop i):=by unfold Ow;rw [hll];exact how
   obtain ⟨g,rfl,_,hg,hgl,_,hf,hcs⟩:=how'.head valC_length (by omega)
   have hfl:=flat_length 2 valC valC_length (markV k i ++ xs.drop i)
   obtain ⟨y1,hy1⟩:∃ y,((markV k i ++ xs.drop i).flatMap valC)[i * 2]? = some y:=⟨_,List.getElem?_eq_getElem (by omega)⟩
   obtain ⟨y2,hy2⟩:∃ y,((markV k i ++ xs.drop i).flatMap valC)[i * 2 + 1]? = some y:=⟨_,List.getElem?_eq_getElem (by omega)⟩
   have c0:=hcs _ _ hy1
   have c1:=hcs _ _ hy2
   have f0:=hf (i * 2)
   have f1:=hf (i * 2 + 1)
   have HLL:=Lib.hid hll
   clear hcs hf hy1 hy2 hfl how how' hll
   go_wp2
   go_roundg (xs.length - (i + 1))
   case measure=>omega
   case rel=>
    refine ⟨i + 1,kk + 2,by omega,rfl,by have:=HK.out;omega,congrArg (Value.int IntKind.i64) (by omega),by go_num,?_,?_,?_⟩
    ·have h1:=(World.ownsRow.stored HW.out.1 (i * 2) (.bool (kk % 3 == 0))).1
     have h2:=(World.ownsRow.stored h1 (i * 2 + 1) (.int .i64 (kk + 1))).1
     rw [flat_setV _ i ((kk % 3 == 0),kk + 1) (by have:=HLL.out;omega),set_mid _ _ _ i (markV_length k i) hlt] at h2
     rw [markV_succ,← HK.out]
     exact h2
    ·exact (HW.out.2.1.set (p:=⟨g,i * 2,none⟩) (.inl rfl) _).set (p:=⟨g,i * 2 + 1,none⟩) (.inl rfl) _
    ·simpa [World.setCell] using HW.out.2.2
  ·have hie:i=xs.length:=by omega
   have HIE:=Lib.hid hie
   go_wp2
   go_ret
   refine ⟨ret_int (by rw [HK.out,HIE.out]),?_,HW.out.2.1,HW.out.2.2⟩
   have h1:=HW.out.1
   rw [HIE.out,List.drop_length,List.append_nil] at h1
   unfold Ow
   rw [markV_length]
   exact h1

def markI (k:Int) (n:Nat):List Int:=(List.range n).map fun (i:Nat)=>k + i
theorem markI_length (k:Int) (n:Nat):(markI k n).length=n:=by simp [markI]
theorem markI_succ (k:Int) (n:Nat):markI k (n + 1)=markI k n ++ [k + n]:=by simp [markI,List.range_succ]
theorem flat_setI:∀ (xs:List Int) (j:Nat) (y:Int),(xs.flatMap intC).set j (.int .i64 y)=(xs.set j y).flatMap intC
 | [],j,y=>by simp
 | x :: xs,0,y=>by simp [intC]
 | x :: xs,j + 1,y=>by
   have ih:=flat_setI xs j y
   simpa [intC] using ih

set_option maxHeartbeats 1000000 in
theorem markIntS_ok (lo:Nat) (A:Option Addr) (c:Nat) (xs:List Int) (k:Int) (w:World) (hk0:0 ≤ k) (hk:k ≤ 1099511627776) (hn:xs.length ≤ 1048576) (h:Ow lo 3 1 intC w (.slice A xs.length c) xs) :
 Calls Tryz.prog 37 #[.slice A xs.length c,.int .i64 k] w fun e w'=>e=.returned (.int .i64 (k + xs.length)) ∧ Ow lo 3 1 intC w' (.slice A xs.length c) (markI k xs.length) ∧ Only (OwnB (.slice A xs.length c)) w w' ∧ w'.heap.size=w.heap.size:=by
 have HO:=Lib.hid h
 clear h
 go_enter Tryz.func37,Tryz.ntmps37
 go_wp2
 go_loopg [1,5] (xs.length) (fun g kv iv wr=>∃ (i:Nat) (kk:Int),i ≤ xs.length ∧ g=xs.length - i ∧ kk=k + i ∧ kv=.int .i64 kk ∧ iv=.int .i64 i ∧ wr.ownsRow lo 3 1 (.slice A xs.length c) xs.length ((markI k i ++ xs.drop i).flatMap intC) ∧ Only (OwnB (.slice A xs.length c)) w wr ∧ wr.heap.size=w.heap.size)
 case atStart=>exact ⟨0,k,by omega,by omega,by omega,rfl,rfl,by have:=HO.out;unfold Ow at this;simpa [markI] using this,Only.refl _,rfl⟩
 case round=>
  obtain ⟨i,kk,hi,rfl,hkk,rfl,rfl,how,hon,hsz⟩:=hrel
  have hkk0:0 ≤ kk:=by omega
  have hkk1:kk ≤ 1099513724928:=by omega
  have HK:=Lib.hid hkk
  have HW:=Lib.hid (And.intro how (And.intro hon hsz))
  clear hkk hsz hon
  by_cases hlt:i < xs.length
  ·have hll:(markI k i ++ xs.drop i).length=xs.length:=by rw [List.length_append,markI_length,List.length_drop];omega
   have how':Ow lo 3 1 intC wr (.slice A (markI k i ++ xs.drop i).length c) (markI k i ++ xs.drop i):=by unfold Ow;rw [hll];exact how
   obtain ⟨g,rfl,_,hg,hgl,_,hf,hcs⟩:=how'.head intC_length (by omega)
   have hfl:=flat_length 1 intC intC_length (markI k i ++ xs.drop i)
   obtain ⟨y1,hy1⟩:∃ y,((markI k i ++ xs.drop i).flatMap intC)[i]? = some y:=⟨_,List.getElem?_eq_getElem (by omega)⟩
   have c0:=hcs _ _ hy1
   have f0:=hf i
   clear hcs hf hy1 hfl how how' hll
   go_wp2
   go_roundg (xs.length - (i + 1))
   case measure=>omega
   case rel=>
    refine ⟨i + 1,kk + 1,by omega,rfl,by have:=HK.out;omega,rfl,by go_num,?_,?_,?_⟩
    ·have h1:=(World.ownsRow.stored HW.out.1 i (.int .i64 kk)).1
     rw [flat_setI,set_mid _ _ _ i (markI_length k i) hlt] at h1
     rw [markI_succ,← HK.out]
     exact h1
    ·exact HW.out.2.1.set (p:=⟨g,i,none⟩) (.inl rfl) _
    ·simpa [World.setCell] using HW.out.2.2
  ·have hie:i=xs.length:=by omega
   have HIE:=Lib.hid hie
   go_wp2
   go_ret
   refine ⟨ret_int (by rw [HK.out,HIE.out]),?_,HW.out.2.1,HW.out.2.2⟩
   have h1:=HW.out.1
   rw [HIE.out,List.drop_length,List.append_nil] at h1
   unfold Ow
   rw [markI_length]
   exact h1

end Go.Proofs.YtcbfbgngkdiijaaGreat

namespace Go.Proofs.YtcbfbgngkdiijaaGreat
open Go.RowKit Go.Qo
set_option linter.unusedVariables false
set_option linter.unusedSimpArgs false

theorem rowsC_get {α:Type} {bs:List Nat} {rows:List (List α)} {i c:Nat} {r:List α} (h1:bs[i]? = some c) (h2:rows[i]? = some r) (more:List Value):(rowsC bs rows ++ more)[i]? = some (.slice (some ⟨c,0,none⟩) r.length r.length):=by
 have hz:(List.zipWith rowSV bs rows)[i]? = some (rowSV c r):=by rw [List.getElem?_zipWith,h1,h2]
 have hg:=flat_get 1 svC svC_length (List.zipWith rowSV bs rows) i (rowSV c r) 0 _ hz rfl
 rw [Nat.mul_one,Nat.add_zero] at hg
 have hl:=(List.getElem?_eq_some_iff.1 hg).1
 rw [List.getElem?_append_left (by exact hl)]
 exact hg
theorem Row.ow {α:Type} {sz:Nat} {enc:α → List Value} (he:∀ x,(enc x).length=sz) {w:World} {lo b:Nat} {t:TypeId} {xs:List α} (h:Row w b t (xs.flatMap enc)) (hlo:lo ≤ b) (hm:xs.length ≤ maxLen) :
 Ow lo t sz enc w (.slice (some ⟨b,0,none⟩) xs.length xs.length) xs:=
 ⟨flat_length sz enc he xs,.inr ⟨b,xs.length,_,rfl,hlo,h,Nat.le_refl _,hm,by simp [flat_length sz enc he xs],by simp;rw [List.take_of_length_le (by rw [flat_length sz enc he xs];omega)]⟩⟩

end Go.Proofs.YtcbfbgngkdiijaaGreat

namespace Go.Proofs.YtcbfbgngkdiijaaGreat
open Go.RowKit Go.Qo
set_option linter.unusedVariables false
set_option linter.unusedSimpArgs false

def marks:Int → List SRw → List SRw
 | _,[]=>[]
 | k,p :: ps=>(p.1,markV k p.2.length) :: marks (k + 2 * p.2.length) ps
def mlen:List SRw → Nat
 | []=>0
 | p :: ps=>p.2.length + mlen ps
theorem marks_fst:∀ (ps:List SRw) (k:Int),(marks k ps).map (·.1)=ps.map (·.1)
 | [],_=>rfl
 | p :: ps,k=>by simp [marks,marks_fst ps]
theorem marks_length (ps:List SRw) (k:Int):(marks k ps).length=ps.length:=by
 have:=congrArg List.length (marks_fst ps k)
 simpa using this
theorem mlen_snoc (p:SRw):∀ ps:List SRw,mlen (ps ++ [p])=mlen ps + p.2.length
 | []=>by simp [mlen]
 | q :: ps=>by simp [mlen,mlen_snoc p ps];omega
theorem marks_snoc (p:SRw):∀ (ps:List SRw) (k:Int),marks k (ps ++ [p])=marks k ps ++ [(p.1,markV (k + 2 * mlen ps) p.2.length)]
 | [],k=>by simp [marks,mlen]
 | q :: ps,k=>by
   have ih:=marks_snoc p ps (k + 2 * q.2.length)
   simp only [List.cons_append,marks,ih]
   rw [show k + 2 * (q.2.length:Int) + 2 * (mlen ps:Int)=k + 2 * ((mlen (q :: ps):Nat):Int) from by simp only [mlen];omega]
theorem marks_get:∀ (ps:List SRw) (k:Int) (i:Nat) (p:SRw),ps[i]? = some p → (marks k ps)[i]? = some (p.1,markV (k + 2 * mlen (ps.take i)) p.2.length)
 | [],k,i,p,h=>by simp at h
 | q :: ps,k,0,p,h=>by
   simp only [List.getElem?_cons_zero,Option.some.injEq] at h
   subst h
   simp [marks,mlen]
 | q :: ps,k,i + 1,p,h=>by
   have ih:=marks_get ps (k + 2 * q.2.length) i p (by simpa using h)
   simp only [marks,List.getElem?_cons_succ,ih,List.take_succ_cons]
   rw [show k + 2 * (q.2.length:Int) + 2 * (mlen (ps.take i):Int)=k + 2 * ((mlen (q :: ps.take i):Nat):Int) from by simp only [mlen];omega]
theorem mlen_le {m:Nat}:∀ {ps:List SRw},(∀ p ∈ ps,p.2.length ≤ m) → mlen ps ≤ m * ps.length
 | [],_=>by simp [mlen]
 | p :: ps,h=>by
   have h1:=h p (by simp)
   have ih:=mlen_le (ps:=ps) fun q hq=>h q (by simp [hq])
   simp only [mlen,List.length_cons,Nat.mul_add]
   omega
theorem Ow.apart {α:Type} {lo:Nat} {e:TypeId} {sz:Nat} {enc:α → List Value} {w w':World} {v:Value} {xs:List α} {S:Nat → Prop} (h:Ow lo e sz enc w v xs) (k:Only S w w') (hS:∀ b,v.ownBlock=some b → ¬ S b):Ow lo e sz enc w' v xs:=by
 refine ⟨h.1,?_⟩
 rcases h.2 with h2 | ⟨g,cap,cur,hv,hg,hh,r⟩
 ·exact .inl h2
 ·exact .inr ⟨g,cap,cur,hv,hg,(k.block g (Array.getElem?_eq_some_iff.1 hh).1 (hS g (by rw [hv];rfl))).trans hh,r⟩
theorem Cps.put {lo:Nat} {z z':World} {cp:List SRw} {i:Nat} {p:SRw} {ys:Row1} (h:Cps lo z cp) (hi:cp[i]? = some p) (hk:Only (OwnB (.slice p.1.A p.1.n p.1.c)) z z') (hp:OwP lo z' (p.1,ys)):Cps lo z' (cp.set i (p.1,ys)):=by
 have hil:=(List.getElem?_eq_some_iff.1 hi).1
 have hie:=(List.getElem?_eq_some_iff.1 hi).2
 refine ⟨fun q hq=>?_,?_⟩
 ·obtain ⟨j,hj,rfl⟩:=List.getElem_of_mem hq
  rw [List.length_set] at hj
  rw [List.getElem_set]
  split
  ·exact hp
  ·rename_i hne
   have h1:=h.1 cp[j] (List.getElem_mem hj)
   refine ⟨h1.1,Ow.apart h1.2 hk fun b hb hc=>?_⟩
   have hpw:=List.pairwise_iff_getElem.1 h.2
   rcases Nat.lt_or_gt_of_ne hne with hlt | hlt
   ·exact hpw i j hil hj hlt b (by rw [hie];exact hc) hb
   ·exact hpw j i hj hil hlt b hb (by rw [hie];exact hc)
 ·have e:(cp.set i (p.1,ys)).map (·.1)=cp.map (·.1):=by
   rw [List.map_set]
   apply List.ext_getElem?
   intro j
   rw [List.getElem?_set]
   split
   ·rename_i h1
    subst h1
    rw [List.getElem?_map,hi]
    simp [hil]
   ·rfl
  have key:∀ l:List SRw,l.Pairwise Apart ↔ (l.map (·.1)).Pairwise fun s t=>∀ b,svB s=some b → svB t ≠ some b:=fun l=>by rw [List.pairwise_map];rfl
  rw [key,e,← key]
  exact h.2

set_option maxRecDepth 20000 in
set_option maxHeartbeats 1000000 in
theorem markValueSSC_ok (lo lo':Nat) (A:Option Addr) (c:Nat) (cp:List SRw) (k:Int) (w:World) (hk0:0 ≤ k) (hk:k ≤ 1048576) (hn:cp.length ≤ 400) (hr:∀ p ∈ cp,p.2.length ≤ 16) (hO:Ow lo' 100 1 svC w (.slice A cp.length c) (cp.map (·.1))) (h:Cps lo w cp) :
 Calls Tryz.prog 39 #[.slice A cp.length c,.int .i64 k] w fun e w'=>e=.returned (.int .i64 (k + 2 * mlen cp)) ∧ Ow lo' 100 1 svC w' (.slice A cp.length c) (cp.map (·.1)) ∧ Cps lo w' (marks k cp) ∧ Only (fun b=>∃ p ∈ cp,svB p.1=some b) w w' ∧ w'.heap.size=w.heap.size:=by
 have HL:=Lib.hid hr
 have H0:=Lib.hid (And.intro hO h)
 clear h hr hO
 go_enter Tryz.func39,Tryz.ntmps39
 go_wp2
 go_loopg [1,5] cp.length (fun g kv iv wr=>∃ (i:Nat) (kk:Int),i ≤ cp.length ∧ g=cp.length - i ∧ kk=k + 2 * mlen (cp.take i) ∧ kv=.int .i64 kk ∧ iv=.int .i64 i ∧ Ow lo' 100 1 svC wr (.slice A cp.length c) (cp.map (·.1)) ∧ Cps lo wr (marks k (cp.take i) ++ cp.drop i) ∧ Only (fun b=>∃ p ∈ cp,svB p.1=some b) w wr ∧ wr.heap.size=w.heap.size)
 case atStart=>exact ⟨0,k,by omega,by omega,by simp [mlen],rfl,rfl,H0.out.1,by simpa [marks] using H0.out.2,Only.refl _,rfl⟩
 case round=>
  obtain ⟨i,kk,hi,rfl,hkk,rfl,rfl,how,hcp,hon,hsz⟩:=hrel
  have hml:mlen (cp.take i) ≤ 16 * (cp.take i).length:=mlen_le fun p hp=>HL.out p (List.mem_of_mem_take hp)
  have hml2:(cp.take i).length ≤ 400:=by rw [List.length_take];omega
  have hkk0:0 ≤ kk:=by omega
  have hkk1:kk ≤ 1125899906842624:=by omega
  have HW:=Lib.hid (And.intro hkk (And.intro how (And.intro hcp (And.intro hon hsz))))
  clear hkk hcp hon hsz hml hml2
  by_cases hlt:i < cp.length
  ·obtain ⟨⟨⟨pA,pn,pc⟩,pr⟩,hp⟩:∃ p,cp[i]? = some p:=⟨_,List.getElem?_eq_getElem hlt⟩
   have hl:(marks k (cp.take i)).length=i:=by rw [marks_length,List.length_take];omega
   have hpm:(marks k (cp.take i) ++ cp.drop i)[i]? = some (⟨pA,pn,pc⟩,pr):=by
    rw [List.getElem?_append_right (by omega),hl,Nat.sub_self,List.getElem?_drop];exact hp
   have hop:=HW.out.2.2.1.1 _ (List.mem_of_getElem? hpm)
   have hpl:pr.length ≤ 16:=HL.out _ (List.mem_of_getElem? hp)
   obtain ⟨g,hA,hxx,hg,hgl,_,hgf,hgc⟩:=how.head svC_length (by rw [List.length_map];omega)
   subst hA
   clear hxx
   have c1:wr.cell? ⟨g,i,none⟩=some (.slice pA pr.length pc):=by
    rw [← hop.1]
    refine hgc i _ ?_
    have:=flat_get 1 svC svC_length (cp.map (·.1)) i ⟨pA,pn,pc⟩ 0 _ (by rw [List.getElem?_map,hp];rfl) rfl
    rwa [Nat.mul_one,Nat.add_zero] at this
   have HP2:=Lib.hid (show pr.length=pr.length from rfl)
   have HM:=Lib.hid (markValueS_ok lo pA pc pr kk wr hkk0 hkk1 (by omega) (by have:=hop.2;rwa [hop.1] at this))
   have HP:=Lib.hid (And.intro hp (And.intro hpm (And.intro hl hop.1)))
   clear hgf hgc how hp hpm hl hop
   go_wp2_with fail
   refine HM.out.mono ?_
   rintro e w1 ⟨rfl,ho1,hon1,hsz1⟩
   have HW1:=Lib.hid (And.intro ho1 (And.intro hon1 hsz1))
   clear ho1 hon1 hsz1
   go_wp2
   go_roundg (cp.length - (i + 1))
   case measure=>omega
   case rel=>
    obtain ⟨hp,hpm,hl,hpn⟩:=HP.out
    have htk:cp.take (i + 1)=cp.take i ++ [((⟨pA,pn,pc⟩:SV),pr)]:=by rw [List.take_add_one,hp];rfl
    have hmm:=HW.out.2.2.1.put (ys:=markV kk pr.length) hpm (by rw [hpn];exact HW1.out.2.1) ⟨by rw [hpn,markV_length],by show Ow _ _ _ _ _ (.slice pA pn pc) _;rw [hpn];exact HW1.out.1⟩
    rw [set_mid _ _ _ i hl hlt] at hmm
    have hin:∀ b,OwnB (.slice pA pr.length pc) b → svB ⟨pA,pn,pc⟩=some b:=fun b hb=>by unfold svB;rw [hpn];exact hb
    refine ⟨i + 1,kk + 2 * pr.length,by omega,rfl,?_,rfl,by go_num,?_,?_,?_,HW1.out.2.2.trans HW.out.2.2.2.2⟩
    ·rw [htk,mlen_snoc,HW.out.1];dsimp only;have:=HP2.out;omega
    ·refine HW.out.2.1.only HW1.out.2.1 fun b hb=>.inr ⟨85,by decide,?_⟩
     obtain ⟨_,_,ht⟩:=(HW.out.2.2.1.1 _ (List.mem_of_getElem? hpm)).2.ty b (by rw [hpn];exact hb)
     exact ht
    ·rw [htk,marks_snoc,← HW.out.1];exact hmm
    ·exact HW.out.2.2.2.1.trans (HW1.out.2.1.mono fun b _ hb=>⟨_,List.mem_of_getElem? hp,hin b hb⟩)
  ·have hie:i=cp.length:=by omega
   have HIE:=Lib.hid hie
   clear hie how hn hk0 hk hkk0 hkk1
   go_wp2
   go_ret
   obtain ⟨h1,h2,h3,h4,h5⟩:=HW.out
   rw [HIE.out,List.take_of_length_le (Nat.le_refl _)] at h1
   rw [HIE.out,List.take_of_length_le (Nat.le_refl _),List.drop_length,List.append_nil] at h3
   exact ⟨ret_int h1,h2,h3,h4,h5⟩

set_option maxHeartbeats 400000 in
theorem markTableC_ok (W:Int) (lo lo':Nat) (A:Option Addr) (c:Nat) (cp:List SRw) (k:Int) (w:World) (hk0:0 ≤ k) (hk:k ≤ 1048576) (hn:cp.length ≤ 400) (hr:∀ p ∈ cp,p.2.length ≤ 16) (hO:Ow lo' 100 1 svC w (.slice A cp.length c) (cp.map (·.1))) (h:Cps lo w cp) :
 Calls Tryz.prog 16 #[.agg #[.int .i64 W,.slice A cp.length c],.int .i64 k] w fun e w'=>e=.returned (.int .i64 (k + 2 * mlen cp)) ∧ Ow lo' 100 1 svC w' (.slice A cp.length c) (cp.map (·.1)) ∧ Cps lo w' (marks k cp) ∧ Only (fun b=>∃ p ∈ cp,svB p.1=some b) w w':=by
 have B0:=balloc (Below.refl _ w) (.cells #[.int .i64 W,.slice A cp.length c] 32)
 have HM:=Lib.hid (markValueSSC_ok lo lo' A c cp k _ hk0 hk hn hr (hO.on B0) (h.on B0))
 clear h hr hO B0
 go_enter Tryz.func16,Tryz.ntmps16
 go_wp2_with fail
 refine HM.out.mono ?_
 rintro e w1 ⟨rfl,h1,h2,hon,_⟩
 have H:=Lib.hid (And.intro h1 (And.intro h2 hon))
 clear hon h1 h2
 go_wp2
 go_ret
 exact ⟨rfl,H.out.1,H.out.2.1,((Only.refl w).alloc _).trans H.out.2.2⟩

set_option maxRecDepth 20000 in
set_option maxHeartbeats 1000000 in
theorem heldValueS_ok (A:Option Addr) (c n:Nat) (k:Int) (w:World) (hk0:0 ≤ k) (hk:k ≤ 1099511627776) (hn:n ≤ 1048576) (h:Sl 2 valC w w.heap.size A (markV k n)) :
 Calls Tryz.prog 62 #[.slice A n c,.int .i64 k] w fun e w'=>e=.returned (.int .i64 (k + 2 * n)) ∧ Below w.heap.size w w':=by
 have hml:=markV_length k n
 go_enter Tryz.func62,Tryz.ntmps62
 go_wp2
 go_loopg [1,5] n (fun g kv iv wr=>∃ (i:Nat) (kk:Int),i ≤ n ∧ g=n - i ∧ kk=k + 2 * i ∧ kv=.int .i64 kk ∧ iv=.int .i64 i ∧ Below w.heap.size w wr)
 case atStart=>exact ⟨0,k,by omega,by omega,by omega,rfl,rfl,Below.refl _ _⟩
 case round=>
  obtain ⟨i,kk,hi,rfl,hkk,rfl,rfl,hb⟩:=hrel
  have hkk0:0 ≤ kk:=by omega
  have hkk1:kk ≤ 1099513724928:=by omega
  have HK:=Lib.hid hkk
  clear hkk
  by_cases hlt:i < n
  ·obtain ⟨b,off,rfl,hB,c1,c2⟩:=Val.at_ (h.below hb) (i:=i) (by omega)
   have hx:(markV k n)[i]'(by omega)=((kk % 3 == 0),kk + 1):=by simp [markV,HK.out]
   rw [hx] at c1 c2
   clear h hml hx
   have HB:=Lib.hid hb
   clear hb
   go_wp2
   first
    | (go_roundg (n - (i + 1))
       case measure=>omega
       case rel=>exact ⟨i + 1,kk + 2,by omega,rfl,by have:=HK.out;omega,congrArg (Value.int IntKind.i64) (by omega),by go_num,HB.out⟩)
    | (go_quiet (fail)
       go_wp2
       go_roundg (n - (i + 1))
       case measure=>omega
       case rel=>exact ⟨i + 1,kk + 2,by omega,rfl,by have:=HK.out;omega,congrArg (Value.int IntKind.i64) (by omega),by go_num,bdrewN HB.out _⟩)
  ·have HIE:=Lib.hid (show i=n by omega)
   go_wp2
   go_ret
   exact ⟨ret_int (by rw [HK.out,HIE.out]),hb⟩

set_option maxRecDepth 20000 in
set_option maxHeartbeats 1000000 in
theorem heldValueSS_ok (lo lo':Nat) (A:Option Addr) (c:Nat) (cp:List SRw) (k:Int) (w:World) (hk0:0 ≤ k) (hk:k ≤ 1048576) (hn:cp.length ≤ 400) (hr:∀ p ∈ cp,p.2.length ≤ 16) (hO:Ow lo' 100 1 svC w (.slice A cp.length c) (cp.map (·.1))) (h:Cps lo w (marks k cp)) :
 Calls Tryz.prog 40 #[.slice A cp.length c,.int .i64 k] w fun e w'=>e=.returned (.int .i64 (k + 2 * mlen cp)) ∧ Below w.heap.size w w':=by
 have HL:=Lib.hid hr
 have H0:=Lib.hid (And.intro hO h)
 clear h hr hO
 go_enter Tryz.func40,Tryz.ntmps40
 go_wp2
 go_loopg [1,5] cp.length (fun g kv iv wr=>∃ (i:Nat) (kk:Int),i ≤ cp.length ∧ g=cp.length - i ∧ kk=k + 2 * mlen (cp.take i) ∧ kv=.int .i64 kk ∧ iv=.int .i64 i ∧ Below w.heap.size w wr)
 case atStart=>exact ⟨0,k,by omega,by omega,by simp [mlen],rfl,rfl,Below.refl _ _⟩
 case round=>
  obtain ⟨i,kk,hi,rfl,hkk,rfl,rfl,hb⟩:=hrel
  have hml:mlen (cp.take i) ≤ 16 * (cp.take i).length:=mlen_le fun p hp=>HL.out p (List.mem_of_mem_take hp)
  have hml2:(cp.take i).length ≤ 400:=by rw [List.length_take];omega
  have hkk0:0 ≤ kk:=by omega
  have hkk1:kk ≤ 1099511627776:=by omega
  have HW:=Lib.hid (And.intro hkk hb)
  clear hkk hml hml2
  by_cases hlt:i < cp.length
  ·obtain ⟨⟨⟨pA,pn,pc⟩,pr⟩,hp⟩:∃ p,cp[i]? = some p:=⟨_,List.getElem?_eq_getElem hlt⟩
   have hmg:=marks_get cp k i _ hp
   rw [← HW.out.1] at hmg
   have hop:=(H0.out.2.on hb).1 _ (List.mem_of_getElem? hmg)
   have hpl:pr.length ≤ 16:=HL.out _ (List.mem_of_getElem? hp)
   have hpn:pn=pr.length:=by have:=hop.1;rwa [markV_length] at this
   obtain ⟨g,hA,hxx,hg,hgl,_,hgf,hgc⟩:=(H0.out.1.on hb).head svC_length (by rw [List.length_map];omega)
   subst hA
   clear hxx
   have c1:wr.cell? ⟨g,i,none⟩=some (.slice pA pr.length pc):=by
    rw [← hpn]
    refine hgc i _ ?_
    have:=flat_get 1 svC svC_length (cp.map (·.1)) i ⟨pA,pn,pc⟩ 0 _ (by rw [List.getElem?_map,hp];rfl) rfl
    rwa [Nat.mul_one,Nat.add_zero] at this
   have HP2:=Lib.hid (show pr.length=pr.length from rfl)
   have HM:=Lib.hid (heldValueS_ok pA pc pr.length kk wr hkk0 hkk1 (by omega) hop.slT.2.2.sl)
   have HP:=Lib.hid hp
   have hnn:¬ (kk + 2 * (pr.length:Int) < 0):=by omega
   clear hgf hgc hp hmg hop hpn hb
   go_wp2_with fail
   refine HM.out.mono ?_
   rintro e w1 ⟨rfl,hb1⟩
   have HB1:=Lib.hid (bch HW.out.2 hb1)
   clear hb1
   go_wp2
   go_roundg (cp.length - (i + 1))
   case measure=>omega
   case rel=>
    have htk:cp.take (i + 1)=cp.take i ++ [((⟨pA,pn,pc⟩:SV),pr)]:=by rw [List.take_add_one,HP.out];rfl
    exact ⟨i + 1,kk + 2 * pr.length,by omega,rfl,by rw [htk,mlen_snoc,HW.out.1];dsimp only;have:=HP2.out;omega,rfl,by go_num,HB1.out⟩
  ·have HIE:=Lib.hid (show i=cp.length by omega)
   go_wp2
   go_ret
   obtain ⟨h1,h2⟩:=HW.out
   rw [HIE.out,List.take_of_length_le (Nat.le_refl _)] at h1
   exact ⟨ret_int h1,h2⟩

set_option maxHeartbeats 400000 in
theorem heldTable_ok (W:Int) (lo lo':Nat) (A:Option Addr) (c:Nat) (cp:List SRw) (k:Int) (w:World) (hk0:0 ≤ k) (hk:k ≤ 1048576) (hn:cp.length ≤ 400) (hr:∀ p ∈ cp,p.2.length ≤ 16) (hO:Ow lo' 100 1 svC w (.slice A cp.length c) (cp.map (·.1))) (h:Cps lo w (marks k cp)) :
 Calls Tryz.prog 17 #[.agg #[.int .i64 W,.slice A cp.length c],.int .i64 k] w fun e w'=>e=.returned (.int .i64 (k + 2 * mlen cp)) ∧ Below w.heap.size w w':=by
 have B0:=balloc (Below.refl _ w) (.cells #[.int .i64 W,.slice A cp.length c] 32)
 have HM:=Lib.hid (heldValueSS_ok lo lo' A c cp k _ hk0 hk hn hr (hO.on B0) (h.on B0))
 have hnn:¬ (k + 2 * (mlen cp:Int) < 0):=by omega
 have HB0:=Lib.hid B0
 clear h hr hO B0
 go_enter Tryz.func17,Tryz.ntmps17
 go_wp2_with fail
 refine HM.out.mono ?_
 rintro e w1 ⟨rfl,hb1⟩
 have H:=Lib.hid (bch HB0.out hb1)
 clear hb1
 go_wp2
 go_ret
 exact ⟨rfl,H.out⟩
end Go.Proofs.YtcbfbgngkdiijaaGreat

namespace Go.Proofs.YtcbfbgngkdiijaaGreat
open Go.RowKit Go.Qo
set_option linter.unusedVariables false
set_option linter.unusedSimpArgs false

theorem OwnRs.sv {w:World} {B0 b:Nat} {bs:List Nat} {rows:List Row1} {tO tI:TypeId} (h:OwnRs valC tO tI w B0 b bs rows []) (hm:∀ r ∈ rows,r.length ≤ maxLen) :
 ∃ svs,Sl 1 svC w w.heap.size (some ⟨b,0,none⟩) svs ∧ RowsT tI 2 valC 0 w svs rows:=by
 refine ⟨List.zipWith rowSV bs rows,Row.sl (t:=tO) (more:=[]) svC_length h.outer,by rw [List.length_zipWith,h.len,Nat.min_self],fun i s xs h1 h2=>?_⟩
 rw [List.getElem?_zipWith,h2] at h1
 cases hc:bs[i]? with
 | none=>rw [hc] at h1;simp at h1
 | some c=>
   rw [hc] at h1
   simp only [Option.some.injEq] at h1
   subst h1
   exact ⟨rfl,Nat.le_refl _,hm xs (List.mem_of_getElem? h2),Row.slT' valC_length (h.inner i c xs hc h2) (Nat.zero_le _)⟩
theorem belT {B b:Nat} {a z:World} (h:Below B a z) (hb:B ≤ b) (u u':Value):Below B a ((z.setCell ⟨b,0,none⟩ u).setCell ⟨b,1,none⟩ u'):=(h.setCell hb _).setCell hb _
theorem onlyT (w:World) (b:Nat) (u u':Value):Only (fun i=>i=b) w ((w.setCell ⟨b,0,none⟩ u).setCell ⟨b,1,none⟩ u'):=
 (Only.set (S:=fun i=>i=b) (p:=⟨b,0,none⟩) (Only.refl w) (.inl rfl) u).set (p:=⟨b,1,none⟩) (.inl rfl) u'
theorem Rws.below {B:Nat} {A:Option Addr} {w w':World} {out:List Row1} (h:Rws w B A out) (hb:Below B w w'):Rws w' B A out:=by
 obtain ⟨svs,h1,h2,h3⟩:=h
 exact ⟨svs,h1,h2.below hb,fun i s xs ha hc=>by
  obtain ⟨k1,k2,k3,k4⟩:=h3 i s xs ha hc
  exact ⟨k1,k2,k3,k4.below hb⟩⟩
theorem Rws.more {B B':Nat} {A:Option Addr} {w:World} {out:List Row1} (h:Rws w B A out) (hB:B ≤ B'):Rws w B' A out:=by
 obtain ⟨svs,h1,h2,h3⟩:=h
 exact ⟨svs,h1,h2.more hB,fun i s xs ha hc=>by
  obtain ⟨k1,k2,k3,k4⟩:=h3 i s xs ha hc
  exact ⟨k1,k2,k3,k4.more hB⟩⟩
theorem SpecTab.read {q:Bool} {W:Int} {rows:List Row1} {w w':World} {e:Ending} (h:SpecTab q W rows w e w'):∃ (W1:Int) (A:Option Addr) (c:Nat) (svs:List SV) (out:List Row1),e=.returned (.tuple #[.agg #[.int .i64 W1,.slice A out.length c],.bool q]) ∧ TabD q W rows W1 out ∧ Ow w.heap.size 100 1 svC w' (.slice A out.length c) svs ∧ RowsT 85 2 valC 0 w' svs out ∧ Below w.heap.size w w':=by
 obtain ⟨W1,v,svs,out,rfl,h1,h2,h3,h4⟩:=h
 obtain ⟨A,c,rfl,_,_,_⟩:=h2.shape svC_length
 have hl:=h3.1
 rw [hl] at h2 ⊢
 exact ⟨W1,A,c,svs,out,rfl,h1,h2,h3,h4⟩
theorem TabRes.read {q:Bool} {W:Int} {rows:List Row1} {w w':World} {e:Ending} (h:TabRes q W rows w e w'):∃ (W1:Int) (A:Option Addr) (c:Nat) (cp:List SRw),e=.returned (.tuple #[.agg #[.int .i64 W1,.slice A cp.length c],.bool q]) ∧ TabC q W rows W1 (cp.map (·.2)) ∧ Ow w.heap.size 100 1 svC w' (.slice A cp.length c) (cp.map (·.1)) ∧ Cps w.heap.size w' cp ∧ Below w.heap.size w w':=by
 obtain ⟨W1,v,cp,rfl,h1,h2,h3,h4⟩:=h
 obtain ⟨A,c,rfl,_,_,_⟩:=h2.shape svC_length
 rw [List.length_map] at h2 ⊢
 exact ⟨W1,A,c,cp,rfl,h1,h2,h3,h4⟩
theorem rws_cp {lo lo':Nat} {w:World} {A:Option Addr} {c:Nat} {cp:List SRw} (h:Ow lo' 100 1 svC w (.slice A cp.length c) (cp.map (·.1))) (h':Cps lo w cp):Rws w w.heap.size A (cp.map (·.2)):=by
 obtain ⟨A2,c2,e,_,_,h2⟩:=h.shape svC_length
 injection e with e1 e2 e3
 subst e1
 exact sls_of' h2.sl h'.rows
end Go.Proofs.YtcbfbgngkdiijaaGreat

namespace Go.Proofs.YtcbfbgngkdiijaaGreat
open Go.RowKit Go.Qo
set_option linter.unusedVariables false
set_option linter.unusedSimpArgs false

end Go.Proofs.YtcbfbgngkdiijaaGreat

namespace Go.Proofs.YtcbfbgngkdiijaaGreat
open Go.RowKit Go.Qo
set_option linter.unusedVariables false

end Go.Proofs.YtcbfbgngkdiijaaGreat

namespace Go.Proofs.YtcbfbgngkdiijaaGreat
open Go.RowKit Go.Qo
set_option linter.unusedVariables false
set_option linter.unusedSimpArgs false

end Go.Proofs.YtcbfbgngkdiijaaGreat

namespace Go.Proofs.YtcbfbgngkdiijaaGreat
open Go.RowKit Go.Qo
set_option linter.unusedVariables false
set_option linter.unusedSimpArgs false

def DrTab (lo:Nat) (w:World) (W:Int) (v:Value) (svs:List SV) (rows:List Row1):Prop:=
 W ≤ 16 ∧ rows.length ≤ 16 ∧ (∀ r ∈ rows,r.length ≤ 16) ∧ Ow lo 100 1 svC w v svs ∧ RowsT 85 2 valC lo w svs rows
theorem DrTab.low {lo lo':Nat} {w:World} {W:Int} {v:Value} {svs:List SV} {rows:List Row1} (h:DrTab lo w W v svs rows) (hl:lo' ≤ lo):DrTab lo' w W v svs rows:=⟨h.1,h.2.1,h.2.2.1,h.2.2.2.1.low hl,h.2.2.2.2.low hl⟩
theorem DrTab.on {lo:Nat} {w w':World} {W:Int} {v:Value} {svs:List SV} {rows:List Row1} (h:DrTab lo w W v svs rows) (hb:Below w.heap.size w w'):DrTab lo w' W v svs rows:=⟨h.1,h.2.1,h.2.2.1,h.2.2.2.1.on hb,h.2.2.2.2.on hb⟩
theorem DrTab.only {lo:Nat} {w w':World} {S:Nat → Prop} {W:Int} {v:Value} {svs:List SV} {rows:List Row1} (h:DrTab lo w W v svs rows) (hb:Only S w w') (hS:∀ k,S k → k < lo ∨ TyAt w k 32):DrTab lo w' W v svs rows:=
 ⟨h.1,h.2.1,h.2.2.1,h.2.2.2.1.only hb fun k hk=>(hS k hk).imp id fun ht=>⟨_,by decide,ht⟩,h.2.2.2.2.only hb fun k hk=>(hS k hk).imp id fun ht=>⟨_,by decide,ht⟩⟩
theorem DrTab.sl {lo:Nat} {w:World} {W:Int} {A:Option Addr} {n c:Nat} {svs:List SV} {rows:List Row1} (h:DrTab lo w W (.slice A n c) svs rows):Sl 1 svC w w.heap.size A svs:=by
 obtain ⟨A2,c2,e,_,_,h2⟩:=h.2.2.2.1.shape svC_length
 injection e with e1 e2 e3
 subst e1
 exact h2.sl
end Go.Proofs.YtcbfbgngkdiijaaGreat

namespace Go.Proofs.YtcbfbgngkdiijaaGreat
open Go.RowKit Go.Qo
set_option linter.unusedVariables false
set_option linter.unusedSimpArgs false

theorem DrTab.read {lo:Nat} {w:World} {W:Int} {v:Value} {svs:List SV} {rows:List Row1} (h:DrTab lo w W v svs rows) :
 ∃ A c,v=.slice A rows.length c ∧ rows.length ≤ c ∧ c ≤ maxLen ∧ Sl 1 svC w w.heap.size A svs ∧ RowsT 85 2 valC 0 w svs rows ∧ rows.length ≤ 16 ∧ (∀ r ∈ rows,r.length ≤ 16):=by
 obtain ⟨_,h2,h3,h4,h5⟩:=h
 obtain ⟨A,c,rfl,h6,h7,h8⟩:=h4.shape svC_length
 have hl:=h5.1
 exact ⟨A,c,by rw [hl],by omega,h7,h8.sl,h5.low (Nat.zero_le _),h2,h3⟩
theorem Ow.cap {lo:Nat} {w:World} {A:Option Addr} {n c:Nat} {svs:List SV} (h:Ow lo 100 1 svC w (.slice A n c) svs):n ≤ c ∧ c ≤ maxLen:=by
 obtain ⟨A2,c2,e,h1,h2,_⟩:=h.shape svC_length
 injection e with e1 e2 e3
 subst e2
 subst e3
 exact ⟨h1,h2⟩
end Go.Proofs.YtcbfbgngkdiijaaGreat

namespace Go.Proofs.YtcbfbgngkdiijaaGreat
open Go.RowKit Go.Qo
set_option linter.unusedVariables false
set_option linter.unusedSimpArgs false

end Go.Proofs.YtcbfbgngkdiijaaGreat
