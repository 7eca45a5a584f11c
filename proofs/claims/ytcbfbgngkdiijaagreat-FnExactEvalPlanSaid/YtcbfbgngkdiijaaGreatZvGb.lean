import Derived.Test.YtcbfbgngkdiijaaGreatZvPln
import Derived.Test.YtcbfbgngkdiijaaGreatProg
import Derived.Test.YtcbfbgngkdiijaaGreatZvGf
import Derived.Test.YtcbfbgngkdiijaaGreatZvMkg
import Derived.Test.YtcbfbgngkdiijaaGreatZvRwt
import Derived.Test.YtcbfbgngkdiijaaGreatZvGg
import Derived.Test.YtcbfbgngkdiijaaGreatZvTbg
import Derived.Test.YtcbfbgngkdiijaaGreatZvGe
import Derived.Deep.AppendLies
import Derived.Test.YtcbfbgngkdiijaaGreatZvSzE
set_option linter.unusedVariables false
set_option linter.unusedSimpArgs false
namespace Go.Qo

end Go.Qo

namespace Go.Proofs.YtcbfbgngkdiijaaGreat
open Go.RowKit Go.Qo

end Go.Proofs.YtcbfbgngkdiijaaGreat

namespace Go.Proofs.YtcbfbgngkdiijaaGreat
open Go.RowKit Go.Qo

end Go.Proofs.YtcbfbgngkdiijaaGreat

namespace Go.Proofs.YtcbfbgngkdiijaaGreat
open Go.RowKit Go.Qo

def svV (s:SV):Value:=.slice s.A s.n s.c
structure Bks (w:World) (wr:World) (vs:List SV) (bks:List (List Row1)):Prop where
 len:vs.length=bks.length
 own:∀ (k:Nat) (s:SV) (b:List Row1),vs[k]? = some s → bks[k]? = some b → ∃ l:List SV,s.n=l.length ∧ Ow w.heap.size 100 1 svC wr (svV s) l ∧ l.length=b.length ∧ ∀ (i:Nat) (sv:SV) (r:Row1),l[i]? = some sv → b[i]? = some r → SVIs 2 valC w w.heap.size sv r
 apart:∀ (j k:Nat) (s t:SV) (g:Nat),vs[j]? = some s → vs[k]? = some t → (svV s).ownBlock=some g → (svV t).ownBlock=some g → j=k

theorem Bks.keep {w wr wr':World} {vs:List SV} {bks:List (List Row1)} (h:Bks w wr vs bks) (hk:∀ b,w.heap.size ≤ b → b < wr.heap.size → TyAt wr b 100 → wr'.heap[b]? = wr.heap[b]?):Bks w wr' vs bks:=
 ⟨h.len,fun k s b h1 h2=>by obtain ⟨l,a,b',c,d⟩:=h.own k s b h1 h2;exact ⟨l,a,b'.keep hk,c,d⟩,h.apart⟩
theorem Bks.on {w wr wr':World} {vs:List SV} {bks:List (List Row1)} (h:Bks w wr vs bks) (hb:Below wr.heap.size wr wr'):Bks w wr' vs bks:=h.keep fun b _ hl _=>hb.block b hl
theorem Bks.put {w wr wr':World} {vs:List SV} {bks:List (List Row1)} (h:Bks w wr vs bks) {j:Nat} {s:SV} {b:List Row1} {l:List SV} (hs:vs[j]? = some s) (hb:bks[j]? = some b) (hl:l.length=b.length) (hr:∀ (i:Nat) (sv:SV) (r:Row1),l[i]? = some sv → b[i]? = some r → SVIs 2 valC w w.heap.size sv r)
 {g cap:Nat} {sv:SV} {r:Row1} (hsv:SVIs 2 valC w w.heap.size sv r) (hown:Ow w.heap.size 100 1 svC wr' (.slice (some ⟨g,0,none⟩) (l ++ [sv]).length cap) (l ++ [sv])) (hg:wr.grownBy wr' (svV s).ownBlock) (hat:(svV s).ownBlock=some g ∨ g=wr.heap.size) :
 Bks w wr' (vs.set j ⟨some ⟨g,0,none⟩,(l ++ [sv]).length,cap⟩) (bks.set j (b ++ [r])):=by
 have hblk:∀ (k:Nat) (t:SV) (q:Nat),k ≠ j → vs[k]? = some t → (svV t).ownBlock=some q → q ≠ g ∧ wr'.heap[q]? = wr.heap[q]?:=by
  intro k t q hkj ht hq
  have hkb:∃ bk,bks[k]? = some bk:=by
   have:=(List.getElem?_eq_some_iff.1 ht).1
   exact ⟨_,List.getElem?_eq_getElem (by rw [← h.len];exact this)⟩
  obtain ⟨bk,hbk⟩:=hkb
  obtain ⟨lk,_,how,_,_⟩:=h.own k t bk ht hbk
  have hlt:=(how.ty q hq).2.1
  refine ⟨?_,hg.block q hlt fun e=>?_⟩
  ·rintro rfl
   rcases hat with h1 | h1
   ·exact hkj (h.apart k j t s q ht hs hq h1)
   ·omega
  ·exact hkj (h.apart k j t s q ht hs hq e.symm)
 refine ⟨by simp [h.len],fun k s' b' h1 h2=>?_,fun j' k' s' t' q h1 h2 h3 h4=>?_⟩
 ·rw [List.getElem?_set] at h1 h2
  by_cases e:j=k
  ·subst e
   rw [if_pos rfl] at h1 h2
   split at h1 <;> cases h1
   split at h2 <;> cases h2
   refine ⟨l ++ [sv],rfl,hown,by simp [hl],fun i sv' r' h3 h4=>?_⟩
   rw [List.getElem?_append] at h3 h4
   rw [← hl] at h4
   split at h3
   ·rename_i hi;rw [if_pos hi] at h4;exact hr i sv' r' h3 h4
   ·rename_i hi
    rw [if_neg hi] at h4
    cases hj:i - l.length with
    | zero=>rw [hj] at h3 h4;simp only [List.getElem?_cons_zero,Option.some.injEq] at h3 h4;subst h3;subst h4;exact hsv
    | succ m=>rw [hj] at h3;simp at h3
  ·rw [if_neg e] at h1 h2
   obtain ⟨lk,a1,a2,a3,a4⟩:=h.own k s' b' h1 h2
   refine ⟨lk,a1,?_,a3,a4⟩
   refine ⟨a2.1,?_⟩
   rcases a2.2 with h5 | ⟨g',cap',cur,hv,hg',hh,rest⟩
   ·exact .inl h5
   ·exact .inr ⟨g',cap',cur,hv,hg',(hblk k s' g' (fun e'=>e e'.symm) h1 (by rw [hv];rfl)).2.trans hh,rest⟩
 ·rw [List.getElem?_set] at h1 h2
  by_cases e:j=j'
  ·subst e
   by_cases e':j=k'
   ·exact e'
   ·rw [if_neg e'] at h2
    rw [if_pos rfl] at h1
    split at h1 <;> cases h1
    cases h3
    exact absurd rfl (hblk k' t' g (fun x=>e' x.symm) h2 h4).1
  ·rw [if_neg e] at h1
   by_cases e':j=k'
   ·subst e'
    rw [if_pos rfl] at h2
    split at h2 <;> cases h2
    cases h4
    exact absurd rfl (hblk j' s' g (fun x=>e x.symm) h1 h3).1
   ·rw [if_neg e'] at h2
    exact h.apart j' k' s' t' q h1 h2 h3 h4
theorem Bks.start (w wr:World) (m:Nat):Bks w wr (List.replicate m ⟨none,0,0⟩) (List.replicate m []):=by
 refine ⟨by simp,fun k s b h1 h2=>?_,fun j k s t g h1 h2 h3 h4=>?_⟩
 ·have e1:=List.eq_of_mem_replicate (List.mem_of_getElem? h1)
  have e2:=List.eq_of_mem_replicate (List.mem_of_getElem? h2)
  subst e1
  subst e2
  exact ⟨[],rfl,Ow.nil,rfl,fun i sv r h=>by simp at h⟩
 ·have e1:=List.eq_of_mem_replicate (List.mem_of_getElem? h1)
  subst e1
  cases h3
end Go.Proofs.YtcbfbgngkdiijaaGreat

namespace Go.Proofs.YtcbfbgngkdiijaaGreat
open Go.RowKit Go.Qo

def EqX (x:Ex):Prop:=∀ (f g:FE) (w:World),ExIn w w.heap.size f x → ExIn w w.heap.size g x →
 Calls Tryz.prog 60 #[feV f,feV g] w fun e w'=>e=.returned (.bool true) ∧ Below w.heap.size w w'

set_option maxRecDepth 20000 in
set_option maxHeartbeats 2000000 in
theorem eqExprS_of (es:List Ex) (he:∀ x ∈ es,EqX x) (A A':Option Addr) (c c':Nat) (w:World) (hn:es.length ≤ maxLen) (h:ExsIn w w.heap.size A es) (h':ExsIn w w.heap.size A' es) :
 Calls Tryz.prog 33 #[.slice A es.length c,.slice A' es.length c'] w fun e w'=>e=.returned (.bool true) ∧ Below w.heap.size w w':=by
 have HE:=Lib.hid he
 have HH:=Lib.hid (And.intro h h')
 clear he h h'
 unfold maxLen at hn
 go_enter Tryz.func33,Tryz.ntmps33
 go_wp2
 go_loopg [5] es.length (fun g iv wr=>∃ i:Nat,i ≤ es.length ∧ g=es.length - i ∧ iv=.int .i64 i ∧ Below w.heap.size w wr)
 case atStart=>exact ⟨0,by omega,by omega,rfl,Below.refl _ _⟩
 case round=>
  obtain ⟨i,hi,rfl,rfl,hb⟩:=hrel
  have HB:=Lib.hid hb
  clear hb
  by_cases hlt:i < es.length
  ·obtain ⟨b1,o1,f,hA,hB1,⟨d0,d1,d2,d3,d4⟩,hf⟩:=(HH.out.1.on HB.out).at_ hlt
   obtain ⟨b2,o2,g,hA',hB2,⟨k0,k1,k2,k3,k4⟩,hg⟩:=(HH.out.2.on HB.out).at_ hlt
   subst hA
   subst hA'
   have HX:=Lib.hid (fun z:Aft wr.heap.size wr=>HE.out _ (List.getElem_mem hlt) f g z.v (hf.on z.h) (hg.on z.h))
   unfold feV at HX
   have hil:(i:Int) < (es.length:Int):=by omega
   have D0:=fun z:Aft wr.heap.size wr=>z.cell hB1 d0
   have D1:=fun z:Aft wr.heap.size wr=>z.cell hB1 d1
   have D2:=fun z:Aft wr.heap.size wr=>z.cell hB1 d2
   have D3:=fun z:Aft wr.heap.size wr=>z.cell hB1 d3
   have D4:=fun z:Aft wr.heap.size wr=>z.cell hB1 d4
   have K0:=fun z:Aft wr.heap.size wr=>z.cell hB2 k0
   have K1:=fun z:Aft wr.heap.size wr=>z.cell hB2 k1
   have K2:=fun z:Aft wr.heap.size wr=>z.cell hB2 k2
   have K3:=fun z:Aft wr.heap.size wr=>z.cell hB2 k3
   have K4:=fun z:Aft wr.heap.size wr=>z.cell hB2 k4
   clear hf hg d0 d1 d2 d3 d4 k0 k1 k2 k3 k4
   go_wp2
   refine wp_region_aft wr.heap.size (by kernel_rfl) (by kernel_rfl) ?_
   repeat (go_big_quiet_step ((go_at_call 60;exact Calls.aft (Nat.le_refl _) (HX.out _))))
   refine wpQuiet_nil ?_
   intro w2 hw'
   obtain ⟨⟨_,hb2⟩,rfl⟩:=hw'
   go_wp2
   have H2:=Lib.hid (bch HB.out hb2)
   clear hb2 D0 D1 D2 D3 D4 K0 K1 K2 K3 K4
   go_wp2
   go_roundg (es.length - (i + 1))
   case measure=>omega
   case rel=>exact ⟨i + 1,by omega,rfl,by go_num,H2.out⟩
  ·go_wp2
   go_ret
   exact ⟨rfl,HB.out⟩

set_option maxRecDepth 20000 in
set_option maxHeartbeats 2000000 in
theorem eqExpr_ok:∀ x:Ex,EqX x:=Ex.ind fun x ih f g w h h'=>by
 obtain ⟨a1,a2,a3,a4,a5,a6⟩:=h.flat
 obtain ⟨b1,b2,b3,b4,b5,b6⟩:=h'.flat
 have e1:g.kind=f.kind:=b1.trans a1.symm
 have e2:g.col=f.col:=b2.trans a2.symm
 have e3:g.val=f.val:=b3.trans a3.symm
 obtain ⟨W1,hW1⟩:∃ z,(w.alloc (.cells #[.int .i64 f.kind,.int .i64 f.col,.bool f.val.1,.int .i64 f.val.2,.slice f.sv.A x.kids.length f.sv.c] 87)).alloc (.cells #[.int .i64 f.kind,.int .i64 f.col,.bool f.val.1,.int .i64 f.val.2,.slice g.sv.A x.kids.length g.sv.c] 87)=z:=⟨_,rfl⟩
 have B1:Below w.heap.size w W1:=by rw [← hW1];exact balloc (balloc (Below.refl _ _) _) _
 have r1:Row W1 w.heap.size 87 [.int .i64 f.kind,.int .i64 f.col,.bool f.val.1,.int .i64 f.val.2,.slice f.sv.A x.kids.length f.sv.c]:=by rw [← hW1];exact Row.first _ _ _ _
 have r2:Row W1 (w.heap.size + 1) 87 [.int .i64 f.kind,.int .i64 f.col,.bool f.val.1,.int .i64 f.val.2,.slice g.sv.A x.kids.length g.sv.c]:=by rw [← hW1];exact Row.second _ _ _ _
 have HL:=Lib.hid (fun (z:World) (hz:Below W1.heap.size W1 z)=>eqExprS_of x.kids ih f.sv.A g.sv.A f.sv.c g.sv.c z (by omega) ((h.kids_in.on B1).on hz) ((h'.kids_in.on B1).on hz))
 have HV:=Lib.hid (eqValue_ok f.val f.val W1)
 have HB1:=Lib.hid B1
 have HW1:=Lib.hid hW1
 have HR1:=Lib.hid r1
 have HR2:=Lib.hid r2
 have c0:W1.cell? ⟨w.heap.size,0,none⟩=some (.int .i64 f.kind):=r1.cell 0
 have c1:W1.cell? ⟨w.heap.size,1,none⟩=some (.int .i64 f.col):=r1.cell 1
 have c2:W1.cell? ⟨w.heap.size,2,none⟩=some (.bool f.val.1):=r1.cell 2
 have c3:W1.cell? ⟨w.heap.size,3,none⟩=some (.int .i64 f.val.2):=r1.cell 3
 have k0:W1.cell? ⟨w.heap.size + 1,0,none⟩=some (.int .i64 f.kind):=r2.cell 0
 have k1:W1.cell? ⟨w.heap.size + 1,1,none⟩=some (.int .i64 f.col):=r2.cell 1
 have k2:W1.cell? ⟨w.heap.size + 1,2,none⟩=some (.bool f.val.1):=r2.cell 2
 have k3:W1.cell? ⟨w.heap.size + 1,3,none⟩=some (.int .i64 f.val.2):=r2.cell 3
 rw [show decide (f.val=f.val)=true by simp] at HV
 unfold feV
 rw [e1,e2,e3,a4,b4]
 clear h h' ih a1 a2 a3 a4 a5 a6 b1 b2 b3 b4 b5 b6 e1 e2 e3 B1 r1 r2 hW1
 go_enter Tryz.func60,Tryz.ntmps60
 go_upto_region 1 with fail
 rw [HW1.out]
 go_wp2_with fail
 refine HV.out.mono ?_
 rintro e w2 ⟨rfl,hb2⟩
 have HB2:=Lib.hid hb2
 have c4:w2.cell? ⟨w.heap.size,4,none⟩=some (.slice f.sv.A x.kids.length f.sv.c):=(HR1.out.on hb2).cell 4
 have k4:w2.cell? ⟨w.heap.size + 1,4,none⟩=some (.slice g.sv.A x.kids.length g.sv.c):=(HR2.out.on hb2).cell 4
 clear hb2 c0 c1 c2 c3 k0 k1 k2 k3
 go_wp2_with fail
 refine (HL.out w2 HB2.out).mono ?_
 rintro e w3 ⟨rfl,hb3⟩
 go_wp2
 go_ret
 exact ⟨rfl,bch (bch HB1.out HB2.out) hb3⟩
end Go.Proofs.YtcbfbgngkdiijaaGreat
