import Derived.Test.YtcbfbgngkdiijaaGreatProg
import Derived.Test.YtcbfbgngkdiijaaGreatZvCol
import Derived.Test.YtcbfbgngkdiijaaGreatZvGe
import Derived.Lib.AppendZeros
import Derived.Deep.DeepCutAuto
import Derived.Deep.RegionHeld3
import Derived.Maps.Own
import Derived.Maps.OwnOps
import Derived.Maps.Views
import Derived.Test.YtcbfbgngkdiijaaGreatZvRwt
import Derived.Test.YtcbfbgngkdiijaaGreatZvPln
import Derived.Test.YtcbfbgngkdiijaaGreatZvGe
import Derived.RangeFuncFrom
namespace Go.Proofs.YtcbfbgngkdiijaaGreat
open Go.RowKit Go.Qo
set_option linter.unusedVariables false
set_option linter.unusedSimpArgs false
attribute [local go_sem] Oper.semAt_some

theorem Ow.sl' {lo:Nat} {w:World} {A:Option Addr} {n c:Nat} {svs:List SV} (h:Ow lo 100 1 svC w (.slice A n c) svs):Sl 1 svC w w.heap.size A svs:=by
 obtain ⟨A2,c2,e,_,_,h2⟩:=h.shape svC_length
 injection e with e1 e2 e3
 subst e1
 exact h2.sl
theorem SRs.on {W:Int} {w w':World} {p:SRw} (h:SRs W w p) (hb:Below w.heap.size w w'):SRs W w' p:=⟨h.1,h.2.1,h.2.2.1,h.2.2.2.1,h.2.2.2.2.on hb⟩
set_option maxRecDepth 100000 in
set_option maxHeartbeats 2000000 in
theorem valuesIt_ok (W:Int) (pb:Nat) (A:Option Addr) (c:Nat) (ps:List SRw) (w:World) (hn:ps.length ≤ 1048576) (hRa:Row w pb 30 [.slice A ps.length c]) (hA:Sl 1 svC w w.heap.size A (ps.map (·.1))) (hS:∀ p ∈ ps,SRs W w p) :
 SeqStopsK Fence.wide 5 Tryz.prog 105 #[.pointer (some ⟨pb,0,none⟩)] (fun x:Src W w=>#[encSR x.1]) (KpC w.heap.size)
  (fun xs=>xs.map (·.1)=ps) (fun pre=>pre.map (·.1) <+: ps) ps.length w:=by
 intro l J Jx z hz hJ hJx hY h0
 have a0:z.cell? ⟨pb,0,none⟩=some (.slice A ps.length c):=(hRa.on hz).cell 0
 have HA:=Lib.hid hA
 have HS:=Lib.hid hS
 have HY:=Lib.hid hY
 have HZ:=Lib.hid hz
 clear hA hS hY hz hRa
 show CallsIn _ _ _ _ #[.func (.yield l) #[] #[],.pointer (some ⟨pb,0,none⟩)] _ _
 refine callsIn_of_wp Tryz.func105 rfl trivial ?_ rfl
 simp only [Tryz.ntmps105,List.size_toArray,List.length_cons,List.length_nil,Nat.reduceAdd,Nat.reduceSub,Array.replicate_succ,Array.replicate_zero,List.push_toArray,List.append_toArray,List.nil_append,List.cons_append]
 gi_wp2
 gi_loopw [7] (fun i wr=>∃ (k:Nat) (pre:List (Src W w)),k ≤ ps.length ∧ i=.int .i64 k ∧ pre.map (·.1)=ps.take k ∧ J pre wr ∧ Below w.heap.size w wr)
  (fun i _=>ps.length - (intOf i).toNat)
 case atStart=>exact ⟨0,[],Nat.zero_le _,rfl,rfl,h0,HZ.out⟩
 case round=>
  obtain ⟨k,pre,hk,rfl,hpre,hJs,hb⟩:=hrel
  by_cases hlt:k < ps.length
  ·obtain ⟨p,hp⟩:∃ p,ps[k]? = some p:=⟨_,List.getElem?_eq_getElem hlt⟩
   have hps:=HS.out p (List.mem_of_getElem? hp)
   obtain ⟨b,off,hAA,hB,hc⟩:=HA.out (by rw [List.length_map];omega)
   subst hAA
   have c2:wr.cell? ⟨b,off + k,none⟩=some (.slice p.1.A p.1.n p.1.c):=by
    rw [hb.cell (p:=⟨b,_,none⟩) hB]
    have:=hc k p.1 (by rw [List.getElem?_map,hp];rfl) 0 _ rfl
    rwa [Nat.mul_one,Nat.add_zero] at this
   have hlen:pre.length < ps.length:=by
    have:=congrArg List.length hpre
    rw [List.length_map,List.length_take] at this
    omega
   have hyl:=HY.out pre ⟨p,hps⟩ wr hJs hlen
   change YieldAt _ _ _ l #[.slice p.1.A p.1.n p.1.c] wr _ at hyl
   obtain ⟨fn,tmps,assign,body,hy,hR⟩:=hyl
   have HP:=Lib.hid (And.intro hp (And.intro hpre (And.intro hJs hb)))
   clear hp hpre hc hlen hb hJs
   gi_wp2
   refine hR.mono ?_
   rintro e W3 (⟨rfl,hJ3,hk3⟩ | ⟨rfl,hJx3⟩)
   ·have H3:=Lib.hid (And.intro hJ3 hk3)
    clear hJ3 hk3
    gi_wp2
    go_roundw
    case rel=>
     refine ⟨k + 1,pre ++ [⟨p,hps⟩],by omega,by simp,?_,H3.out.1,HP.out.2.2.2.trans (H3.out.2.belowN HP.out.2.2.2.size)⟩
     rw [List.map_append,HP.out.2.1,List.take_add_one,HP.out.1]
     rfl
    case measure=>simp [intOf];omega
   ·have H3:=Lib.hid hJx3
    clear hJx3
    gi_wp2
    refine bodyPost_ret (results_none rfl _ _ _) rfl ?_
    refine ⟨⟨_,rfl⟩,.inr ⟨_,?_,H3.out⟩⟩
    rw [List.map_append,HP.out.2.1]
    have e:ps.take k ++ [p]=ps.take (k + 1):=by rw [List.take_add_one,HP.out.1];rfl
    show ps.take k ++ [p] <+: ps
    rw [e]
    exact List.take_prefix _ _
  ·obtain rfl:k=ps.length:=by omega
   gi_wp2
   go_end0
   exact ⟨⟨_,rfl⟩,.inl ⟨pre,by rw [hpre,List.take_length],hJs⟩⟩
theorem entersValues1:EntersF 105:=enters_of Tryz.func105 (by kernel_rfl) rfl
set_option maxHeartbeats 1000000 in
theorem values_ok (A:Option Addr) (n c:Nat) (w:World) :
 Calls Tryz.prog 83 #[.slice A n c] w fun e w'=>e=.returned (.func (.func 105) #[] #[.pointer (some ⟨w.heap.size,0,none⟩)]) ∧ Below w.heap.size w w' ∧ Row w' w.heap.size 30 [.slice A n c]:=by
 go_enter Tryz.func83,Tryz.ntmps83
 go_wp2
 go_ret
 exact ⟨rfl,balloc (Below.refl _ _) _,Row.new _ _ _⟩

theorem wpList_runs {P:Program} {w:World} {ops:Array Oper} {rest:List Oper} {o:Oper} {a:Act} {Q:Exit → Act → World → Prop} (hgd:o.guard=none) (s x:Operand) (t tn:TypeId)
 (ho:o.op=.call { callee:=.builtin .append,args:=#[s,x],argTypes:=#[t,tn] }) (v u:Value) (hs:a.eval s=v) (hx:a.eval x=u) {r:Value} {w1:World} (hrun:(Builtin.append_ #[t,tn] o.type #[v,u]).run P w=.ok r w1)
 (h:wpList P ops Q rest (a.put o.dst r) w1):wpList P ops Q (o :: rest) a w:=by
 refine wpList_plain hgd fun K hK=>?_
 unfold Oper.wp
 simp [execOp,ho,resolve,invoke,builtin,hs,hx,hrun,Result.andThen]
 exact hK _ _ h

set_option maxRecDepth 20000 in
set_option maxHeartbeats 1000000 in
theorem grow0_ok (n:Nat) (m:Int) (hmn:m=n) (w:World) (hn:n ≤ 1048576) :
 Calls Tryz.prog 112 #[.slice none 0 0,.int .i64 m] w fun e w'=>∃ A c,e=.returned (.slice A 0 c) ∧ Ow w.heap.size 100 1 svC w' (.slice A 0 c) [] ∧ Below w.heap.size w w':=by
 subst hmn
 have h2:IntKind.i64.wrap (n:Int)=(n:Int):=IntWalk.i64_in _ (by omega)
 rcases Nat.eq_zero_or_pos n with h0 | h0
 ·subst h0
  go_enter Tryz.func112,Tryz.ntmps112
  go_wp2
  go_ret
  exact ⟨none,0,rfl,Ow.nil,Below.refl _ _⟩
 ·obtain ⟨i,hi,hz,hsi,hby⟩:=info_parts zeroRow
  have happ:=Go.Lib.run_append_nil_zeros (P:=Tryz.prog) w 30 3 30 100 i (.slice none 0 0) .i64 .i64 Tryz.underlying30 Tryz.underlying3 hi hz n h0 (by rw [hsi];decide) (by omega) (by rw [hby];omega)
  have h3:(0:Int) < (n:Int):=by omega
  have h4:=grownCap_ge w n 0 100
  have h5:=grownCap_le_maxLen w n 0 100 (by unfold maxLen;omega)
  generalize hcap:grownCap w n 0 100=cap at *
  have hsz:(Builtin.zeroCells (Value.slice none 0 0).cells n ++ Builtin.zeroCells (Value.slice none 0 0).cells (cap - n)).size=cap:=by
   simp [Builtin.zeroCells,Value.cells]
   omega
  generalize hcs:(Builtin.zeroCells (Value.slice none 0 0).cells n ++ Builtin.zeroCells (Value.slice none 0 0).cells (cap - n))=cs at *
  have HC:=Lib.hid (And.intro h4 (And.intro h5 hsz))
  clear hsz hcap hcs hi hz hsi hby
  have HA:=Lib.hid happ
  clear happ
  go_enter Tryz.func112,Tryz.ntmps112
  go_wp2_with (at_builtin;refine wpList_runs rfl (.tmp 20) (.tmp 21) 30 3 rfl _ _ rfl rfl HA.out ?_)
  go_ret
  refine ⟨_,_,rfl,⟨by simp,.inr ⟨w.heap.size,cap,cs,rfl,Nat.le_refl _,?_,Nat.zero_le _,HC.out.2.1,by rw [HC.out.2.2];simp,by simp⟩⟩,?_⟩
  ·exact (Row.new w.drew 100 cs).trans (by simp)
  ·exact balloc (Below.refl _ _).drew _

set_option maxRecDepth 20000 in
set_option maxHeartbeats 2000000 in
theorem concat2_ok (b off k0:Nat) (A1 A2:Option Addr) (n1 n2 c1 c2:Nat) (xs ys:List SV) (w:World) (h1:n1=xs.length) (h2:n2=ys.length) (hn1:n1 ≤ 4096) (hn2:n2 ≤ 4096) (hb:b < w.heap.size) (a0:w.cell? ⟨b,off,none⟩=some (.slice A1 n1 c1)) (a1:w.cell? ⟨b,off + 1,none⟩=some (.slice A2 n2 c2))
 (hx:Sl 1 svC w w.heap.size A1 xs) (hy:Sl 1 svC w w.heap.size A2 ys) :
 Calls Tryz.prog 87 #[.slice (some ⟨b,off,none⟩) 2 k0] w fun e w'=>∃ A c,e=.returned (.slice A (n1 + n2) c) ∧ Ow w.heap.size 100 1 svC w' (.slice A (n1 + n2) c) (xs ++ ys) ∧ Below w.heap.size w w':=by
 have HG:=Lib.hid (grow0_ok (n1 + n2) ((n1:Int) + (n2:Int)) (by omega) w (by omega))
 have HX:=Lib.hid (And.intro hx hy)
 have HN:=Lib.hid (And.intro h1 h2)
 clear hx hy h1 h2
 go_enter Tryz.func87,Tryz.ntmps87
 go_wp2
 go_loopg [3,11] 2 (fun g s iv wr=>w=wr ∧ ((g=2 ∧ s=.int .i64 0 ∧ iv=.int .i64 0) ∨ (g=1 ∧ s=.int .i64 (n1:Nat) ∧ iv=.int .i64 1) ∨ (g=0 ∧ s=.int .i64 ((n1:Int) + (n2:Int)) ∧ iv=.int .i64 2)))
 case atStart=>exact ⟨rfl,.inl ⟨rfl,rfl,rfl⟩⟩
 case round=>
  obtain ⟨hww,(⟨rfl,rfl,rfl⟩ | ⟨rfl,rfl,rfl⟩ | ⟨rfl,rfl,rfl⟩)⟩:=hrel
  all_goals
   subst hww
  ·go_wp2
   go_roundg 1
   case measure=>omega
   case rel=>exact ⟨rfl,.inr (.inl ⟨rfl,by go_num,by go_num⟩)⟩
  ·have e2:¬ ((n1:Int) + (n2:Int) < 0):=by omega
   go_wp2
   go_roundg 0
   case measure=>omega
   case rel=>exact ⟨rfl,.inr (.inr ⟨rfl,by go_num,by go_num⟩)⟩
  ·go_wp2_with fail
   refine HG.out.mono ?_
   rintro e w1 ⟨A3,c3,rfl,how,hb1⟩
   have H1:=Lib.hid (And.intro how hb1)
   have d0:w1.cell? ⟨b,off,none⟩=some (.slice A1 n1 c1):=(hb1.cell (p:=⟨b,_,none⟩) hb).trans a0
   have d1:w1.cell? ⟨b,off + 1,none⟩=some (.slice A2 n2 c2):=(hb1.cell (p:=⟨b,_,none⟩) hb).trans a1
   clear how hb1 a0 a1
   go_wp2
   go_loopg [6,27] 2 (fun g v iv wr=>Below wr.heap.size wr wr ∧ (w.heap.size ≤ wr.heap.size ∧ Below w.heap.size w wr) ∧ ((g=2 ∧ iv=.int .i64 0 ∧ Ow w.heap.size 100 1 svC wr v []) ∨ (g=1 ∧ iv=.int .i64 1 ∧ Ow w.heap.size 100 1 svC wr v xs) ∨ (g=0 ∧ iv=.int .i64 2 ∧ Ow w.heap.size 100 1 svC wr v (xs ++ ys))))
   case atStart=>exact ⟨Below.refl _ _,⟨H1.out.2.size,H1.out.2⟩,.inl ⟨rfl,rfl,H1.out.1⟩⟩
   case round=>
    obtain ⟨_,⟨hz,hbw⟩,(⟨rfl,rfl,how⟩ | ⟨rfl,rfl,how⟩ | ⟨rfl,rfl,how⟩)⟩:=hrel
    all_goals
     have f0:wr.cell? ⟨b,off,none⟩=some (.slice A1 n1 c1):=(hbw.cell (p:=⟨b,_,none⟩) hb).trans (by have:=(H1.out.2.cell (p:=⟨b,off,none⟩) hb);rw [← this];exact d0)
     have f1:wr.cell? ⟨b,off + 1,none⟩=some (.slice A2 n2 c2):=(hbw.cell (p:=⟨b,_,none⟩) hb).trans (by have:=(H1.out.2.cell (p:=⟨b,off + 1,none⟩) hb);rw [← this];exact d1)
     have HW:=Lib.hid (And.intro how hbw)
     have SX:=Lib.hid (HX.out.1.on hbw)
     have SY:=Lib.hid (HX.out.2.on hbw)
    ·obtain ⟨A4,c4,rfl,_,_,_⟩:=how.shape svC_length
     clear how hbw
     go_wp2_with (at_builtin;refine wpList_app rfl (.tmp 31) (.tmp 32) 30 rfl w.heap.size 100 _ 1 24 svC Tryz.underlying30 zeroRow rfl (by decide) (by decide) svC_length svC_one _ ([]:List SV) rfl HW.out.1 A1 n1 c1 xs rfl HN.out.1 SX.out (by have:=HN.out;simp;omega) hz ?_;intro v4 w4 how4 hgr4;have H4:=Lib.hid (And.intro how4 hgr4);clear how4 hgr4)
     go_roundg 1
     case measure=>omega
     case rel=>
      have hb4:Below w.heap.size w w4:=HW.out.2.grown H4.out.2 hz fun q hq=>(HW.out.1.ty q hq).1
      exact ⟨Below.refl _ _,⟨hb4.size,hb4⟩,.inr (.inl ⟨rfl,by go_num,by simpa using H4.out.1⟩)⟩
    ·obtain ⟨A4,c4,rfl,_,_,_⟩:=how.shape svC_length
     clear how hbw
     go_wp2_with (at_builtin;refine wpList_app rfl (.tmp 31) (.tmp 32) 30 rfl w.heap.size 100 _ 1 24 svC Tryz.underlying30 zeroRow rfl (by decide) (by decide) svC_length svC_one _ xs rfl HW.out.1 A2 n2 c2 ys rfl HN.out.2 SY.out (by have:=HN.out;omega) hz ?_;intro v4 w4 how4 hgr4;have H4:=Lib.hid (And.intro how4 hgr4);clear how4 hgr4)
     go_roundg 0
     case measure=>omega
     case rel=>
      have hb4:Below w.heap.size w w4:=HW.out.2.grown H4.out.2 hz fun q hq=>(HW.out.1.ty q hq).1
      exact ⟨Below.refl _ _,⟨hb4.size,hb4⟩,.inr (.inr ⟨rfl,by go_num,H4.out.1⟩)⟩
    ·obtain ⟨A4,c4,rfl,_,_,_⟩:=how.shape svC_length
     have hl:(xs ++ ys).length=n1 + n2:=by rw [List.length_append,HN.out.1,HN.out.2]
     have HL:=Lib.hid hl
     clear how hbw hl
     go_wp2
     go_ret
     exact ⟨A4,c4,by have h1:=HN.out.1;have h2:=HN.out.2;simp [h1,h2],by have:=HW.out.1;rw [HL.out] at this;exact this,HW.out.2⟩
end Go.Proofs.YtcbfbgngkdiijaaGreat

namespace Go.Proofs.YtcbfbgngkdiijaaGreat
open Go.RowKit Go.Qo
set_option linter.unusedVariables false
set_option linter.unusedSimpArgs false
attribute [local go_sem] Oper.semAt_some

theorem filter_take_succ (P:Row1 → Bool) (ps:List SRw) (k:Nat) (p:SRw) (hp:ps[k]? = some p):(ps.take (k + 1)).filter (fun p=>P p.2)=(ps.take k).filter (fun p=>P p.2) ++ if P p.2 then [p] else []:=by
 rw [List.take_add_one,hp,List.filter_append]
 congr 1
 by_cases h:P p.2=true
 ·simp [h]
 ·simp [h]
end Go.Proofs.YtcbfbgngkdiijaaGreat

namespace Go.Proofs.YtcbfbgngkdiijaaGreat
open Go.RowKit Go.Qo Go.Maps
set_option linter.unusedVariables false
set_option linter.unusedSimpArgs false

def MapN (w:World) (b n:Nat) (ns:List Int):Prop:=
 ∃ D:DataW Unit,w.ownsMap Tryz.prog 3 (plainElem Tryz.prog 3) b n D ∧ IsMap D ∧ ∀ x:Int,D.atKey (.int .i64 x) (.lit (.int .i64 0))=.lit (.int .i64 (ns.count x:Nat))
theorem MapN.lt {w:World} {b n:Nat} {ns:List Int} (h:MapN w b n ns):b < w.heap.size:=by obtain ⟨D,h,_⟩:=h;exact h.lt
theorem MapN.kept {w w':World} {b n:Nat} {ns:List Int} (h:MapN w b n ns) (hb:w'.heap[b]? = w.heap[b]?):MapN w' b n ns:=by
 obtain ⟨D,⟨es,clock,h1,h2⟩,h3⟩:=h
 exact ⟨D,⟨es,clock,hb.trans h1,h2⟩,h3⟩
theorem MapN.on {w w':World} {b n:Nat} {ns:List Int} (h:MapN w b n ns) (hb:Below w.heap.size w w'):MapN w' b n ns:=h.kept (hb.block b h.lt)
end Go.Proofs.YtcbfbgngkdiijaaGreat

namespace Go.Proofs.YtcbfbgngkdiijaaGreat
open Go.RowKit Go.Qo Go.Maps
set_option linter.unusedVariables false
set_option linter.unusedSimpArgs false

end Go.Proofs.YtcbfbgngkdiijaaGreat

namespace Go.Proofs.YtcbfbgngkdiijaaGreat
open Go.RowKit Go.Qo
set_option linter.unusedVariables false

def KeepE (n₀:Nat) (E:Nat → Prop) (X Y:World):Prop:=Only (fun k=>n₀ ≤ k ∧ ¬ E k) X Y
theorem KeepE.trans {n₀:Nat} {E:Nat → Prop} {X Y Z:World} (h:KeepE n₀ E X Y) (k:KeepE n₀ E Y Z):KeepE n₀ E X Z:=Only.trans h k
def Fresh (E E':Nat → Prop) (X Y:World):Prop:=∀ i,E' i → (E i ∨ X.heap.size ≤ i) ∧ i < Y.heap.size
def Abd {β:Type} (J:(Nat → Prop) → β → World → Prop):Prop:=∀ (E E':Nat → Prop) (b:β) (X Y:World),J E b X → Only E X Y → Fresh E E' X Y → J E' b Y

def SeqR {α:Type} (F:Fence) (n:Nat) (P:Program) (g:Nat) (lb:Array Value) (enc:α → Value) (R:α → World → Prop) (n₀:Nat) (S Sp:List α → Prop) (N:Nat) (w:World):Prop:=
 ∀ (l:Nat) (J Jx:(Nat → Prop) → List α → World → Prop) (W:World),Below w.heap.size w W → Abd J → Abd Jx →
   (∀ E pre x X,J E pre X → R x X → pre.length < N → YieldAt F (n - 1) P l #[enc x] X fun e Y=>
     (e=.returned (.bool true) ∧ J E (pre ++ [x]) Y ∧ KeepE n₀ E X Y) ∨ (e=.returned (.bool false) ∧ Jx E (pre ++ [x]) Y)) →
   J (fun _=>False) [] W →
   CallsIn F n P g (#[.func (.yield l) #[] #[]] ++ lb) W fun e Y=>(∃ v,e=.returned v) ∧ ((∃ xs E,S xs ∧ J E xs Y) ∨ (∃ pre E,Sp pre ∧ Jx E pre Y))

def postR {α:Type} (n₀:Nat) (E:Nat → Prop) (I:(Nat → Prop) → List α → World → Prop) (Ix:Code → (Nat → Prop) → List α → World → Prop) (xs:List α) (X:World):Exit → Act → World → Prop
 | .normal,_,Y=>KeepE n₀ E X Y ∧ I E xs Y
 | .ret,_,Y=>KeepE n₀ E X Y ∧ Ix .ret E xs Y
 | .exit id,_,Y=>KeepE n₀ E X Y ∧ Ix (.exit id) E xs Y
 | .goto t,_,Y=>KeepE n₀ E X Y ∧ Ix (.goto t) E xs Y
 | .panic _,_,_=>False
 | .outgrown,_,_=>False

theorem only_put (X:World) (l:Nat) (o:Obj):Only (fun k=>k=l) X (X.putObj l o):=
 ⟨rfl,rfl,rfl,by simp [World.putObj],fun k _ hk=>World.putObj_heap_other hk⟩
theorem size_put (X:World) (l:Nat) (o:Obj):(X.putObj l o).heap.size=X.heap.size:=by simp [World.putObj]

theorem wpIn_rangeR {F:Fence} {n:Nat} {P:Program} {α:Type} {g:Operand} {ps:Array Tmp} {assign body:Code} {Q:Exit → Act → World → Prop} {a:Act} {w:World}
 (hro:F.round=none) (h1:1 ≤ n) {gf:Nat} {lb:Array Value} (hg:a.eval g=.func (.func gf) #[] lb) (hFg:F.fn gf) (eg:∀ args w,(callFunc gf args).run P w=.ok (.enter gf args) w)
 {enc:α → Value} {R:α → World → Prop} {n₀:Nat} {S Sp:List α → Prop} {N:Nat} {w0:World} (hseq:SeqR F (n - 1) P gf lb enc R n₀ S Sp N w0)
 (hn₀:n₀ ≤ w.heap.size) (hb0:Below w0.heap.size w0 w) (hps:ps.size=1)
 (hR:∀ (x:α) (X:World) (l:Nat) (r r':Loop),R x X → X.heap[l]? = some (.loop r) → R x (X.putObj l (.loop r')))
 (I:(Nat → Prop) → List α → World → Prop) (Ix:Code → (Nat → Prop) → List α → World → Prop) (hI:Abd I) (hIx:∀ c,Abd (Ix c)) (h0:I (fun _=>False) [] w) (a₁:α → Act)
 (hassign:∀ (l:Nat) (x:α) (X:World) (K:Act → World → Prop),K (a₁ x) X →
   assign.wpIn (F.inRound l) (n - 1 - 1) P (Exit.then K (fun _ _ _=>False)) { tmps:=(ps.zip #[enc x]).foldl (fun t (p,v)=>t.setIfInBounds p v) a.tmps,defers:=[] } X)
 (hbody:∀ (l:Nat) (E:Nat → Prop) (pre:List α) (x:α) (X:World),I E pre X → R x X → pre.length < N → body.wpIn (F.inRound l) (n - 1 - 1) P (postR n₀ E I Ix (pre ++ [x]) X) (a₁ x) X)
 (hdone:∀ (D:Nat) (E:Nat → Prop) (xs:List α) (X:World),w.heap.size ≤ D → S xs → I E xs X → E D → X.heap[D]? = some (.deferred (some [])) → Q .normal { a with defers:={ target:=.collected D,args:=#[] } :: a.defers } X)
 (hstop:∀ (D:Nat) (c:Code) (E:Nat → Prop) (pre:List α) (X:World),w.heap.size ≤ D → Sp pre → Ix c E pre X → E D → X.heap[D]? = some (.deferred (some [])) → c.wpIn F n P Q { a with defers:={ target:=.collected D,args:=#[] } :: a.defers } X) :
 (Code.rangeFunc g ps assign body).wpIn F n P Q a w:=by
 refine wpIn_rangeFunc fun fn hfn=>?_
 rw [hro]
 obtain ⟨D,hD⟩:∃ D,w.heap.size=D:=⟨_,rfl⟩
 obtain ⟨rc,hrc⟩:∃ rc:LoopState → Option Code → Loop,rc=fun s p=>{ state:=s,pending:=p,fn:=fn,tmps:=a.tmps,params:=ps,assign:=assign,body:=body,defers:=D }:=⟨_,rfl⟩
 have hent:=run_enterLoop_outer (P:=P) (w:=w) fn a.tmps ps assign body
 obtain ⟨W,hW⟩:∃ W,(w.alloc (.deferred (some []))).alloc (.loop (rc .ready none))=W:=⟨_,rfl⟩
 have hsz:W.heap.size=D + 2:=by rw [← hW,World.size_alloc,World.size_alloc,hD]
 have recL:W.heap[D + 1]? = some (.loop (rc .ready none)):=by
  have h:=World.alloc_heap_new (w.alloc (.deferred (some []))) (.loop (rc .ready none))
  rw [World.size_alloc,hD,hW] at h
  exact h
 have recD:W.heap[D]? = some (.deferred (some [])):=by
  have h:=World.alloc_heap_new w (.deferred (some []))
  rw [hD] at h
  have h2:=(Below.refl (D + 1) (w.alloc (.deferred (some [])))).alloc (by rw [World.size_alloc,hD];exact Nat.le_refl _) (.loop (rc .ready none))
  rw [hW] at h2
  exact (h2.block D (Nat.lt_succ_self _)).trans h
 have hbw:Below w.heap.size w W:=by rw [← hW];exact balloc (balloc (Below.refl _ _) _) _
 -- the law's own two blocks,beside those of the iterator's
 let own (E:Nat → Prop):Nat → Prop:=fun i=>E i ∨ i=D ∨ i=D + 1
 let Rec (E:Nat → Prop) (s:LoopState) (p:Option Code) (X:World):Prop:=X.heap[D + 1]? = some (.loop (rc s p)) ∧ X.heap[D]? = some (.deferred (some [])) ∧ ¬ E D ∧ ¬ E (D + 1)
 have stepRec:∀ {E E':Nat → Prop} {s:LoopState} {p:Option Code} {X Y:World},Rec E s p X → Only E X Y → Fresh E E' X Y → Rec E' s p Y ∧ Fresh (own E) (own E') X Y:=by
  rintro E E' s p X Y ⟨r1,r2,r3,r4⟩ ho hf
  have l1:=(Array.getElem?_eq_some_iff.1 r1).1
  have hs:=ho.size
  refine ⟨⟨(ho.block _ l1 r4).trans r1,(ho.block _ (by omega) r3).trans r2,fun h=>?_,fun h=>?_⟩,fun i hi=>?_⟩
  ·rcases (hf _ h).1 with h | h
   ·exact r3 h
   ·omega
  ·rcases (hf _ h).1 with h | h
   ·exact r4 h
   ·omega
  ·rcases hi with hi | rfl | rfl
   ·exact ⟨(hf i hi).1.imp .inl id,(hf i hi).2⟩
   ·exact ⟨.inl (.inr (.inl rfl)),by omega⟩
   ·exact ⟨.inl (.inr (.inr rfl)),by omega⟩
 have toOwn:∀ {E:Nat → Prop} {X Y:World},Only E X Y → Only (own E) X Y:=fun h=>h.mono fun _ _=>.inl
 have putOwn:∀ (E:Nat → Prop) (X:World) (o:Obj),Only (own E) X (X.putObj (D + 1) o):=fun E X o=>(only_put X (D + 1) o).mono fun _ _ h=>.inr (.inr h)
 have frPut:∀ {E:Nat → Prop} {s:LoopState} {p:Option Code} {X:World} (o:Obj),Rec E s p X → (∀ i,E i → i < X.heap.size) → Fresh (own E) (own E) X (X.putObj (D + 1) o):=by
  rintro E s p X o ⟨r1,_,_,_⟩ hE i hi
  have l1:=(Array.getElem?_eq_some_iff.1 r1).1
  refine ⟨.inl hi,?_⟩
  rw [size_put]
  rcases hi with hi | rfl | rfl
  ·exact hE i hi
  ·omega
  ·omega
 refine ⟨D + 1,[{ target:=.collected D,args:=#[] }],W,{ target:=.fn (.func gf) lb,args:=#[.func (.yield (D + 1)) #[] #[]] },W,gf,#[.func (.yield (D + 1)) #[] #[]] ++ lb,W,?_,?_,?_,?_,fun _=>h1,?_⟩
 ·rw [hent,hD,hrc] at *
  rw [← hW]
 ·simp only [resolve,hg]
  simp [go_sem]
 ·intro f' hf'
  simp [Target.leads] at hf'
  subst hf'
  exact hFg
 ·simp [invoke,go_sem,eg]
 refine (hseq (D + 1) (fun E pre X=>I (own E) pre X ∧ Rec E .ready none X ∧ ∀ i,E i → i < X.heap.size)
  (fun E pre X=>∃ c,Ix c (own E) pre X ∧ Rec E .done (some c) X ∧ ∀ i,E i → i < X.heap.size) W (hb0.trans (hbw.mono hb0.size)) ?_ ?_ ?_ ?_).mono ?_
 ·rintro E E' pre X Y ⟨hi,hr,hE⟩ ho hf
  obtain ⟨k1,k2⟩:=stepRec hr ho hf
  exact ⟨hI _ _ _ _ _ hi (toOwn ho) k2,k1,fun i hi=>(hf i hi).2⟩
 ·rintro E E' pre X Y ⟨c,hi,hr,hE⟩ ho hf
  obtain ⟨k1,k2⟩:=stepRec hr ho hf
  exact ⟨c,hIx c _ _ _ _ _ hi (toOwn ho) k2,k1,fun i hi=>(hf i hi).2⟩
 ·rintro E pre x X ⟨hi,hr,hE⟩ hrx hlen
  have hy:=run_yield (P:=P) (args:=#[enc x]) hr.1 (by rw [hrc];exact hps.symm)
  rw [hrc] at hy
  have l1:=(Array.getElem?_eq_some_iff.1 hr.1).1
  have hbeg:=run_beginRound (P:=P) hr.1 (by rw [hrc])
  obtain ⟨X1,hX1⟩:∃ X1,X.putObj (D + 1) (.loop { rc .ready none with state:=.busy })=X1:=⟨_,rfl⟩
  have b1:X1.heap[D + 1]? = some (.loop { rc .ready none with state:=.busy }):=by rw [← hX1];exact World.putObj_heap_same l1
  have b2:X1.heap[D]? = some (.deferred (some [])):=by rw [← hX1];exact (World.putObj_heap_other (by omega)).trans hr.2.1
  have bo:Only (fun k=>k=D + 1) X X1:=by rw [← hX1];exact only_put _ _ _
  have bs:X1.heap.size=X.heap.size:=by rw [← hX1];exact size_put _ _ _
  have bi:I (own E) pre X1:=by rw [← hX1];exact hI _ _ _ _ _ hi (putOwn E X _) (frPut _ hr hE)
  have br:R x X1:=by rw [← hX1];exact hR x X (D + 1) _ _ hrx hr.1
  rw [hX1] at hbeg
  -- a round's end
  have fin:∀ (j:Option Code) (Y:World),KeepE n₀ (own E) X1 Y → ∃ Z,(Instr.endRound (D + 1) j).run P Y=.ok (.bool j.isNone) Z ∧ Only (own E) Y Z ∧ Fresh (own E) (own E) Y Z ∧ Rec E (if j.isNone then .ready else .done) j Z ∧ (∀ i,E i → i < Z.heap.size) ∧ KeepE n₀ E X Z:=by
   intro j Y hk
   have y1:Y.heap[D + 1]? = some (.loop { rc .ready none with state:=.busy }):=(hk.block _ (by omega) (fun h=>h.2 (.inr (.inr rfl)))).trans b1
   have y2:Y.heap[D]? = some (.deferred (some [])):=(hk.block _ (by omega) (fun h=>h.2 (.inr (.inl rfl)))).trans b2
   have y3:=hk.size
   have hend:=run_endRound (P:=P) j y1
   refine ⟨_,hend,putOwn E Y _,fun i hi=>⟨.inl hi,?_⟩,⟨?_,(World.putObj_heap_other (by omega)).trans y2,hr.2.2.1,hr.2.2.2⟩,fun i hi=>?_,?_⟩
   ·rw [size_put]
    rcases hi with hi | rfl | rfl
    ·have:=hE i hi;omega
    ·omega
    ·omega
   ·rw [World.putObj_heap_same (by omega),hrc]
   ·rw [size_put]
    have:=hE i hi
    omega
   ·refine Only.trans (Only.trans (bo.mono fun k _ h=>?_) (Only.mono hk fun k _ h=>⟨h.1,fun h2=>h.2 (.inl h2)⟩)) ((only_put Y (D + 1) _).mono fun k _ h=>?_)
    ·subst h;exact ⟨by omega,hr.2.2.2⟩
    ·subst h;exact ⟨by omega,hr.2.2.2⟩
  refine ⟨fn,_,assign,body,hy,roundIn_of_wpIn hfn (hassign _ x X _ ⟨_,hbeg,?_⟩)⟩
  refine wpIn_mono (hbody _ (own E) pre x X1 bi br hlen) ?_
  rintro e a3 Y hp
  cases e with
  | normal=>
    obtain ⟨Z,e1,e2,e3,e4,e5,e6⟩:=fin none Y hp.1
    exact ⟨_,_,e1,.inl ⟨rfl,⟨hI _ _ _ _ _ hp.2 e2 e3,e4,e5⟩,e6⟩⟩
  | ret=>
    obtain ⟨Z,e1,e2,e3,e4,e5,e6⟩:=fin (some .ret) Y hp.1
    exact ⟨_,_,e1,.inr ⟨rfl,.ret,hIx _ _ _ _ _ _ hp.2 e2 e3,e4,e5⟩⟩
  | exit id=>
    obtain ⟨Z,e1,e2,e3,e4,e5,e6⟩:=fin (some (.exit id)) Y hp.1
    exact ⟨_,_,e1,.inr ⟨rfl,.exit id,hIx _ _ _ _ _ _ hp.2 e2 e3,e4,e5⟩⟩
  | goto t=>
    obtain ⟨Z,e1,e2,e3,e4,e5,e6⟩:=fin (some (.goto t)) Y hp.1
    exact ⟨_,_,e1,.inr ⟨rfl,.goto t,hIx _ _ _ _ _ _ hp.2 e2 e3,e4,e5⟩⟩
  | panic ch=>exact hp.elim
  | outgrown=>exact hp.elim
 ·refine ⟨hI _ _ _ _ _ h0 (only_below hbw) fun i hi=>?_,⟨recL,recD,fun h=>h,fun h=>h⟩,fun _ h=>h.elim⟩
  rcases hi with hi | rfl | rfl
  ·exact hi.elim
  ·exact ⟨.inr (by omega),by omega⟩
  ·exact ⟨.inr (by omega),by omega⟩
 ·rintro e Y ⟨⟨v,rfl⟩,(⟨xs,E,hS,hi,hr,hE⟩ | ⟨pre,E,hSp,c,hi,hr,hE⟩)⟩
  ·have hend:=run_endLoop (P:=P) hr.1 (by rw [hrc];simp)
   have ep:(rc .ready none).pending=none:=by rw [hrc]
   rw [ep] at hend
   refine ⟨none,_,hend,?_⟩
   refine hdone D (own E) xs _ (by omega) hS (hI _ _ _ _ _ hi (putOwn E Y _) (frPut _ hr hE)) (.inr (.inl rfl)) ((World.putObj_heap_other (by omega)).trans hr.2.1)
  ·have hend:=run_endLoop (P:=P) hr.1 (by rw [hrc];simp)
   have ep:(rc .done (some c)).pending=some c:=by rw [hrc]
   rw [ep] at hend
   refine ⟨some c,_,hend,?_⟩
   refine hstop D c (own E) pre _ (by omega) hSp (hIx c _ _ _ _ _ hi (putOwn E Y _) (frPut _ hr hE)) (.inr (.inl rfl)) ((World.putObj_heap_other (by omega)).trans hr.2.1)
end Go.Proofs.YtcbfbgngkdiijaaGreat

namespace Go.Proofs.YtcbfbgngkdiijaaGreat
open Go.RowKit Go.Qo
set_option linter.unusedVariables false
set_option linter.unusedSimpArgs false
attribute [local go_sem] Oper.semAt_some

abbrev Rw (W:Int):={p:SRw // RowOk W p.2}
theorem SRs.put {W:Int} {X:World} {p:SRw} {l:Nat} {r:Loop} (h:SRs W X p) (hl:X.heap[l]? = some (.loop r)) (r':Loop):SRs W (X.putObj l (.loop r')) p:=
 ⟨h.1,h.2.1,h.2.2.1,h.2.2.2.1,by
   have hk:∀ b o,(X.putObj l (.loop r')).cell? ⟨b,o,none⟩=X.cell? ⟨b,o,none⟩:=fun b o=>by
    by_cases e:b=l
    ·subst e
     have h2:=World.putObj_heap_same (o:=.loop r') (Array.getElem?_eq_some_iff.1 hl).1
     simp only [World.cell?,h2,hl]
    ·have h2:=World.putObj_heap_other (w:=X) (o:=.loop r') e
     simp only [World.cell?,h2]
   have hs:=h.2.2.2.2.keep (w':=X.putObj l (.loop r')) fun b o _=>hk b o
   rwa [size_put]⟩
def ColJ (W:Int) (w:World) (E:Nat → Prop) (pre:List (Rw W)) (z:World):Prop:=
 pre.length ≤ 400 ∧ Row z w.heap.size 3 [.int .i64 W] ∧ Row z (w.heap.size + 1) 32 [.int .i64 0,.slice none 0 0] ∧
 (∃ (v:Value) (cp:List SRw),Row z (w.heap.size + 2) 30 [v] ∧ Ow (w.heap.size + 3) 100 1 svC z v (cp.map (·.1)) ∧ Cps w.heap.size z cp ∧ cp.map (·.2)=pre.map (·.1.2) ∧
   (∀ b,v.ownBlock=some b → ¬ E b) ∧ (∀ p ∈ cp,∀ b,svB p.1=some b → ¬ E b)) ∧ Below w.heap.size w z ∧ ∀ i,E i → w.heap.size + 3 ≤ i ∧ i < z.heap.size
def ColY (W:Int) (w:World) (c:Code) (E:Nat → Prop) (pre:List (Rw W)) (z:World):Prop:=
 c=.ret ∧ 400 < pre.length ∧ Row z (w.heap.size + 1) 32 [.int .i64 W,.slice none 0 0] ∧ Below w.heap.size w z ∧ w.heap.size + 3 ≤ z.heap.size ∧ ∀ i,E i → w.heap.size + 3 ≤ i ∧ i < z.heap.size
theorem freshE {E E':Nat → Prop} {X Y:World} {m:Nat} (h:∀ i,E i → m ≤ i ∧ i < X.heap.size) (hm:m ≤ X.heap.size) (hf:Fresh E E' X Y):∀ i,E' i → m ≤ i ∧ i < Y.heap.size:=fun i hi=>by
 obtain ⟨h1,h2⟩:=hf i hi
 refine ⟨?_,h2⟩
 rcases h1 with h1 | h1
 ·exact (h i h1).1
 ·omega
theorem freshN {E E':Nat → Prop} {X Y:World} (hf:Fresh E E' X Y) {b:Nat} (hb:b < X.heap.size) (h:¬ E b):¬ E' b:=fun h'=>by
 rcases (hf b h').1 with h1 | h1
 ·exact h h1
 ·omega
theorem belowE {E:Nat → Prop} {w X Y:World} (h:Below w.heap.size w X) (ho:Only E X Y) (hE:∀ i,E i → w.heap.size ≤ i):Below w.heap.size w Y:=Only.from_ h rfl ho hE
theorem OwP.own {lo:Nat} {z z':World} {p:SRw} {S:Nat → Prop} (h:OwP lo z p) (k:Only S z z') (hS:∀ b,svB p.1=some b → ¬ S b):OwP lo z' p:=⟨h.1,h.2.apart2 k hS⟩
theorem Cps.own {lo:Nat} {z z':World} {cp:List SRw} {S:Nat → Prop} (h:Cps lo z cp) (k:Only S z z') (hS:∀ p ∈ cp,∀ b,svB p.1=some b → ¬ S b):Cps lo z' cp:=⟨fun p hp=>(h.1 p hp).own k (hS p hp),h.2⟩
theorem colJ_abd {W:Int} {w:World}:Abd (ColJ W w):=by
 rintro E E' pre X Y ⟨h0,h1,h2,⟨v,cp,h3,h4,h5,h7,d1,d2⟩,h6,hE⟩ ho hf
 have hn:∀ k,k < w.heap.size + 3 → ¬ E k:=fun k hk h=>by have:=(hE k h).1;omega
 have hX:w.heap.size + 3 ≤ X.heap.size:=h3.lt
 exact ⟨h0,h1.only ho (hn _ (by omega)),h2.only ho (hn _ (by omega)),⟨v,cp,h3.only ho (hn _ (by omega)),h4.apart2 ho d1,h5.own ho d2,h7,
  fun b hb=>freshN hf (h4.ty b hb).2.1 (d1 b hb),fun p hp b hb=>freshN hf ((h5.1 p hp).2.ty b hb).2.1 (d2 p hp b hb)⟩,belowE h6 ho fun i hi=>by have:=(hE i hi).1;omega,freshE hE hX hf⟩
theorem colY_abd {W:Int} {w:World} (c:Code):Abd (ColY W w c):=by
 rintro E E' pre X Y ⟨h0,h1,h2,h6,hX,hE⟩ ho hf
 have hn:∀ k,k < w.heap.size + 3 → ¬ E k:=fun k hk h=>by have:=(hE k h).1;omega
 refine ⟨h0,h1,h2.only ho (hn _ (by omega)),belowE h6 ho fun i hi=>by have:=(hE i hi).1;omega,Nat.le_trans hX ho.size,fun i hi=>?_⟩
 obtain ⟨k1,k2⟩:=hf i hi
 refine ⟨?_,k2⟩
 rcases k1 with k1 | k1
 ·exact (hE i k1).1
 ·omega
theorem colDis {E:Nat → Prop} {v v3:Value} {m z z2:Nat} (h1:∀ b,v.ownBlock=some b → ¬ E b) (hE:∀ i,E i → m ≤ i ∧ i < z) (hz:z ≤ z2) (hw:v3.ownBlock=v.ownBlock ∨ v3.ownBlock=some z2):∀ b,v3.ownBlock=some b → ¬ E b:=by
 intro b hb
 rcases hw with e | e
 ·exact h1 b (e ▸ hb)
 ·rw [e] at hb
  cases hb
  intro h
  have:=(hE _ h).2
  omega
theorem colDis2 {E:Nat → Prop} {cp:List SRw} {p:SRw} {m z:Nat} (h2:∀ p ∈ cp,∀ b,svB p.1=some b → ¬ E b) (hE:∀ i,E i → m ≤ i ∧ i < z) (hp:∀ b,svB p.1=some b → z ≤ b):∀ q ∈ cp ++ [p],∀ b,svB q.1=some b → ¬ E b:=by
 intro q hq b hb h
 rcases List.mem_append.1 hq with h1 | h1
 ·exact h2 q h1 b hb h
 ·simp only [List.mem_singleton] at h1
  subst h1
  have:=hp b hb
  have:=(hE _ h).2
  omega

set_option maxRecDepth 100000 in
set_option maxHeartbeats 4000000 in
theorem collectR_ok (W:Int) (N gf:Nat) (lb:Array Value) (rows:List Row1) (w:World) (eg:∀ args w,(callFunc gf args).run Tryz.prog w=.ok (.enter gf args) w)
 (hseq:SeqR Fence.wide 5 Tryz.prog gf lb (fun x:Rw W=>encSR x.1) (fun x z=>SRs W z x.1) w.heap.size (fun ys=>ys.map (·.1.2)=rows) (fun pre=>pre.map (·.1.2) <+: rows) N w) :
 Calls Tryz.prog 90 #[.int .i64 W,.func (.func gf) #[] lb] w (ColRes W rows w):=by
 have HQ:=Lib.hid hseq
 clear hseq
 refine (callsIn_wide (n:=6)).1 ?_
 refine callsIn_of_wp_marks Tryz.func90 rfl trivial ?_ rfl
 simp only [Tryz.ntmps90,List.size_toArray,List.length_cons,List.length_nil,Nat.reduceAdd,Nat.reduceSub,Array.replicate_succ,Array.replicate_zero,List.push_toArray,List.append_toArray,List.nil_append,List.cons_append]
 obtain ⟨W0,hW0⟩:∃ z,((w.alloc (.cells #[.int .i64 W] 3)).alloc (.cells #[.int .i64 0,.slice none 0 0] 32)).alloc (.cells #[.slice none 0 0] 30)=z:=⟨_,rfl⟩
 have hB0:Below w.heap.size w W0:=by rw [← hW0];exact balloc (balloc (balloc (Below.refl _ _) _) _) _
 have hz0:W0.heap.size=w.heap.size + 3:=by rw [← hW0];simp
 have hI0:ColJ W w (fun _=>False) [] W0:=by
  refine ⟨by simp,?_,?_,⟨.slice none 0 0,[],?_,Ow.nil,Cps.nil,rfl,(fun _ h=>by cases h),(fun _ h=>by cases h)⟩,hB0,fun _ h=>h.elim⟩
  ·rw [← hW0];exact ((Row.new w _ _).alloc _).alloc _
  ·rw [← hW0];exact (Row.second w _ _ _).alloc _
  ·rw [← hW0];exact Row.third w _ _ _ _
 have HW0:=Lib.hid hW0
 have HB0:=Lib.hid hB0
 have HI0:=Lib.hid hI0
 have HZ0:=Lib.hid hz0
 clear hW0 hB0 hI0 hz0
 gi_wp2
 rw [HW0.out]
 refine wpIn_rangeR rfl (by omega) (gf:=gf) (lb:=lb) rfl trivial eg
  HQ.out (by have:=HZ0.out;omega) HB0.out rfl (fun x X l r o h hl=>SRs.put h hl o)
  (ColJ W w) (ColY W w) colJ_abd colY_abd HI0.out
  (fun x=>{ tmps:=#[.int .i64 W,.func (.func gf) #[] lb,.pointer (some ⟨w.heap.size,0,none⟩),undef,.pointer (some ⟨w.heap.size + 1,0,none⟩),.pointer (some ⟨w.heap.size + 2,0,none⟩),encSR x.1,.func (.func gf) #[] lb,encSR x.1,undef,undef,undef,undef,undef,undef,undef,undef,undef,undef,undef,undef,undef,undef,undef],defers:=[] }) ?assign ?body ?done ?stop
 case assign=>
  intro l x z K hK
  gi_wp2
  exact hK
 case body=>
  rintro l E pre x z ⟨h0,h1,h2,⟨v,cp,h3,h4,h5,h7,hd1,hd2⟩,h6,hE⟩ hrx hlt
  obtain ⟨svs,hsvs⟩:∃ svs,cp.map (·.1)=svs:=⟨_,rfl⟩
  rw [hsvs] at h4
  have hcl:svs.length=cp.length:=by rw [← hsvs,List.length_map]
  have hcp:cp.length=pre.length:=by have:=congrArg List.length h7;simpa using this
  have HSV:=Lib.hid (And.intro hsvs h7)
  clear hsvs h7
  obtain ⟨A,c,rfl,hc1,hc2,hs⟩:=h4.shape svC_length
  have hsl:svs.length=pre.length:=by omega
  clear hcl hcp
  have q0:z.cell? ⟨w.heap.size,0,none⟩=some (.int .i64 W):=h1.cell 0
  have q1:z.cell? ⟨w.heap.size + 1,0,none⟩=some (.int .i64 0):=h2.cell 0
  have q2:z.cell? ⟨w.heap.size + 1,1,none⟩=some (.slice none 0 0):=h2.cell 1
  have q3:=h2.frozen 0
  have q4:=h2.frozen 1
  have q5:z.cell? ⟨w.heap.size + 2,0,none⟩=some (.slice A svs.length c):=h3.cell 0
  have q6:=h3.frozen 0
  have q7:=h2.lt
  have q8:=h3.lt
  have HI:=Lib.hid (And.intro h0 (And.intro h1 (And.intro h2 (And.intro h3 (And.intro h4 (And.intro h5 h6))))))
  have HN:=Lib.hid (And.intro hlt (And.intro hc1 (And.intro hc2 hsl)))
  have HD:=Lib.hid (And.intro hd1 (And.intro hd2 hE))
  have HRX:=Lib.hid hrx
  have hle:svs.length ≤ 400:=by omega
  clear h0 h1 h2 h3 h4 h5 h6 hlt hc1 hc2 hs hsl hd1 hd2 hE hrx
  by_cases h400:svs.length=400
  ·have h401:((svs.length:Int) == 400)=true:=by simp [h400]
   have H4:=Lib.hid h400
   clear h400
   gi_wp2
   have hb:=HI.out.2.2.2.2.2.2
   refine ⟨((Only.refl z).set (p:=⟨w.heap.size + 1,0,none⟩) (.inl ⟨by simp,fun h=>by have h2:w.heap.size + 3 ≤ w.heap.size + 1:=(HD.out.2.2 _ h).1;omega⟩) _).set (p:=⟨w.heap.size + 1,1,none⟩) (.inl ⟨by simp,fun h=>by have h2:w.heap.size + 3 ≤ w.heap.size + 1:=(HD.out.2.2 _ h).1;omega⟩) _,rfl,?_,?_,(hb.setCell (p:=⟨w.heap.size + 1,0,none⟩) (by simp) _).setCell (p:=⟨w.heap.size + 1,1,none⟩) (by simp) _,by have:=HI.out.2.2.2.1.lt;simp [World.setCell];omega,fun i hi=>⟨(HD.out.2.2 i hi).1,by have:=(HD.out.2.2 i hi).2;simpa [World.setCell] using this⟩⟩
   ·have:=H4.out;have:=HN.out.2.2.2;simp;omega
   ·exact ((HI.out.2.2.1.set 0 _).set 1 _).of rfl
  ·have h401:((svs.length:Int) == 400)=false:=by simp;omega
   have H4:=Lib.hid h400
   clear h400
   have hxe:encSR x.1=.slice x.1.1.A x.1.2.length x.1.1.c:=by unfold encSR;rw [HRX.out.2.1]
   rw [hxe]
   have HX:=Lib.hid hxe
   clear hxe
   have hrow:Sl 2 valC z z.heap.size x.1.1.A x.1.2:=HRX.out.2.2.2.2
   have hl6:=rowValid_len x.2.1
   have HC:=Lib.hid (copiedRow_ok x.1.1.A x.1.1.c x.1.2 z.drew (by omega) (hrow.on (Below.refl _ _).drew))
   gi_wp2
   refine wpRound_region_any (by kernel_rfl) (by kernel_rfl) (fun ⟨_,_,h⟩=>h) ?_
   have q9:z.drew.cell? ⟨w.heap.size + 2,0,none⟩=some (.slice A svs.length c):=q5
   refine wpAny_take (i:=1) (v:=.slice x.1.1.A x.1.2.length x.1.1.c) rfl (by kernel_rfl) (by kernel_rfl) (by kernel_rfl) (fun _ _ _ h=>h) (Or.inl ⟨by rfl,fun y=>by go_simp⟩) ?_
   refine wpAny_ready (rs:=[0,2]) (by kernel_rfl) (by simp) ?_
   refine AllReady.cons rfl (fun K hK=>?_) (AllReady.cons rfl (fun K hK=>?_) AllReady.nil)
   ·go_simp
    refine hK _ _ ?_
    clear hK K
    refine wpAny_ready (rs:=[2]) (by kernel_rfl) (by simp) ?_
    refine AllReady.cons rfl (fun K hK=>?_) AllReady.nil
    go_simp
    go_at_call 118
    refine HC.out.mono ?_
    rintro e z1 ⟨v1,rfl,how1,hb1'⟩
    obtain ⟨A1,c1,rfl,hc11,hc12,hs1⟩:=how1.shape valC_length
    have hb1:Below z.heap.size z z1:=(Below.refl _ z).drew.trans hb1'
    have hS1:z1.cell? ⟨w.heap.size + 2,0,none⟩=some (.slice A svs.length c):=(hb1.cell (p:=⟨_,_,none⟩) q8).trans q5
    have hl1:w.heap.size + 2 < z1.heap.size:=Nat.lt_of_lt_of_le q8 hb1.size
    have hf1:z1.frozen? ⟨w.heap.size + 2,0,none⟩=false:=(hb1.frozen (p:=⟨_,_,none⟩) q8).trans q6
    have HR1:=Lib.hid (And.intro hb1 (And.intro how1 (And.intro hc11 hc12)))
    clear hb1 hb1' hs1 hc11 hc12 how1
    refine hK _ _ ?_
    clear hK K
    refine wpAny_ready (rs:=[3]) (by kernel_rfl) (by simp) ?_
    refine AllReady.cons rfl (fun K hK=>?_) AllReady.nil
    go_simp
    obtain ⟨z2,hz2⟩:∃ z2,z1.alloc (.cells #[.slice A1 x.1.2.length c1] 100)=z2:=⟨_,rfl⟩
    have hb2:Below z1.heap.size z1 z2:=hz2 ▸ balloc (Below.refl _ _) _
    have hn2:Row z2 z1.heap.size 100 [.slice A1 x.1.2.length c1]:=hz2 ▸ Row.new _ _ _
    have hS2:z2.cell? ⟨w.heap.size + 2,0,none⟩=some (.slice A svs.length c):=(hb2.cell (p:=⟨_,_,none⟩) hl1).trans hS1
    refine hK _ _ ?_
    clear hK K
    rw [hz2]
    have hf2:z2.frozen? ⟨w.heap.size + 2,0,none⟩=false:=(hb2.frozen (p:=⟨_,_,none⟩) hl1).trans hf1
    have hl2:w.heap.size + 2 < z2.heap.size:=Nat.lt_of_lt_of_le hl1 hb2.size
    have H2:=Lib.hid (And.intro hz2 (And.intro hb2 hn2))
    clear hz2 hb2 hn2
    obtain ⟨hz2,hb2,hn2⟩:=H2.out
    have hbz:Below z.heap.size z z2:=bch HR1.out.1 hb2
    have HO2:=HI.out.2.2.2.2.1.on hbz
    have HS2:=Row.sl' (xs:=[(⟨A1,x.1.2.length,c1⟩:SV)]) svC_length (hn2.of rfl)
    refine wpAny_ready (rs:=[4]) (by kernel_rfl) (by simp) ?_
    refine AllReady.cons rfl (fun K hK=>?_) AllReady.nil
    refine step_app2 rfl (.tmp 14) (.tmp 17) 30 rfl (w.heap.size + 3) 100 _ 1 24 svC Tryz.underlying30 zeroRow rfl (by decide) (by decide) svC_length svC_one _ svs rfl HO2 (some ⟨z1.heap.size,0,none⟩) 1 1 [(⟨A1,x.1.2.length,c1⟩:SV)] rfl rfl HS2 (by simp <;> omega) (by omega) ?_
    intro v3 z3 how3 hgr3 hwh
    obtain ⟨A3,c3,rfl,hc31,hc32,hs3⟩:=how3.shape svC_length
    have HWH:=Lib.hid (show (Value.slice A3 (svs.length + 1) c3).ownBlock=(Value.slice A svs.length c).ownBlock ∨ (Value.slice A3 (svs.length + 1) c3).ownBlock=some z2.heap.size from by rw [List.length_append] at hwh;exact hwh)
    clear hwh
    have hrow:∀ q,Value.ownBlock _=some q → w.heap.size + 3 ≤ q ∧ q < z2.heap.size ∧ TyAt _ q 100:=fun q hq=>HO2.ty q hq
    have hkeep:∀ {k:Nat} {t:TypeId} {cs:List Value},Row z2 k t cs → t ≠ 100 → Row z3 k t cs:=fun h hne=>h.keep (hgr3.block _ h.lt fun e=>(TyAt.ne h.ty (hrow _ e.symm).2.2 hne) rfl)
    have r5:=hkeep (HI.out.2.2.2.1.on hbz) (by decide)
    have r2:=hkeep (HI.out.2.1.on hbz) (by decide)
    have r4:=hkeep (HI.out.2.2.1.on hbz) (by decide)
    have p5:z3.cell? ⟨w.heap.size + 2,0,none⟩=some (.slice A svs.length c):=r5.cell 0
    have p6:=r5.frozen 0
    have p7:=r5.lt
    refine hK _ _ ?_
    clear hK K
    have hx3:Cps w.heap.size z3 (cp ++ [(⟨A1,x.1.2.length,c1⟩,x.1.2)]):=HI.out.2.2.2.2.2.1.snoc ((HI.out.2.2.2.2.2.1.on hbz).grown hgr3 fun q hq=>⟨_,by decide,(hrow q hq).2.2⟩) HI.out.2.2.2.2.2.2.size ⟨rfl,(HR1.out.2.1.on hb2).keep fun b _ hl ht=>hgr3.block b hl fun e=>(TyAt.ne ht (hrow _ e.symm).2.2 (by decide)) rfl⟩
    have HF:=Lib.hid (And.intro r2 (And.intro r4 (And.intro r5 (And.intro how3 (And.intro hgr3 (And.intro hbz (And.intro hx3 hrow)))))))
    clear how3 hgr3 hbz hx3 hrow r2 r4 r5 hkeep HO2 HS2 hz2 hb2 hn2
    refine wpAny_ready (rs:=[5]) (by kernel_rfl) (by simp) ?_
    refine AllReady.cons rfl (fun K hK=>?_) AllReady.nil
    go_simp
    refine hK _ _ ?_
    clear hK K
    refine wpAny_done (by kernel_rfl) ?_ _
    obtain ⟨r2,r4,r5,how3,hgr3,hbz,hx3,hrow⟩:=HF.out
    have hl3:z.heap.size ≤ z2.heap.size:=hbz.size
    have hS0:=Only.set (S:=fun i=>i=w.heap.size + 2) (p:=⟨w.heap.size + 2,0,none⟩) (Only.refl z3) (.inl rfl) (.slice A3 (svs.length + 1) c3)
    have how4:Ow (w.heap.size + 3) 100 1 svC z3 (.slice A3 (svs.length + 1) c3) (svs ++ [⟨A1,x.1.2.length,c1⟩]):=by rw [List.length_append] at how3;exact how3
    have hke:KeepE w.heap.size E z (z3.setCell ⟨w.heap.size + 2,0,none⟩ (.slice A3 (svs.length + 1) c3)):=((only_below hbz).grown hgr3 fun k hk=>.inl ⟨by have:=(hrow k hk).1;omega,HD.out.1 k hk⟩).set (p:=⟨w.heap.size + 2,0,none⟩) (.inl ⟨by simp,fun h=>by have h2:w.heap.size + 3 ≤ w.heap.size + 2:=(HD.out.2.2 _ h).1;omega⟩) _
    have hbw:Below w.heap.size w z:=HI.out.2.2.2.2.2.2
    have hb3:Below w.heap.size z z3:=(hbz.mono hbw.size).grown hgr3 (by have:=hbw.size;omega) fun k hk=>by have:=(hrow k hk).1;omega
    have hb4:Below w.heap.size z (z3.setCell ⟨w.heap.size + 2,0,none⟩ (.slice A3 (svs.length + 1) c3)):=hb3.setCell (p:=⟨w.heap.size + 2,0,none⟩) (by simp) _
    refine ⟨hke,?_,r2.far (p:=⟨w.heap.size + 2,0,none⟩) (by simp) _,r4.far (p:=⟨w.heap.size + 2,0,none⟩) (by simp) _,⟨_,_,(r5.set 0 _).of rfl,(by rw [List.map_append,HSV.out.1];exact how4.only hS0 fun b hb=>.inr ⟨30,by decide,by subst hb;exact r5.ty⟩),hx3.only hS0 fun b hb=>.inr ⟨30,by decide,by subst hb;exact r5.ty⟩,by rw [List.map_append,List.map_append,HSV.out.2];rfl,colDis HD.out.1 HD.out.2.2 hl3 HWH.out,colDis2 HD.out.2.1 HD.out.2.2 fun b hb=>(HR1.out.2.1.ty b hb).1⟩,hbw.trans hb4,fun i hi=>⟨(HD.out.2.2 i hi).1,Nat.lt_of_lt_of_le (HD.out.2.2 i hi).2 hb4.size⟩⟩
    have:=HN.out.2.2.2;have:=H4.out;simp;omega
   ·go_simp
    go_at_call 118
    refine HC.out.mono ?_
    rintro e z1 ⟨v1,rfl,how1,hb1'⟩
    obtain ⟨A1,c1,rfl,hc11,hc12,hs1⟩:=how1.shape valC_length
    have hb1:Below z.heap.size z z1:=(Below.refl _ z).drew.trans hb1'
    have hS1:z1.cell? ⟨w.heap.size + 2,0,none⟩=some (.slice A svs.length c):=(hb1.cell (p:=⟨_,_,none⟩) q8).trans q5
    have hl1:w.heap.size + 2 < z1.heap.size:=Nat.lt_of_lt_of_le q8 hb1.size
    have hf1:z1.frozen? ⟨w.heap.size + 2,0,none⟩=false:=(hb1.frozen (p:=⟨_,_,none⟩) q8).trans q6
    have HR1:=Lib.hid (And.intro hb1 (And.intro how1 (And.intro hc11 hc12)))
    clear hb1 hb1' hs1 hc11 hc12 how1
    refine hK _ _ ?_
    clear hK K
    refine wpAny_ready (rs:=[0,3]) (by kernel_rfl) (by simp) ?_
    refine AllReady.cons rfl (fun K hK=>?_) (AllReady.cons rfl (fun K hK=>?_) AllReady.nil)
    ·go_simp
     refine hK _ _ ?_
     clear hK K
     refine wpAny_ready (rs:=[3]) (by kernel_rfl) (by simp) ?_
     refine AllReady.cons rfl (fun K hK=>?_) AllReady.nil
     go_simp
     obtain ⟨z2,hz2⟩:∃ z2,z1.alloc (.cells #[.slice A1 x.1.2.length c1] 100)=z2:=⟨_,rfl⟩
     have hb2:Below z1.heap.size z1 z2:=hz2 ▸ balloc (Below.refl _ _) _
     have hn2:Row z2 z1.heap.size 100 [.slice A1 x.1.2.length c1]:=hz2 ▸ Row.new _ _ _
     have hS2:z2.cell? ⟨w.heap.size + 2,0,none⟩=some (.slice A svs.length c):=(hb2.cell (p:=⟨_,_,none⟩) hl1).trans hS1
     refine hK _ _ ?_
     clear hK K
     rw [hz2]
     have hf2:z2.frozen? ⟨w.heap.size + 2,0,none⟩=false:=(hb2.frozen (p:=⟨_,_,none⟩) hl1).trans hf1
     have hl2:w.heap.size + 2 < z2.heap.size:=Nat.lt_of_lt_of_le hl1 hb2.size
     have H2:=Lib.hid (And.intro hz2 (And.intro hb2 hn2))
     clear hz2 hb2 hn2
     obtain ⟨hz2,hb2,hn2⟩:=H2.out
     have hbz:Below z.heap.size z z2:=bch HR1.out.1 hb2
     have HO2:=HI.out.2.2.2.2.1.on hbz
     have HS2:=Row.sl' (xs:=[(⟨A1,x.1.2.length,c1⟩:SV)]) svC_length (hn2.of rfl)
     refine wpAny_ready (rs:=[4]) (by kernel_rfl) (by simp) ?_
     refine AllReady.cons rfl (fun K hK=>?_) AllReady.nil
     refine step_app2 rfl (.tmp 14) (.tmp 17) 30 rfl (w.heap.size + 3) 100 _ 1 24 svC Tryz.underlying30 zeroRow rfl (by decide) (by decide) svC_length svC_one _ svs rfl HO2 (some ⟨z1.heap.size,0,none⟩) 1 1 [(⟨A1,x.1.2.length,c1⟩:SV)] rfl rfl HS2 (by simp <;> omega) (by omega) ?_
     intro v3 z3 how3 hgr3 hwh
     obtain ⟨A3,c3,rfl,hc31,hc32,hs3⟩:=how3.shape svC_length
     have HWH:=Lib.hid (show (Value.slice A3 (svs.length + 1) c3).ownBlock=(Value.slice A svs.length c).ownBlock ∨ (Value.slice A3 (svs.length + 1) c3).ownBlock=some z2.heap.size from by rw [List.length_append] at hwh;exact hwh)
     clear hwh
     have hrow:∀ q,Value.ownBlock _=some q → w.heap.size + 3 ≤ q ∧ q < z2.heap.size ∧ TyAt _ q 100:=fun q hq=>HO2.ty q hq
     have hkeep:∀ {k:Nat} {t:TypeId} {cs:List Value},Row z2 k t cs → t ≠ 100 → Row z3 k t cs:=fun h hne=>h.keep (hgr3.block _ h.lt fun e=>(TyAt.ne h.ty (hrow _ e.symm).2.2 hne) rfl)
     have r5:=hkeep (HI.out.2.2.2.1.on hbz) (by decide)
     have r2:=hkeep (HI.out.2.1.on hbz) (by decide)
     have r4:=hkeep (HI.out.2.2.1.on hbz) (by decide)
     have p5:z3.cell? ⟨w.heap.size + 2,0,none⟩=some (.slice A svs.length c):=r5.cell 0
     have p6:=r5.frozen 0
     have p7:=r5.lt
     refine hK _ _ ?_
     clear hK K
     have hx3:Cps w.heap.size z3 (cp ++ [(⟨A1,x.1.2.length,c1⟩,x.1.2)]):=HI.out.2.2.2.2.2.1.snoc ((HI.out.2.2.2.2.2.1.on hbz).grown hgr3 fun q hq=>⟨_,by decide,(hrow q hq).2.2⟩) HI.out.2.2.2.2.2.2.size ⟨rfl,(HR1.out.2.1.on hb2).keep fun b _ hl ht=>hgr3.block b hl fun e=>(TyAt.ne ht (hrow _ e.symm).2.2 (by decide)) rfl⟩
     have HF:=Lib.hid (And.intro r2 (And.intro r4 (And.intro r5 (And.intro how3 (And.intro hgr3 (And.intro hbz (And.intro hx3 hrow)))))))
     clear how3 hgr3 hbz hx3 hrow r2 r4 r5 hkeep HO2 HS2 hz2 hb2 hn2
     refine wpAny_ready (rs:=[5]) (by kernel_rfl) (by simp) ?_
     refine AllReady.cons rfl (fun K hK=>?_) AllReady.nil
     go_simp
     refine hK _ _ ?_
     clear hK K
     refine wpAny_done (by kernel_rfl) ?_ _
     obtain ⟨r2,r4,r5,how3,hgr3,hbz,hx3,hrow⟩:=HF.out
     have hl3:z.heap.size ≤ z2.heap.size:=hbz.size
     have hS0:=Only.set (S:=fun i=>i=w.heap.size + 2) (p:=⟨w.heap.size + 2,0,none⟩) (Only.refl z3) (.inl rfl) (.slice A3 (svs.length + 1) c3)
     have how4:Ow (w.heap.size + 3) 100 1 svC z3 (.slice A3 (svs.length + 1) c3) (svs ++ [⟨A1,x.1.2.length,c1⟩]):=by rw [List.length_append] at how3;exact how3
     have hke:KeepE w.heap.size E z (z3.setCell ⟨w.heap.size + 2,0,none⟩ (.slice A3 (svs.length + 1) c3)):=((only_below hbz).grown hgr3 fun k hk=>.inl ⟨by have:=(hrow k hk).1;omega,HD.out.1 k hk⟩).set (p:=⟨w.heap.size + 2,0,none⟩) (.inl ⟨by simp,fun h=>by have h2:w.heap.size + 3 ≤ w.heap.size + 2:=(HD.out.2.2 _ h).1;omega⟩) _
     have hbw:Below w.heap.size w z:=HI.out.2.2.2.2.2.2
     have hb3:Below w.heap.size z z3:=(hbz.mono hbw.size).grown hgr3 (by have:=hbw.size;omega) fun k hk=>by have:=(hrow k hk).1;omega
     have hb4:Below w.heap.size z (z3.setCell ⟨w.heap.size + 2,0,none⟩ (.slice A3 (svs.length + 1) c3)):=hb3.setCell (p:=⟨w.heap.size + 2,0,none⟩) (by simp) _
     refine ⟨hke,?_,r2.far (p:=⟨w.heap.size + 2,0,none⟩) (by simp) _,r4.far (p:=⟨w.heap.size + 2,0,none⟩) (by simp) _,⟨_,_,(r5.set 0 _).of rfl,(by rw [List.map_append,HSV.out.1];exact how4.only hS0 fun b hb=>.inr ⟨30,by decide,by subst hb;exact r5.ty⟩),hx3.only hS0 fun b hb=>.inr ⟨30,by decide,by subst hb;exact r5.ty⟩,by rw [List.map_append,List.map_append,HSV.out.2];rfl,colDis HD.out.1 HD.out.2.2 hl3 HWH.out,colDis2 HD.out.2.1 HD.out.2.2 fun b hb=>(HR1.out.2.1.ty b hb).1⟩,hbw.trans hb4,fun i hi=>⟨(HD.out.2.2 i hi).1,Nat.lt_of_lt_of_le (HD.out.2.2 i hi).2 hb4.size⟩⟩
     have:=HN.out.2.2.2;have:=H4.out;simp;omega
    ·go_simp
     obtain ⟨z2,hz2⟩:∃ z2,z1.alloc (.cells #[.slice A1 x.1.2.length c1] 100)=z2:=⟨_,rfl⟩
     have hb2:Below z1.heap.size z1 z2:=hz2 ▸ balloc (Below.refl _ _) _
     have hn2:Row z2 z1.heap.size 100 [.slice A1 x.1.2.length c1]:=hz2 ▸ Row.new _ _ _
     have hS2:z2.cell? ⟨w.heap.size + 2,0,none⟩=some (.slice A svs.length c):=(hb2.cell (p:=⟨_,_,none⟩) hl1).trans hS1
     refine hK _ _ ?_
     clear hK K
     rw [hz2]
     have hf2:z2.frozen? ⟨w.heap.size + 2,0,none⟩=false:=(hb2.frozen (p:=⟨_,_,none⟩) hl1).trans hf1
     have hl2:w.heap.size + 2 < z2.heap.size:=Nat.lt_of_lt_of_le hl1 hb2.size
     have H2:=Lib.hid (And.intro hz2 (And.intro hb2 hn2))
     clear hz2 hb2 hn2
     refine wpAny_ready (rs:=[0]) (by kernel_rfl) (by simp) ?_
     refine AllReady.cons rfl (fun K hK=>?_) AllReady.nil
     go_simp
     refine hK _ _ ?_
     clear hK K
     obtain ⟨hz2,hb2,hn2⟩:=H2.out
     have hbz:Below z.heap.size z z2:=bch HR1.out.1 hb2
     have HO2:=HI.out.2.2.2.2.1.on hbz
     have HS2:=Row.sl' (xs:=[(⟨A1,x.1.2.length,c1⟩:SV)]) svC_length (hn2.of rfl)
     refine wpAny_ready (rs:=[4]) (by kernel_rfl) (by simp) ?_
     refine AllReady.cons rfl (fun K hK=>?_) AllReady.nil
     refine step_app2 rfl (.tmp 14) (.tmp 17) 30 rfl (w.heap.size + 3) 100 _ 1 24 svC Tryz.underlying30 zeroRow rfl (by decide) (by decide) svC_length svC_one _ svs rfl HO2 (some ⟨z1.heap.size,0,none⟩) 1 1 [(⟨A1,x.1.2.length,c1⟩:SV)] rfl rfl HS2 (by simp <;> omega) (by omega) ?_
     intro v3 z3 how3 hgr3 hwh
     obtain ⟨A3,c3,rfl,hc31,hc32,hs3⟩:=how3.shape svC_length
     have HWH:=Lib.hid (show (Value.slice A3 (svs.length + 1) c3).ownBlock=(Value.slice A svs.length c).ownBlock ∨ (Value.slice A3 (svs.length + 1) c3).ownBlock=some z2.heap.size from by rw [List.length_append] at hwh;exact hwh)
     clear hwh
     have hrow:∀ q,Value.ownBlock _=some q → w.heap.size + 3 ≤ q ∧ q < z2.heap.size ∧ TyAt _ q 100:=fun q hq=>HO2.ty q hq
     have hkeep:∀ {k:Nat} {t:TypeId} {cs:List Value},Row z2 k t cs → t ≠ 100 → Row z3 k t cs:=fun h hne=>h.keep (hgr3.block _ h.lt fun e=>(TyAt.ne h.ty (hrow _ e.symm).2.2 hne) rfl)
     have r5:=hkeep (HI.out.2.2.2.1.on hbz) (by decide)
     have r2:=hkeep (HI.out.2.1.on hbz) (by decide)
     have r4:=hkeep (HI.out.2.2.1.on hbz) (by decide)
     have p5:z3.cell? ⟨w.heap.size + 2,0,none⟩=some (.slice A svs.length c):=r5.cell 0
     have p6:=r5.frozen 0
     have p7:=r5.lt
     refine hK _ _ ?_
     clear hK K
     have hx3:Cps w.heap.size z3 (cp ++ [(⟨A1,x.1.2.length,c1⟩,x.1.2)]):=HI.out.2.2.2.2.2.1.snoc ((HI.out.2.2.2.2.2.1.on hbz).grown hgr3 fun q hq=>⟨_,by decide,(hrow q hq).2.2⟩) HI.out.2.2.2.2.2.2.size ⟨rfl,(HR1.out.2.1.on hb2).keep fun b _ hl ht=>hgr3.block b hl fun e=>(TyAt.ne ht (hrow _ e.symm).2.2 (by decide)) rfl⟩
     have HF:=Lib.hid (And.intro r2 (And.intro r4 (And.intro r5 (And.intro how3 (And.intro hgr3 (And.intro hbz (And.intro hx3 hrow)))))))
     clear how3 hgr3 hbz hx3 hrow r2 r4 r5 hkeep HO2 HS2 hz2 hb2 hn2
     refine wpAny_ready (rs:=[5]) (by kernel_rfl) (by simp) ?_
     refine AllReady.cons rfl (fun K hK=>?_) AllReady.nil
     go_simp
     refine hK _ _ ?_
     clear hK K
     refine wpAny_done (by kernel_rfl) ?_ _
     obtain ⟨r2,r4,r5,how3,hgr3,hbz,hx3,hrow⟩:=HF.out
     have hl3:z.heap.size ≤ z2.heap.size:=hbz.size
     have hS0:=Only.set (S:=fun i=>i=w.heap.size + 2) (p:=⟨w.heap.size + 2,0,none⟩) (Only.refl z3) (.inl rfl) (.slice A3 (svs.length + 1) c3)
     have how4:Ow (w.heap.size + 3) 100 1 svC z3 (.slice A3 (svs.length + 1) c3) (svs ++ [⟨A1,x.1.2.length,c1⟩]):=by rw [List.length_append] at how3;exact how3
     have hke:KeepE w.heap.size E z (z3.setCell ⟨w.heap.size + 2,0,none⟩ (.slice A3 (svs.length + 1) c3)):=((only_below hbz).grown hgr3 fun k hk=>.inl ⟨by have:=(hrow k hk).1;omega,HD.out.1 k hk⟩).set (p:=⟨w.heap.size + 2,0,none⟩) (.inl ⟨by simp,fun h=>by have h2:w.heap.size + 3 ≤ w.heap.size + 2:=(HD.out.2.2 _ h).1;omega⟩) _
     have hbw:Below w.heap.size w z:=HI.out.2.2.2.2.2.2
     have hb3:Below w.heap.size z z3:=(hbz.mono hbw.size).grown hgr3 (by have:=hbw.size;omega) fun k hk=>by have:=(hrow k hk).1;omega
     have hb4:Below w.heap.size z (z3.setCell ⟨w.heap.size + 2,0,none⟩ (.slice A3 (svs.length + 1) c3)):=hb3.setCell (p:=⟨w.heap.size + 2,0,none⟩) (by simp) _
     refine ⟨hke,?_,r2.far (p:=⟨w.heap.size + 2,0,none⟩) (by simp) _,r4.far (p:=⟨w.heap.size + 2,0,none⟩) (by simp) _,⟨_,_,(r5.set 0 _).of rfl,(by rw [List.map_append,HSV.out.1];exact how4.only hS0 fun b hb=>.inr ⟨30,by decide,by subst hb;exact r5.ty⟩),hx3.only hS0 fun b hb=>.inr ⟨30,by decide,by subst hb;exact r5.ty⟩,by rw [List.map_append,List.map_append,HSV.out.2];rfl,colDis HD.out.1 HD.out.2.2 hl3 HWH.out,colDis2 HD.out.2.1 HD.out.2.2 fun b hb=>(HR1.out.2.1.ty b hb).1⟩,hbw.trans hb4,fun i hi=>⟨(HD.out.2.2 i hi).1,Nat.lt_of_lt_of_le (HD.out.2.2 i hi).2 hb4.size⟩⟩
     have:=HN.out.2.2.2;have:=H4.out;simp;omega
 case stop=>
  rintro D c E pre z hD hp ⟨rfl,h400,h2,hb,_,hE⟩ hED hK
  have q0:z.cell? ⟨w.heap.size + 1,0,none⟩=some (.int .i64 W):=h2.cell 0
  have q1:z.cell? ⟨w.heap.size + 1,1,none⟩=some (.slice none 0 0):=h2.cell 1
  have H2:=Lib.hid (And.intro hp (And.intro h400 (And.intro h2 (And.intro hb hD))))
  clear hp h400 h2 hb hD
  gi_wp2
  obtain ⟨hp,h400,h2,hb,hD⟩:=H2.out
  have hz:=HZ0.out
  have hk:∀ r,some D=some r → ∃ o:Obj,z.heap[r]? = some o ∧ o.isCells=false:=fun r e=>by cases e;exact ⟨_,hK,rfl⟩
  refine ⟨by simp,.inl ⟨_,_,rfl,run_takeDeferred hK,?_⟩⟩
  refine ⟨_,resCol (b:=w.heap.size + 1) _ rfl _ (cell_kept q0 (grownBy_putObj' z D (.deferred none)) hk) (cell_kept q1 (grownBy_putObj' z D (.deferred none)) hk),_,[],rfl,?_,Ow.nil,Cps.nil,hb.trans (belowK_b (w:=W0) (by omega) z D _ _ hD hK rfl rfl)⟩
  have hl:=hp.length_le
  rw [List.length_map] at hl
  rw [if_neg (by omega)]
 case done=>
  rintro D E ys z hD hys ⟨h0,h1,h2,⟨v,cp,h3,h4,h5,h7,_,_⟩,h6,_⟩ _ hK
  obtain ⟨svs,hsvs⟩:∃ svs,cp.map (·.1)=svs:=⟨_,rfl⟩
  rw [hsvs] at h4
  have hcl:svs.length=cp.length:=by rw [← hsvs,List.length_map]
  have hcp:cp.length=ys.length:=by have:=congrArg List.length h7;simpa using this
  have HSV:=Lib.hid (And.intro hsvs h7)
  clear hsvs h7
  obtain ⟨A,c,rfl,hc1,hc2,hs⟩:=h4.shape svC_length
  have hsl:svs.length=ys.length:=by omega
  have q5:z.cell? ⟨w.heap.size + 2,0,none⟩=some (.slice A svs.length c):=h3.cell 0
  have hpl:ys.length=rows.length:=by rw [← hys,List.length_map]
  have HI:=Lib.hid (And.intro h0 (And.intro h1 (And.intro h2 (And.intro h3 (And.intro h4 (And.intro h5 (And.intro h6 (And.intro hD (And.intro hys (And.intro hsl hpl))))))))))
  have q0:z.cell? ⟨w.heap.size,0,none⟩=some (.int .i64 W):=h1.cell 0
  have HZ:=Lib.hid (show w.heap.size + 3 ≤ D by have:=HZ0.out;omega)
  rcases Nat.eq_zero_or_pos svs.length with hz | hz
  ·have hs0:svs=[]:=List.eq_nil_of_length_eq_zero hz
   have hy0:ys=[]:=List.eq_nil_of_length_eq_zero (by omega)
   subst hs0
   subst hy0
   have q1:z.cell? ⟨w.heap.size + 1,0,none⟩=some (.int .i64 0):=h2.cell 0
   have q2:z.cell? ⟨w.heap.size + 1,1,none⟩=some (.slice none 0 0):=h2.cell 1
   have q3:=h2.frozen 0
   have q4:=h2.frozen 1
   have q7:=h2.lt
   have HSN:=Lib.hid (fun y=>sortFuncNone_ok A c (.func (.func 102) #[] #[]) y)
   clear h0 h1 h2 h3 h4 h5 h6 hD hys hsl hpl hc1 hc2 hs hz
   gi_wp2_with (refine ⟨trivial,?_⟩;gi_at_call 119;refine (callsIn_wide.2 (HSN.out _)).mono ?_;rintro e w' ⟨rfl,rfl⟩)
   obtain ⟨h0,h1,h2,h3,h4,h5,h6,hD,hys,hsl,hpl⟩:=HI.out
   obtain ⟨k1,k2,k3,k4,k5,k6⟩:=colFin (W:=W) (v:=.slice A 0 c) (svs:=[]) (cp:=[]) HZ.out hK h2 h4 Cps.nil h6 rfl
   refine ⟨by simp,.inl ⟨_,_,rfl,run_takeDeferred k1,_,resCol (b:=w.heap.size + 1) _ rfl _ k2 k3,_,[],rfl,?_,k4,k5,k6⟩⟩
   rw [← hys]
   simp
  ·obtain ⟨g,hA,_,hg,hgl,hgT,hgf,hgc⟩:=h4.head svC_length hz
   subst hA
   have hSR:∀ p ∈ cp,SRt W w.heap.size z p:=h5.srt fun p hp=>by
    have h1:p.2 ∈ cp.map (·.2):=List.mem_map_of_mem hp
    rw [HSV.out.2] at h1
    obtain ⟨y,_,hy⟩:=List.mem_map.1 h1
    rw [← hy]
    exact y.2
   have hzl:cp.length=svs.length:=hcl.symm
   have HSF:=sortFunc_ok W w.heap.size (w.heap.size + 3) g svs.length c cp z (by omega) (by omega) hSR (by rw [HSV.out.1];exact h4)
   have HSF:=Lib.hid HSF
   have HP:=Lib.hid (And.intro HSV.out.2 (And.intro h5 hgT))
   clear h0 h1 h2 h3 h4 h5 h6 hD hys hsl hpl hc1 hc2 hs hg hgl hgT hgf hgc hzl hSR hcl hcp
   gi_wp2_with (refine ⟨trivial,?_⟩;gi_at_call 119;refine (callsIn_wide.2 HSF.out).mono ?_;rintro e z1 ⟨rfl,qs,hqp,hqo,hO1,hb1⟩;have q0:z1.cell? ⟨w.heap.size,0,none⟩=some (.int .i64 W):=(HI.out.2.1.only hb1 (TyAt.ne HI.out.2.1.ty HP.out.2.2 (by decide))).cell 0;have r2:=HI.out.2.2.1.only hb1 (TyAt.ne HI.out.2.2.1.ty HP.out.2.2 (by decide));have r3:=HI.out.2.2.2.1.only hb1 (TyAt.ne HI.out.2.2.2.1.ty HP.out.2.2 (by decide));have q5:z1.cell? ⟨w.heap.size + 2,0,none⟩=some (.slice (some ⟨g,0,none⟩) svs.length c):=r3.cell 0;have q1:z1.cell? ⟨w.heap.size + 1,0,none⟩=some (.int .i64 0):=r2.cell 0;have q2:z1.cell? ⟨w.heap.size + 1,1,none⟩=some (.slice none 0 0):=r2.cell 1;have q3:=r2.frozen 0;have q4:=r2.frozen 1;have q7:=r2.lt;have H1:=Lib.hid (And.intro hqp (And.intro hqo (And.intro hO1 (And.intro hb1 r2))));clear hqp hqo hO1 hb1 r2 r3)
   obtain ⟨h0,h1,h2,h3,h4,h5,h6,hD,hys,hsl,hpl⟩:=HI.out
   obtain ⟨hqp,hqo,hO1,hb1,r2⟩:=H1.out
   have hDl:=(Array.getElem?_eq_some_iff.1 hK).1
   have hDg:D ≠ g:=fun e=>by
    obtain ⟨cs,r,ht⟩:=HP.out.2.2
    rw [← e,hK] at ht
    cases ht
   have hK1:z1.heap[D]? = some (.deferred (some [])):=(hb1.block D hDl hDg).trans hK
   have hR1:Cps w.heap.size z1 qs:=(HP.out.2.1.perm hqp).only hb1 fun b hb=>.inr ⟨100,by decide,by subst hb;exact HP.out.2.2⟩
   have hbz:Below w.heap.size w z1:=Only.from_ h6 rfl hb1 fun i hi=>by
    have hge:w.heap.size + 3 ≤ g:=(h4.ty g rfl).1
    omega
   obtain ⟨k1,k2,k3,k4,k5,k6⟩:=colFin (W:=W) HZ.out hK1 r2 hO1 hR1 hbz rfl
   refine ⟨by simp,.inl ⟨_,_,rfl,run_takeDeferred k1,_,resCol (b:=w.heap.size + 1) _ rfl _ k2 k3,_,qs,rfl,?_,k4,k5,k6⟩⟩
   have hrw:ys.map (·.1.2)=rows:=hys
   rw [if_pos (by omega)]
   refine ⟨?_,?_⟩
   ·rw [← hrw,← HP.out.1];exact hqp.map _
   ·rw [List.pairwise_map];exact hqo

end Go.Proofs.YtcbfbgngkdiijaaGreat

namespace Go.Proofs.YtcbfbgngkdiijaaGreat
open Go.RowKit Go.Qo
set_option linter.unusedVariables false
set_option linter.unusedSimpArgs false
attribute [local go_sem] Oper.semAt_some

end Go.Proofs.YtcbfbgngkdiijaaGreat
