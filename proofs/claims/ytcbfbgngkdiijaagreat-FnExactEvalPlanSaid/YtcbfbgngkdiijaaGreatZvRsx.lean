import Derived.Test.YtcbfbgngkdiijaaGreatProg
import Derived.Test.YtcbfbgngkdiijaaGreatZvPln
import Derived.BigRegion
import Derived.Test.YtcbfbgngkdiijaaGreatZvGg
import Derived.Deep.DeepCutAuto
namespace Go.Proofs.YtcbfbgngkdiijaaGreat.Rs
open Go.RowKit Go.Qo
set_option linter.unusedVariables false
set_option linter.unusedSimpArgs false

def IsCmpG {α:Type} (cell:α → Value) (cmp:α → α → Int) (S:α → Prop) (w:World) (dv:Value) (v:Value):Prop:=
 ∃ (f:FuncId) (cap:Array Value),v=.func (.func f) #[] cap ∧ Callable f ∧ ∀ z:World,Only (fun i=>dv.ownBlock=some i) w z → ∀ x y:α,S x → S y →
   Calls Tryz.prog f (#[cell x,cell y] ++ cap) z fun e w'=>e=.returned (.int .i64 (cmp x y)) ∧ Below z.heap.size z w'
def OwL {α:Type} (cell:α → Value) (lo g n c:Nat) (w:World) (L:List α):Prop:=L.length=n ∧ w.ownsRow lo 100 1 (.slice (some ⟨g,0,none⟩) n c) n (L.flatMap fun x=>[cell x])
section
variable {α:Type} {cell:α → Value} {lo g n c:Nat} {w w':World} {L:List α}
theorem flat_setC:∀ (xs:List α) (j:Nat) (y:α),(xs.flatMap fun x=>[cell x]).set j (cell y)=(xs.set j y).flatMap fun x=>[cell x]
 | [],j,y=>by simp
 | x :: xs,0,y=>by simp
 | x :: xs,j + 1,y=>by
   have ih:=flat_setC xs j y
   simpa using ih
theorem OwL.ow (h:OwL cell lo g n c w L):Ow lo 100 1 (fun x=>[cell x]) w (.slice (some ⟨g,0,none⟩) n c) L:=by have hl:=h.1;unfold Ow;rw [hl];exact h.2
theorem OwL.at_ (h:OwL cell lo g n c w L) {i:Nat} {x:α} (hx:L[i]? = some x):w.cell? ⟨g,i,none⟩=some (cell x):=by
 have hl:=h.1
 have hi:=(List.getElem?_eq_some_iff.1 hx).1
 have h2:=h.ow
 obtain ⟨g',he,_,_,_,_,_,hc⟩   := h2.head (sz:=1) (enc:=fun x=>[cell x]) (fun _=>rfl) (Nat.lt_of_le_of_lt (Nat.zero_le _) hi)
 cases he
 have:=flat_get 1 (fun x=>[cell x]) (fun _=>rfl) L i x 0 _ hx rfl
 rw [Nat.mul_one,Nat.add_zero] at this
 exact hc i _ this
theorem OwL.frozen (h:OwL cell lo g n c w L) (j:Nat):w.frozen? ⟨g,j,none⟩=false:=h.2.frozenAt j
theorem OwL.put (h:OwL cell lo g n c w L) (j:Nat) (y:α):OwL cell lo g n c (w.setCell ⟨g,j,none⟩ (cell y)) (L.set j y):=by
 refine ⟨by rw [List.length_set];exact h.1,?_⟩
 have h1:=(World.ownsRow.stored h.2 j (cell y)).1
 rwa [flat_setC] at h1
theorem OwL.on (h:OwL cell lo g n c w L) (hb:Below w.heap.size w w'):OwL cell lo g n c w' L:=by
 have hl:=h.1
 have h3:=h.ow.on hb
 unfold Ow at h3
 rw [hl] at h3
 exact ⟨hl,h3⟩
theorem OwL.lt (h:OwL cell lo g n c w L):g < w.heap.size:=by
 have hl:=h.1
 have h2:=h.ow
 exact (h2.ty g rfl).2.1
end

def elCell {α:Type} (sv:α → SV) (x:α):Value:=(.slice (sv x).A (sv x).n (sv x).c)
theorem down_done {α:Type} {cmp:α → α → Int} {S:α → Prop} (C:Cm cmp S) {xs p:List α} {x:α} {i j:Nat} (hS:∀ r ∈ xs,S r) (hx:xs[i]? = some x) (hp:gSort cmp (xs.take i)=p) (hj:j ≤ p.length)
 (h1:∀ (k:Nat) (y:α),j ≤ k → p[k]? = some y → cmp x y < 0) (h2:∀ y,0 < j → p[j - 1]? = some y → ¬ cmp x y < 0):Down p x (xs.drop (i + 1)) j=gSort cmp (xs.take (i + 1)) ++ xs.drop (i + 1):=by
 have hSt:∀ r ∈ xs.take i,S r:=fun r hr=>hS r (List.mem_of_mem_take hr)
 have ho:=gSort_ord C hSt
 have hm:∀ r ∈ gSort cmp (xs.take i),S r:=fun r hr=>hSt r ((gSort_perm C hSt).mem_iff.1 hr)
 have ht:xs.take (i + 1)=xs.take i ++ [x]:=by rw [List.take_add_one,hx];rfl
 rw [ht,gSort_snoc]
 rw [hp] at ho hm ⊢
 rw [gIns_at C (hS x (List.mem_of_getElem? hx)) hm ho hj h1 h2]
 unfold Down
 simp
theorem down_pre {α:Type} {pre p rest post:List α} {x:α} {j:Nat} (hj:pre.length ≤ j):Down (pre ++ p) x (rest ++ post) j=pre ++ Down p x rest (j - pre.length) ++ post:=by
 have e1:(pre ++ p).take j=pre ++ p.take (j - pre.length):=by rw [List.take_append,List.take_of_length_le hj]
 have e2:(pre ++ p).drop j=p.drop (j - pre.length):=by rw [List.drop_append,List.drop_eq_nil_of_le hj,List.nil_append]
 unfold Down
 rw [e1,e2]
 simp only [List.append_assoc,List.cons_append]
theorem down_end {α:Type} {cmp:α → α → Int} {S:α → Prop} (C:Cm cmp S) {pre xs post p:List α} {x:α} {i j:Nat} (hS:∀ r ∈ xs,S r) (hx:xs[i]? = some x) (hp:gSort cmp (xs.take i)=p) (ha:pre.length ≤ j) (hj:j ≤ pre.length + p.length)
 (h1:∀ (k:Nat) (y:α),j ≤ k → (pre ++ p)[k]? = some y → cmp x y < 0) (h2:∀ y,pre.length < j → (pre ++ p)[j - 1]? = some y → ¬ cmp x y < 0) :
 Down (pre ++ p) x (xs.drop (i + 1) ++ post) j=pre ++ (gSort cmp (xs.take (i + 1)) ++ xs.drop (i + 1)) ++ post:=by
 rw [down_pre ha,down_done C (j:=j - pre.length) hS hx hp (by omega) (fun k y hk hy=>h1 (pre.length + k) y (by omega) (by rw [List.getElem?_append_right (by omega)];rwa [show pre.length + k - pre.length=k by omega]))
  (fun y h0 hy=>h2 y (by omega) (by rw [List.getElem?_append_right (by omega)];rwa [show j - 1 - pre.length=j - pre.length - 1 by omega]))]
set_option maxRecDepth 20000 in
set_option maxHeartbeats 2000000 in
theorem insSort_ok {α:Type} (sv:α → SV) (cmp:α → α → Int) (S:α → Prop) (C:Cm cmp S) (lo g n c a b:Nat) (pre xs post:List α) (v:Value) (w:World) (ha:pre.length=a) (hb:b=a + xs.length) (hbn:b ≤ n) (hn:n ≤ 1048576) (hS:∀ x ∈ xs,S x)
 (hv:IsCmpG (elCell sv) cmp S w (.slice (some ⟨g,0,none⟩) n c) v) (h:OwL (elCell sv) lo g n c w (pre ++ xs ++ post)) :
 Calls Tryz.prog 140 #[.slice (some ⟨g,0,none⟩) n c,.int .i64 a,.int .i64 b,v] w fun e w'=>e=.returned (.tuple #[]) ∧ OwL (elCell sv) lo g n c w' (pre ++ gSort cmp xs ++ post) ∧ Only (fun i=>i=g) w w':=by
 obtain ⟨f,cap,rfl,hf,hcall⟩:=hv
 have Hcall:=Lib.hid hcall
 have HH:=Lib.hid h
 have HS:=Lib.hid hS
 have HA:=Lib.hid (And.intro ha hb)
 have hcf:=fun args=>hf args
 have han:a ≤ 1048576:=by omega
 clear hcall h hS hf ha hb
 go_enter Tryz.func140,Tryz.ntmps140
 go_wp2
 go_loopg [8] (b - (a + 1)) (fun gg v8 wr=>∃ i:Nat,a + 1 ≤ i ∧ gg=b - i ∧ v8=.int .i64 i ∧ OwL (elCell sv) lo g n c wr (pre ++ (gSort cmp (xs.take (i - a)) ++ xs.drop (i - a)) ++ post) ∧ Only (fun i=>i=g) w wr)
 case atStart=>
  refine ⟨a + 1,by omega,rfl,by go_num,?_,Only.refl _⟩
  ·have:gSort cmp (xs.take (a + 1 - a)) ++ xs.drop (a + 1 - a)=xs:=by
    rw [show a + 1 - a=1 by omega]
    cases xs with
    | nil=>rfl
    | cons x xs=>simp [gSort,gIns]
   rw [this];exact HH.out
 case round=>
  obtain ⟨i,hi1,rfl,rfl,how,hon⟩:=hrel
  have HW:=Lib.hid (And.intro how hon)
  clear how hon
  by_cases hlt:i < b
  ·have hixs:i - a < xs.length:=by have:=HA.out.2;omega
   have hx:=Lib.hid (List.getElem?_eq_getElem hixs)
   have hxS:=Lib.hid (HS.out _ (List.getElem_mem hixs))
   generalize xs[i - a]=x at *
   obtain ⟨p,hp⟩:∃ p,gSort cmp (xs.take (i - a))=p:=⟨_,rfl⟩
   have hpl:p.length=i - a:=by rw [← hp,gSort_length,List.length_take];omega
   have hppl:(pre ++ p).length=i:=by rw [List.length_append,HA.out.1,hpl];omega
   have hSt:∀ r ∈ xs.take (i - a),S r:=fun r hr=>HS.out r (List.mem_of_mem_take hr)
   have HP:=Lib.hid (And.intro hp (And.intro hpl (And.intro hppl (fun r (hr:r ∈ gSort cmp (xs.take (i - a)))=>hSt r ((gSort_perm C hSt).mem_iff.1 hr)))))
   clear hp hpl hSt hppl
   go_wp2
   go_loopg [9] i (fun j v9 wq=>a ≤ j ∧ j ≤ i ∧ v9=.int .i64 j ∧ OwL (elCell sv) lo g n c wq (Down (pre ++ p) x (xs.drop (i - a + 1) ++ post) j) ∧ Only (fun i=>i=g) w wq ∧ ∀ (k:Nat) (y:α),j ≤ k → (pre ++ p)[k]? = some y → cmp x y < 0)
   case atStart=>
    refine ⟨by omega,Nat.le_refl _,rfl,?_,HW.out.2,fun k y hk hy=>?_⟩
    ·have h1:=HW.out.1
     rw [HP.out.1,Down.start hx.out HP.out.2.1] at h1
     have e:=down_pre (pre:=pre) (p:=p) (rest:=xs.drop (i - a + 1)) (post:=post) (x:=x) (j:=i) (by have:=HA.out.1;omega)
     rw [e,HA.out.1]
     exact h1
    ·have:=(List.getElem?_eq_some_iff.1 hy).1
     have:=HP.out.2.2.1
     omega
   case round=>
    obtain ⟨haj,hji,rfl,how,hon,hpr⟩:=hrel
    obtain ⟨j,hgj⟩:∃ j,j=gk:=⟨_,rfl⟩
    subst hgj
    have HQ:=Lib.hid (And.intro how (And.intro hon hpr))
    clear hpr
    by_cases h0:j=a
    ·subst h0
     go_wp2
     go_quiet (fail)
     go_wp2
     go_roundg (b - (i + 1))
     case measure=>omega
     case rel=>
      refine ⟨i + 1,by omega,by omega,by go_num,?_,HQ.out.2.1.below (bdrewN (Below.refl _ _) _)⟩
      have e:=down_end C (pre:=pre) (post:=post) (j:=j) HS.out hx.out HP.out.1 (by have:=HA.out.1;omega) (by have:=HA.out.1;omega) HQ.out.2.2 (fun y h=>absurd h (by have:=HA.out.1;omega))
      rw [show i + 1 - j=i - j + 1 by omega,← e]
      exact HQ.out.1.on (bdrewN (Below.refl _ _) _)
    ·have hj1:j - 1 < (pre ++ p).length:=by have:=HP.out.2.2.1;omega
     have hy:=Lib.hid (List.getElem?_eq_getElem hj1)
     have hyS:=Lib.hid (show S (pre ++ p)[j - 1] from by
      have hm:(pre ++ p)[j - 1] ∈ p:=by rw [List.getElem_append_right (by have:=HA.out.1;omega)];exact List.getElem_mem _
      exact HP.out.2.2.2 _ (by rw [HP.out.1];exact hm))
     generalize (pre ++ p)[j - 1]=y at *
     have ax:wr.cell? ⟨g,j,none⟩=some (.slice (sv x).A (sv x).n (sv x).c):=HQ.out.1.at_ (Down.at_x (by have:=HP.out.2.2.1;omega))
     have ay:wr.cell? ⟨g,j - 1,none⟩=some (.slice (sv y).A (sv y).n (sv y).c):=HQ.out.1.at_ (by
      have h1:=Down.at_y (p:=pre ++ p) (x:=x) (rest:=xs.drop (i - a + 1) ++ post) (j:=j - 1) (by omega)
      rw [show j - 1 + 1=j by omega] at h1
      rw [h1];exact hy.out)
     have hgl:=HQ.out.1.lt
     have d1:=fun z:Aft wr.heap.size wr=>z.cell hgl ax
     have d2:=fun z:Aft wr.heap.size wr=>z.cell hgl ay
     obtain ⟨R,hR⟩:∃ R,cmp x y=R:=⟨_,rfl⟩
     have HK:=Lib.hid (fun z:Aft wr.heap.size wr=>show Calls Tryz.prog f (#[(.slice (sv x).A (sv x).n (sv x).c),(.slice (sv y).A (sv y).n (sv y).c)] ++ cap) z.v (fun e w'=>e=.returned (.int .i64 (cmp x y)) ∧ Below z.v.heap.size z.v w') from Hcall.out z.v ((HQ.out.2.1.below z.h).mono (fun i _ hi=>by subst hi;rfl)) x y hxS.out hyS.out)
     rw [hR] at HK
     have HRR:=Lib.hid hR
     have i1:IntKind.i64.wrap ((j:Int) - 1)=(j:Int) - 1:=IntWalk.i64_in _ (by omega)
     have i2:((j:Int) - 1).toNat=j - 1:=by omega
     have i3:(0:Int) ≤ (j:Int) - 1:=by omega
     have i4:(j:Int) - 1 < (n:Int):=by omega
     have i5:(a:Int) < (j:Int):=by omega
     have i7:a < j:=by omega
     have i8:decide ((a:Int) < (j:Int))=true:=decide_eq_true i5
     have i9:decide (a < j)=true:=decide_eq_true i7
     have i6:(j:Int) < (n:Int):=by omega
     clear hR ax ay how
     by_cases hneg:R < 0
     ·go_wp2
      refine wp_region_aft wr.heap.size (by kernel_rfl) (by kernel_rfl) ?_
      repeat (go_big_quiet_step ((exact Calls.aft (Nat.le_refl _) (HK.out _))))
      refine wpQuiet_nil ?_
      intro w1 hw'
      obtain ⟨⟨_,hb1⟩,rfl⟩:=hw'
      have HO1:=Lib.hid (HQ.out.1.on hb1)
      have ax:w1.cell? ⟨g,j,none⟩=some (.slice (sv x).A (sv x).n (sv x).c):=HO1.out.at_ (Down.at_x (by have:=HP.out.2.2.1;omega))
      have ay:w1.cell? ⟨g,j - 1,none⟩=some (.slice (sv y).A (sv y).n (sv y).c):=HO1.out.at_ (by
       have h1:=Down.at_y (p:=pre ++ p) (x:=x) (rest:=xs.drop (i - a + 1) ++ post) (j:=j - 1) (by omega)
       rw [show j - 1 + 1=j by omega] at h1
       rw [h1];exact hy.out)
      have f1:=HO1.out.frozen j
      have f2:=HO1.out.frozen (j - 1)
      have HB1:=Lib.hid (HQ.out.2.1.below hb1)
      have hne:¬ (j=j - 1):=by omega
      have hne':¬ (j - 1=j):=by omega
      clear hb1 d1 d2
      go_wp2
      go_region
      all_goals
       go_wp2
       go_roundg (j - 1)
       case measure=>omega
       case rel=>
        have hsw:=Down.swap (p:=pre ++ p) (rest:=xs.drop (i - a + 1) ++ post) (x:=x) (y:=y) (j:=j - 1) hy.out
        rw [show j - 1 + 1=j by omega] at hsw
        have h1:=((HO1.out.put j y).put (j - 1) x).on (Below.refl _ _).drew
        rw [hsw] at h1
        refine ⟨by omega,by omega,congrArg (Value.int IntKind.i64) (by omega),h1,((HB1.out.set (p:=⟨g,j,none⟩) (.inl rfl) _).set (p:=⟨g,j - 1,none⟩) (.inl rfl) _).drew,fun k z hk hz=>?_⟩
        rcases Nat.lt_or_ge k j with h3 | h3
        ·obtain rfl:k=j - 1:=by omega
         rw [hy.out] at hz;cases hz
         rw [HRR.out];exact hneg
        ·exact HQ.out.2.2 k z h3 hz
     ·go_wp2
      refine wp_region_aft wr.heap.size (by kernel_rfl) (by kernel_rfl) ?_
      repeat (go_big_quiet_step ((exact Calls.aft (Nat.le_refl _) (HK.out _))))
      refine wpQuiet_nil ?_
      intro w1 hw'
      obtain ⟨⟨_,hb1⟩,rfl⟩:=hw'
      go_wp2
      go_roundg (b - (i + 1))
      case measure=>omega
      case rel=>
       refine ⟨i + 1,by omega,by omega,by go_num,?_,HQ.out.2.1.below hb1⟩
       have e:=down_end C (pre:=pre) (post:=post) (j:=j) HS.out hx.out HP.out.1 (by have:=HA.out.1;omega) (by have:=HA.out.1;have:=HP.out.2.1;omega) HQ.out.2.2 (fun z _ hz=>by rw [hy.out] at hz;cases hz;rw [HRR.out];omega)
       rw [show i + 1 - a=i - a + 1 by omega,← e]
       exact HQ.out.1.on hb1
  ·go_wp2
   go_end0
   have hi:xs.length ≤ i - a:=by have:=HA.out.2;omega
   refine ⟨rfl,?_,HW.out.2⟩
   have h1:=HW.out.1
   rwa [List.take_of_length_le hi,List.drop_eq_nil_of_le hi,List.append_nil] at h1

end Go.Proofs.YtcbfbgngkdiijaaGreat.Rs

namespace Go.Proofs.YtcbfbgngkdiijaaGreat.Rs
open Go.RowKit Go.Qo
set_option linter.unusedVariables false
set_option linter.unusedSimpArgs false

set_option maxRecDepth 20000 in
set_option maxHeartbeats 2000000 in
theorem swapRange_ok {α:Type} (sv:α → SV) (lo g n c a b k:Nat) (pre u mid v post:List α) (cv:Value) (w:World) (ha:pre.length=a) (hb:a + u.length + mid.length=b) (hu:u.length=k) (hv:v.length=k) (hbn:b + k ≤ n) (hn:n ≤ 1048576)
 (h:OwL (elCell sv) lo g n c w (pre ++ u ++ mid ++ v ++ post)) :
 Calls Tryz.prog 160 #[.slice (some ⟨g,0,none⟩) n c,.int .i64 a,.int .i64 b,.int .i64 k,cv] w fun e w'=>e=.returned (.tuple #[]) ∧ OwL (elCell sv) lo g n c w' (pre ++ v ++ mid ++ u ++ post) ∧ Only (fun i=>i=g) w w':=by
 have HH:=Lib.hid h
 have HA:=Lib.hid (And.intro ha (And.intro hb (And.intro hu hv)))
 have huv:=Lib.hid (show u.length=v.length by omega)
 have hab:a ≤ b:=by omega
 clear h ha hb hu hv
 go_enter Tryz.func160,Tryz.ntmps160
 go_wp2
 go_loopg [10] k (fun gg v10 wr=>∃ i:Nat,i ≤ k ∧ gg=k - i ∧ v10=.int .i64 i ∧ OwL (elCell sv) lo g n c wr (Exch pre u mid v post i) ∧ Only (fun i=>i=g) w wr)
 case atStart=>exact ⟨0,Nat.zero_le _,rfl,rfl,by rw [Exch.zero];exact HH.out,Only.refl _⟩
 case round=>
  obtain ⟨i,hi,rfl,rfl,how,hon⟩:=hrel
  have HW:=Lib.hid (And.intro how hon)
  clear how hon
  by_cases hlt:i < k
  ·have hiu:i < u.length:=by have:=HA.out.2.2.1;omega
   have hiv:i < v.length:=by have:=HA.out.2.2.2;omega
   have hx:=Lib.hid (List.getElem?_eq_getElem hiu)
   have hy:=Lib.hid (List.getElem?_eq_getElem hiv)
   have c1:=HW.out.1.at_ (Exch.at1 (pre:=pre) (mid:=mid) (post:=post) hiu huv.out)
   have c2:=HW.out.1.at_ (Exch.at2 (pre:=pre) (mid:=mid) (post:=post) hiv huv.out)
   rw [HA.out.1] at c1
   rw [HA.out.1,HA.out.2.1] at c2
   generalize u[i]=x at *
   generalize v[i]=y at *
   obtain ⟨ai,hai⟩:∃ q,a + i=q:=⟨_,rfl⟩
   obtain ⟨bi,hbi⟩:∃ q,b + i=q:=⟨_,rfl⟩
   rw [hai] at c1
   rw [hbi] at c2
   have ax:wr.cell? ⟨g,ai,none⟩=some (.slice (sv x).A (sv x).n (sv x).c):=c1
   have ay:wr.cell? ⟨g,bi,none⟩=some (.slice (sv y).A (sv y).n (sv y).c):=c2
   have f1:=HW.out.1.frozen ai
   have f2:=HW.out.1.frozen bi
   have hgl:=HW.out.1.lt
   have i1:IntKind.i64.wrap ((a:Int) + (i:Int))=(ai:Int):=by rw [IntWalk.i64_in _ (by omega)];omega
   have i2:IntKind.i64.wrap ((b:Int) + (i:Int))=(bi:Int):=by rw [IntWalk.i64_in _ (by omega)];omega
   have i3:(ai:Int) < (n:Int):=by omega
   have i4:(bi:Int) < (n:Int):=by omega
   have HI:=Lib.hid (And.intro hai hbi)
   have hne:¬ (ai=bi):=by have:=HA.out;omega
   have hne':¬ (bi=ai):=by omega
   clear c1 c2 hai hbi
   go_wp2
   go_region
   all_goals
    go_wp2
    go_roundg (k - (i + 1))
    case measure=>omega
    case rel=>
     have hsw:=Exch.next (pre:=pre) (mid:=mid) (post:=post) hx.out hy.out huv.out
     rw [HA.out.1,HA.out.2.1,HI.out.1,HI.out.2] at hsw
     have h1:=((HW.out.1.put ai y).put bi x).on (Below.refl _ _).drew
     rw [hsw] at h1
     exact ⟨i + 1,by omega,rfl,by go_num,h1,((HW.out.2.set (p:=⟨g,ai,none⟩) (.inl rfl) _).set (p:=⟨g,bi,none⟩) (.inl rfl) _).drew⟩
  ·have hik:i=k:=by omega
   subst hik
   go_wp2
   go_end0
   refine ⟨rfl,?_,HW.out.2⟩
   have h1:=HW.out.1
   rwa [Exch.all HA.out.2.2.1 HA.out.2.2.2] at h1

set_option maxRecDepth 20000 in
set_option maxHeartbeats 2000000 in
theorem rotate_ok {α:Type} (sv:α → SV) (lo g n c a m b:Nat) (pre X Y post:List α) (cv:Value) (w:World) (ha:pre.length=a) (hm:a + X.length=m) (hb:m + Y.length=b) (hx0:X ≠ []) (hy0:Y ≠ []) (hbn:b ≤ n) (hn:n ≤ 1048576)
 (h:OwL (elCell sv) lo g n c w (pre ++ X ++ Y ++ post)) :
 Calls Tryz.prog 158 #[.slice (some ⟨g,0,none⟩) n c,.int .i64 a,.int .i64 m,.int .i64 b,cv] w fun e w'=>e=.returned (.tuple #[]) ∧ OwL (elCell sv) lo g n c w' (pre ++ Y ++ X ++ post) ∧ Only (fun i=>i=g) w w':=by
 have HH:=Lib.hid h
 have HX:Hid (0 < X.length ∧ 0 < Y.length):=Lib.hid ⟨List.length_pos_iff.2 hx0,List.length_pos_iff.2 hy0⟩
 have HA:=Lib.hid (And.intro ha (And.intro hm hb))
 obtain ⟨goal,hgo⟩:∃ q,pre ++ Y ++ X ++ post=q:=⟨_,rfl⟩
 rw [hgo]
 have HG:=Lib.hid hgo
 obtain ⟨xl,hxl⟩:∃ q,X.length=q:=⟨_,rfl⟩
 obtain ⟨yl,hyl⟩:∃ q,Y.length=q:=⟨_,rfl⟩
 have HXL:=Lib.hid (And.intro hxl hyl)
 have k1:IntKind.i64.wrap ((m:Int) - (a:Int))=(xl:Int):=by rw [IntWalk.i64_in _ (by omega)];omega
 have k2:IntKind.i64.wrap ((b:Int) - (m:Int))=(yl:Int):=by rw [IntWalk.i64_in _ (by omega)];omega
 have hmn:m ≤ 1048576:=by omega
 have hbn':b ≤ 1048576:=by omega
 clear h ha hm hb hgo hx0 hy0 hxl hyl
 go_enter Tryz.func158,Tryz.ntmps158
 go_wp2
 go_loopg [10,11] (xl + yl) (fun gg v10 v11 wr=>∃ i j:Nat,0 < i ∧ 0 < j ∧ i ≤ m ∧ m + j ≤ b ∧ gg=i + j ∧ v10=.int .i64 i ∧ v11=.int .i64 j ∧ (∃ L,Rot m i j goal L ∧ OwL (elCell sv) lo g n c wr L) ∧ Only (fun i=>i=g) w wr)
 case atStart=>
  have:=HX.out;have:=HXL.out;have:=HA.out
  exact ⟨xl,yl,by omega,by omega,by omega,by omega,rfl,rfl,rfl,⟨_,⟨pre,X,Y,post,rfl,by omega,by omega,by omega,HG.out.symm⟩,HH.out⟩,Only.refl _⟩
 case round=>
  obtain ⟨i,j,hi0,hj0,him,hjb,rfl,rfl,rfl,⟨L,hrot,how⟩,hon⟩:=hrel
  obtain ⟨p,u,v,q,rfl,hp,hu,hv,hgl⟩:=hrot
  have HO:=Lib.hid hon
  have HL:=Lib.hid hgl
  have HW:=Lib.hid (And.intro hp (And.intro hu hv))
  have s1:IntKind.i64.wrap ((m:Int) - (i:Int))=(p.length:Int):=by rw [IntWalk.i64_in _ (by omega)];omega
  by_cases hij:i=j
  ·subst hij
   have K:=Lib.hid (swapRange_ok sv lo g n c p.length m i p u [] v q cv wr rfl (by have:=HW.out;simp only [List.length_nil];omega) hu hv (by omega) hn (by simpa using how))
   have hbb:(i != i)=false:=by simp
   clear how hon hgl hp hu hv
   go_wp2_with fail
   refine K.out.mono ?_
   rintro e w1 ⟨rfl,h1,h2⟩
   have h1':OwL (elCell sv) lo g n c w1 goal:=by rw [HL.out];simpa using h1
   have hO1:=Lib.hid (And.intro h1' (HO.out.trans h2))
   clear h1 h2 h1'
   go_wp2
   go_end0
   exact ⟨rfl,hO1.out⟩
  ·have hne:¬ ((i:Int)=(j:Int)):=by omega
   by_cases hgt:j < i
   ·have hgt':(j:Int) < (i:Int):=by omega
    obtain ⟨u1,u2,rfl,hu1,hu2⟩:=split_at (l:=u) (k:=j) (by omega)
    have K:=Lib.hid (swapRange_ok sv lo g n c p.length m j p u1 u2 v q cv wr rfl (by omega) hu1 hv (by omega) hn (by simpa using how))
    obtain ⟨i',hi'⟩:∃ q,i - j=q:=⟨_,rfl⟩
    have s2:IntKind.i64.wrap ((i:Int) - (j:Int))=(i':Int):=by rw [IntWalk.i64_in _ (by omega)];omega
    have HU:=Lib.hid (And.intro hu1 (And.intro hu2 hi'))
    clear how hon hgl hp hu hv hu1 hu2
    go_wp2_with fail
    refine K.out.mono ?_
    rintro e w1 ⟨rfl,h1,h2⟩
    have hO1:=Lib.hid (And.intro h1 (HO.out.trans h2))
    clear h1 h2
    go_wp2
    go_roundg (i' + j)
    case measure=>omega
    case rel=>
     have:=HU.out
     have:=HW.out
     refine ⟨i',j,by omega,by omega,by omega,by omega,rfl,rfl,rfl,⟨_,⟨p ++ v,u2,u1,q,rfl,?_,?_,?_,?_⟩,hO1.out.1⟩,hO1.out.2⟩
     ·rw [List.length_append];omega
     ·omega
     ·omega
     ·rw [HL.out];simp
   ·have hlt:i < j:=by omega
    have hlt':¬ ((j:Int) < (i:Int)):=by omega
    obtain ⟨v1,v2,rfl,hv1,hv2⟩:=split_at (l:=v) (k:=j - i) (by omega)
    have hvl:v2.length=i:=by omega
    have K:=Lib.hid (swapRange_ok sv lo g n c p.length (m + j - i) i p u v1 v2 q cv wr rfl (by omega) hu hvl (by omega) hn (by simpa using how))
    obtain ⟨j',hj'⟩:∃ q,j - i=q:=⟨_,rfl⟩
    obtain ⟨mj,hmj⟩:∃ q,m + j - i=q:=⟨_,rfl⟩
    obtain ⟨mk,hmk⟩:∃ q,m + j=q:=⟨_,rfl⟩
    have s2:IntKind.i64.wrap ((j:Int) - (i:Int))=(j':Int):=by rw [IntWalk.i64_in _ (by omega)];omega
    have s3:IntKind.i64.wrap ((m:Int) + (j:Int))=(mk:Int):=by rw [IntWalk.i64_in _ (by omega)];omega
    have s4:IntKind.i64.wrap ((mk:Int) - (i:Int))=(mj:Int):=by rw [IntWalk.i64_in _ (by omega)];omega
    rw [hmj] at K
    have HU:=Lib.hid (And.intro hv1 (And.intro hvl hj'))
    clear how hon hgl hp hu hv hv1 hv2 hvl hmj hmk
    go_wp2_with fail
    refine K.out.mono ?_
    rintro e w1 ⟨rfl,h1,h2⟩
    have hO1:=Lib.hid (And.intro h1 (HO.out.trans h2))
    clear h1 h2
    go_wp2
    go_roundg (i + j')
    case measure=>omega
    case rel=>
     have:=HU.out
     have:=HW.out
     refine ⟨i,j',by omega,by omega,by omega,by omega,rfl,rfl,rfl,⟨_,⟨p,v2,v1,u ++ q,rfl,?_,?_,?_,?_⟩,by simpa using hO1.out.1⟩,hO1.out.2⟩
     ·omega
     ·omega
     ·omega
     ·rw [HL.out];simp
end Go.Proofs.YtcbfbgngkdiijaaGreat.Rs

namespace Go.Proofs.YtcbfbgngkdiijaaGreat.Rs
open Go.RowKit Go.Qo
set_option linter.unusedVariables false
set_option linter.unusedSimpArgs false

theorem IsCmpG.only {α:Type} {cell:α → Value} {cmp:α → α → Int} {S:α → Prop} {w w':World} {g n c:Nat} {v:Value} (h:IsCmpG cell cmp S w (.slice (some ⟨g,0,none⟩) n c) v) (ho:Only (fun i=>i=g) w w') :
 IsCmpG cell cmp S w' (.slice (some ⟨g,0,none⟩) n c) v:=by
 obtain ⟨f,cap,rfl,hf,hc⟩:=h
 refine ⟨f,cap,rfl,hf,fun z hz=>hc z ?_⟩
 exact (ho.mono (fun i _ hi=>by subst hi;rfl)).trans hz
def Sorts {α:Type} (cell:α → Value) (lo g n c:Nat) (w:World) (L':List α) (e:Ending) (w':World):Prop:=
 e=.returned (.tuple #[]) ∧ OwL cell lo g n c w' L' ∧ Only (fun i=>i=g) w w'

set_option maxRecDepth 20000 in
set_option maxHeartbeats 4000000 in
theorem symLeft_ok {α:Type} (sv:α → SV) (cmp:α → α → Int) (S:α → Prop) (C:Cm cmp S) (lo g n c a m b:Nat) (pre ys post:List α) (x:α) (v:Value) (w:World) (ha:pre.length=a) (hm:a + 1=m) (hb:m + ys.length=b) (hy0:ys ≠ []) (hbn:b ≤ n) (hn:n ≤ 1048576)
 (hxS:S x) (hyS:∀ r ∈ ys,S r) (oy:GOrd cmp ys) (hv:IsCmpG (elCell sv) cmp S w (.slice (some ⟨g,0,none⟩) n c) v) (h:OwL (elCell sv) lo g n c w (pre ++ [x] ++ ys ++ post)) :
 Calls Tryz.prog 152 #[.slice (some ⟨g,0,none⟩) n c,.int .i64 a,.int .i64 m,.int .i64 b,v] w (Sorts (elCell sv) lo g n c w (pre ++ gSort cmp ([x] ++ ys) ++ post)):=by
 obtain ⟨goal,hgo⟩:∃ q,pre ++ gSort cmp ([x] ++ ys) ++ post=q:=⟨_,rfl⟩
 rw [hgo]
 have HG:=Lib.hid hgo
 clear hgo
 obtain ⟨f,cap,rfl,hf,hcall⟩:=hv
 have Hcall:=Lib.hid hcall
 have HH:=Lib.hid h
 have HS:=Lib.hid (And.intro hxS (And.intro hyS oy))
 obtain ⟨yl,hyl⟩:∃ q,ys.length=q:=⟨_,rfl⟩
 rw [hyl] at hb
 have HA:=Lib.hid (And.intro ha (And.intro hm (And.intro hb hyl)))
 have hcf:=fun args=>hf args
 have k1:IntKind.i64.wrap ((m:Int) - (a:Int))=1:=by rw [IntWalk.i64_in _ (by omega)];omega
 have k2:((1:Int) == 1)=true:=rfl
 clear hcall h hxS hyS oy hf ha hm hb hy0 hyl
 go_enter Tryz.func152,Tryz.ntmps152
 go_wp2
 go_loopg [10,11] (b - m) (fun gg v10 v11 wr=>∃ i j:Nat,i ≤ j ∧ j ≤ yl ∧ gg=j - i ∧ v10=.int .i64 ((m + i:Nat):Int) ∧ v11=.int .i64 ((m + j:Nat):Int) ∧ OwL (elCell sv) lo g n c wr (pre ++ [x] ++ ys ++ post) ∧ Only (fun i=>i=g) w wr
  ∧ (∀ y,0 < i → ys[i - 1]? = some y → cmp y x < 0) ∧ (∀ y,j < ys.length → ys[j]? = some y → ¬ cmp y x < 0))
 case atStart=>
  have:=HA.out
  exact ⟨0,yl,by omega,by omega,by omega,rfl,by rw [HA.out.2.2.1],HH.out,Only.refl _,fun y h0=>absurd h0 (by omega),fun y h0=>absurd h0 (by omega)⟩
 case round=>
  obtain ⟨i,j,hij,hjy,rfl,rfl,rfl,how,hon,hp1,hp2⟩:=hrel
  have HQ:=Lib.hid (And.intro how (And.intro hon (And.intro hp1 hp2)))
  obtain ⟨mi,hmi⟩:∃ q,m + i=q:=⟨_,rfl⟩
  obtain ⟨mj,hmj⟩:∃ q,m + j=q:=⟨_,rfl⟩
  rw [hmi,hmj]
  have hmib:mi ≤ 1048576:=by have:=HA.out;omega
  have hmjb:mj ≤ 1048576:=by have:=HA.out;omega
  have HM:=Lib.hid (And.intro hmi hmj)
  clear how hon hp1 hp2 hmi hmj
  by_cases hlt:i < j
  ·have hltm:(mi:Int) < (mj:Int):=by have:=HM.out;omega
   obtain ⟨h,hh⟩:∃ h,(i + j) / 2=h:=⟨_,rfl⟩
   obtain ⟨mh,hmh⟩:∃ q,m + h=q:=⟨_,rfl⟩
   have hmm:((mi:Int) + (mj:Int)) / 2=(mh:Int):=by have:=HM.out;omega
   have hhy:h < ys.length:=by have:=HA.out;omega
   have hy:=Lib.hid (List.getElem?_eq_getElem hhy)
   have hyS:=Lib.hid (HS.out.2.1 _ (List.getElem_mem hhy))
   generalize ys[h]=y at *
   have c1:=HQ.out.1.at_ (i:=mh) (by
    have h1:=Mv.at_y (pre:=pre) (post:=post) (x:=x) hy.out
    have h2:(Mv pre ys post x 0)[pre.length + (h + 1)]? = some y:=by
     rw [Mv.zero,show pre.length + (h + 1)=(pre ++ [x]).length + h by simp;omega,List.append_assoc (pre ++ [x]),List.getElem?_append_right (by omega),Nat.add_sub_cancel_left,List.getElem?_append_left (by have:=HA.out;omega)]
     exact hy.out
    rw [Mv.zero] at h2
    rw [← h2]
    congr 1
    have:=HA.out;omega)
   have c2:=HQ.out.1.at_ (i:=a) (by
    have h1:=Mv.at_x (pre:=pre) (ys:=ys) (post:=post) (x:=x) (Nat.zero_le _)
    rw [Mv.zero,HA.out.1] at h1
    exact h1)
   have ay:wr.cell? ⟨g,mh,none⟩=some (.slice (sv y).A (sv y).n (sv y).c):=c1
   have ax:wr.cell? ⟨g,a,none⟩=some (.slice (sv x).A (sv x).n (sv x).c):=c2
   have hgl:=HQ.out.1.lt
   have d1:=fun z:Aft wr.heap.size wr=>z.cell hgl ay
   have d2:=fun z:Aft wr.heap.size wr=>z.cell hgl ax
   obtain ⟨R,hR⟩:∃ R,cmp y x=R:=⟨_,rfl⟩
   have HK:=Lib.hid (fun z:Aft wr.heap.size wr=>show Calls Tryz.prog f (#[(.slice (sv y).A (sv y).n (sv y).c),(.slice (sv x).A (sv x).n (sv x).c)] ++ cap) z.v (fun e w'=>e=.returned (.int .i64 (cmp y x)) ∧ Below z.v.heap.size z.v w') from Hcall.out z.v ((HQ.out.2.1.below z.h).mono (fun i _ hi=>by subst hi;rfl)) y x hyS.out HS.out.1)
   rw [hR] at HK
   have HRR:=Lib.hid hR
   have i4:(mh:Int) < (n:Int):=by have:=HA.out;omega
   have i5:(a:Int) < (n:Int):=by have:=HA.out;omega
   have HHM:=Lib.hid (And.intro hh hmh)
   have hmhb:mh ≤ 1048576:=by have:=HA.out;omega
   clear hR c1 c2 hh hmh
   by_cases hneg:R < 0
   ·have hd:decide (R < 0)=true:=decide_eq_true hneg
    go_wp2
    refine wp_region_aft wr.heap.size (by kernel_rfl) (by kernel_rfl) ?_
    repeat (go_big_quiet_step ((exact Calls.aft (Nat.le_refl _) (HK.out _))))
    refine wpQuiet_nil ?_
    intro w1 hw'
    obtain ⟨⟨_,hb1⟩,rfl⟩:=hw'
    have HO1:=Lib.hid (HQ.out.1.on hb1)
    have HB1:=Lib.hid (HQ.out.2.1.below hb1)
    go_wp2
    go_roundg (j - (h + 1))
    case measure=>have:=HHM.out;omega
    case rel=>
     have:=HHM.out;have:=HM.out
     refine ⟨h + 1,j,by omega,by omega,rfl,congrArg (Value.int IntKind.i64) (by omega),congrArg (Value.int IntKind.i64) (by omega),HO1.out,HB1.out,fun z _ hz=>?_,HQ.out.2.2.2⟩
     rw [Nat.add_sub_cancel,hy.out] at hz;cases hz
     rw [HRR.out];exact hneg
   ·have hd:decide (R < 0)=false:=decide_eq_false hneg
    go_wp2
    refine wp_region_aft wr.heap.size (by kernel_rfl) (by kernel_rfl) ?_
    repeat (go_big_quiet_step ((exact Calls.aft (Nat.le_refl _) (HK.out _))))
    refine wpQuiet_nil ?_
    intro w1 hw'
    obtain ⟨⟨_,hb1⟩,rfl⟩:=hw'
    have HO1:=Lib.hid (HQ.out.1.on hb1)
    have HB1:=Lib.hid (HQ.out.2.1.below hb1)
    go_wp2
    go_roundg (h - i)
    case measure=>have:=HHM.out;omega
    case rel=>
     have:=HHM.out;have:=HM.out
     refine ⟨i,h,by omega,by omega,rfl,congrArg (Value.int IntKind.i64) (by omega),congrArg (Value.int IntKind.i64) (by omega),HO1.out,HB1.out,HQ.out.2.2.1,fun z _ hz=>?_⟩
     rw [hy.out] at hz;cases hz
     rw [HRR.out];exact hneg
  ·obtain rfl:i=j:=by omega
   have hltm:¬ ((mi:Int) < (mj:Int)):=by have:=HM.out;omega
   have e1:IntKind.i64.wrap ((mi:Int) - 1)=((a + i:Nat):Int):=by have:=HM.out;have:=HA.out;rw [IntWalk.i64_in _ (by omega)];omega
   obtain ⟨ai,hai⟩:∃ q,a + i=q:=⟨_,rfl⟩
   rw [hai] at e1
   have HAI:=Lib.hid hai
   have hjy':i ≤ yl:=hjy
   clear hai
   go_wp2
   go_loopg [13] i (fun gg v13 wq=>∃ k:Nat,k ≤ i ∧ gg=i - k ∧ v13=.int .i64 ((a + k:Nat):Int) ∧ OwL (elCell sv) lo g n c wq (Mv pre ys post x k) ∧ Only (fun i=>i=g) w wq)
   case atStart=>exact ⟨0,Nat.zero_le _,rfl,rfl,by rw [Mv.zero];exact HQ.out.1,HQ.out.2.1⟩
   case round=>
    obtain ⟨k,hk,rfl,rfl,how,hon⟩:=hrel
    have HW:=Lib.hid (And.intro how hon)
    obtain ⟨ak,hak⟩:∃ q,a + k=q:=⟨_,rfl⟩
    rw [hak]
    have hakb:ak ≤ 1048576:=by have:=HA.out;omega
    have HAK:=Lib.hid hak
    clear how hon hak
    by_cases hlt:k < i
    ·have hlta:(ak:Int) < (ai:Int):=by have:=HAK.out;have:=HAI.out;omega
     have hky:k < ys.length:=by have:=HA.out;omega
     have hy:=Lib.hid (List.getElem?_eq_getElem hky)
     generalize ys[k]=y at *
     obtain ⟨ak1,hak1⟩:∃ q,ak + 1=q:=⟨_,rfl⟩
     have c1:=HW.out.1.at_ (Mv.at_x (pre:=pre) (post:=post) (x:=x) (Nat.le_of_lt hky))
     have c2:=HW.out.1.at_ (Mv.at_y (pre:=pre) (post:=post) (x:=x) hy.out)
     rw [HA.out.1,HAK.out] at c1
     rw [HA.out.1,show a + (k + 1)=ak1 by have:=HAK.out;omega] at c2
     have ax:wr.cell? ⟨g,ak,none⟩=some (.slice (sv x).A (sv x).n (sv x).c):=c1
     have ay:wr.cell? ⟨g,ak1,none⟩=some (.slice (sv y).A (sv y).n (sv y).c):=c2
     have f1:=HW.out.1.frozen ak
     have f2:=HW.out.1.frozen ak1
     have hgl:=HW.out.1.lt
     have i1:IntKind.i64.wrap ((ak:Int) + 1)=(ak1:Int):=by rw [IntWalk.i64_in _ (by omega)];omega
     have i3:(ak:Int) < (n:Int):=by have:=HAK.out;have:=HA.out;omega
     have i4:(ak1:Int) < (n:Int):=by have:=HAK.out;have:=HA.out;omega
     have HI:=Lib.hid hak1
     have hne:¬ (ak=ak1):=by omega
     have hne':¬ (ak1=ak):=by omega
     clear c1 c2 hak1
     go_wp2
     go_region
     all_goals
      go_wp2
      go_roundg (i - (k + 1))
      case measure=>omega
      case rel=>
       have hsw:=Mv.next (pre:=pre) (post:=post) (x:=x) hy.out
       rw [HA.out.1,HAK.out,show a + (k + 1)=ak1 by have:=HAK.out;have:=HI.out;omega] at hsw
       have h1:=((HW.out.1.put ak y).put ak1 x).on (Below.refl _ _).drew
       rw [hsw] at h1
       exact ⟨k + 1,by omega,rfl,congrArg (Value.int IntKind.i64) (by have:=HAK.out;have:=HI.out;omega),h1,((HW.out.2.set (p:=⟨g,ak,none⟩) (.inl rfl) _).set (p:=⟨g,ak1,none⟩) (.inl rfl) _).drew⟩
    ·obtain rfl:k=i:=by omega
     have hlta:¬ ((ak:Int) < (ai:Int)):=by have:=HAK.out;have:=HAI.out;omega
     go_wp2
     refine bodyPost_ret (results_none rfl _ _ _) rfl ⟨rfl,?_,HW.out.2⟩
     have h1:=HW.out.1
     rw [← HG.out,merge_head C HS.out.1 HS.out.2.1 HS.out.2.2 (j:=k) (by have:=HA.out;omega) (fun z h0 hz=>by have:=HQ.out.2.2.1 z h0 hz;omega) (fun z h0 hz=>by have:=HQ.out.2.2.2 z h0 hz;omega),← Mv.eq]
     exact h1
set_option maxRecDepth 20000 in
set_option maxHeartbeats 4000000 in
theorem symRight_ok {α:Type} (sv:α → SV) (cmp:α → α → Int) (S:α → Prop) (C:Cm cmp S) (lo g n c a m b:Nat) (pre xs post:List α) (y:α) (v:Value) (w:World) (ha:pre.length=a) (hm:a + xs.length=m) (hb:m + 1=b) (hx2:1 < xs.length) (hbn:b ≤ n) (hn:n ≤ 1048576)
 (hyS:S y) (hxS:∀ r ∈ xs,S r) (ox:GOrd cmp xs) (hv:IsCmpG (elCell sv) cmp S w (.slice (some ⟨g,0,none⟩) n c) v) (h:OwL (elCell sv) lo g n c w (pre ++ xs ++ [y] ++ post)) :
 Calls Tryz.prog 152 #[.slice (some ⟨g,0,none⟩) n c,.int .i64 a,.int .i64 m,.int .i64 b,v] w (Sorts (elCell sv) lo g n c w (pre ++ gSort cmp (xs ++ [y]) ++ post)):=by
 obtain ⟨goal,hgo⟩:∃ q,pre ++ gSort cmp (xs ++ [y]) ++ post=q:=⟨_,rfl⟩
 rw [hgo]
 have HG:=Lib.hid hgo
 clear hgo
 obtain ⟨f,cap,rfl,hf,hcall⟩:=hv
 have Hcall:=Lib.hid hcall
 have HH:=Lib.hid h
 have HS:=Lib.hid (And.intro hyS (And.intro hxS ox))
 obtain ⟨xl,hxl⟩:∃ q,xs.length=q:=⟨_,rfl⟩
 rw [hxl] at hm hx2
 have HA:=Lib.hid (And.intro ha (And.intro hm (And.intro hb (And.intro hxl hx2))))
 have hcf:=fun args=>hf args
 have k1:IntKind.i64.wrap ((m:Int) - (a:Int))=(xl:Int):=by rw [IntWalk.i64_in _ (by omega)];omega
 have k2:((xl:Int) == 1)=false:=by simp;omega
 have k2':¬ ((xl:Int)=1):=by omega
 have k2'':¬ (xl=1):=by omega
 have k3:IntKind.i64.wrap ((b:Int) - (m:Int))=1:=by rw [IntWalk.i64_in _ (by omega)];omega
 have k4:((1:Int) == 1)=true:=rfl
 clear hcall h hxS hyS ox hf ha hm hb hx2 hxl
 go_enter Tryz.func152,Tryz.ntmps152
 go_wp2
 go_loopg [14,15] (m - a) (fun gg v14 v15 wr=>∃ i j:Nat,i ≤ j ∧ j ≤ xl ∧ gg=j - i ∧ v14=.int .i64 ((a + i:Nat):Int) ∧ v15=.int .i64 ((a + j:Nat):Int) ∧ OwL (elCell sv) lo g n c wr (pre ++ xs ++ [y] ++ post) ∧ Only (fun i=>i=g) w wr
  ∧ (∀ x,0 < i → xs[i - 1]? = some x → ¬ cmp y x < 0) ∧ (∀ x,j < xs.length → xs[j]? = some x → cmp y x < 0))
 case atStart=>
  have:=HA.out
  exact ⟨0,xl,by omega,by omega,by omega,rfl,by rw [HA.out.2.1],HH.out,Only.refl _,fun y h0=>absurd h0 (by omega),fun y h0=>absurd h0 (by omega)⟩
 case round=>
  obtain ⟨i,j,hij,hjy,rfl,rfl,rfl,how,hon,hp1,hp2⟩:=hrel
  have HQ:=Lib.hid (And.intro how (And.intro hon (And.intro hp1 hp2)))
  obtain ⟨mi,hmi⟩:∃ q,a + i=q:=⟨_,rfl⟩
  obtain ⟨mj,hmj⟩:∃ q,a + j=q:=⟨_,rfl⟩
  rw [hmi,hmj]
  have hmib:mi ≤ 1048576:=by have:=HA.out;omega
  have hmjb:mj ≤ 1048576:=by have:=HA.out;omega
  have hmb:m ≤ 1048576:=by have:=HA.out;omega
  have HM:=Lib.hid (And.intro hmi hmj)
  clear how hon hp1 hp2 hmi hmj
  by_cases hlt:i < j
  ·have hltm:(mi:Int) < (mj:Int):=by have:=HM.out;omega
   obtain ⟨h,hh⟩:∃ h,(i + j) / 2=h:=⟨_,rfl⟩
   obtain ⟨mh,hmh⟩:∃ q,a + h=q:=⟨_,rfl⟩
   have hmm:((mi:Int) + (mj:Int)) / 2=(mh:Int):=by have:=HM.out;omega
   have hhy:h < xs.length:=by have:=HA.out;omega
   have hx:=Lib.hid (List.getElem?_eq_getElem hhy)
   have hxS:=Lib.hid (HS.out.2.1 _ (List.getElem_mem hhy))
   generalize xs[h]=x at *
   have c1:=HQ.out.1.at_ (i:=mh) (by
    have h2:(pre ++ xs ++ [y] ++ post)[pre.length + h]? = some x:=by
     rw [List.append_assoc (pre ++ xs),List.append_assoc pre,List.getElem?_append_right (by omega),Nat.add_sub_cancel_left,List.getElem?_append_left hhy]
     exact hx.out
    rw [← h2]
    congr 1
    have:=HA.out;omega)
   have c2:=HQ.out.1.at_ (i:=m) (by
    have h1:=Mv.at_x (pre:=pre) (ys:=xs) (post:=post) (x:=y) (Nat.le_refl xs.length)
    rw [Mv.all rfl] at h1
    rw [← h1]
    congr 1
    have:=HA.out;omega)
   have ax:wr.cell? ⟨g,mh,none⟩=some (.slice (sv x).A (sv x).n (sv x).c):=c1
   have ay:wr.cell? ⟨g,m,none⟩=some (.slice (sv y).A (sv y).n (sv y).c):=c2
   have hgl:=HQ.out.1.lt
   have d1:=fun z:Aft wr.heap.size wr=>z.cell hgl ay
   have d2:=fun z:Aft wr.heap.size wr=>z.cell hgl ax
   obtain ⟨R,hR⟩:∃ R,cmp y x=R:=⟨_,rfl⟩
   have HK:=Lib.hid (fun z:Aft wr.heap.size wr=>show Calls Tryz.prog f (#[(.slice (sv y).A (sv y).n (sv y).c),(.slice (sv x).A (sv x).n (sv x).c)] ++ cap) z.v (fun e w'=>e=.returned (.int .i64 (cmp y x)) ∧ Below z.v.heap.size z.v w') from Hcall.out z.v ((HQ.out.2.1.below z.h).mono (fun i _ hi=>by subst hi;rfl)) y x HS.out.1 hxS.out)
   rw [hR] at HK
   have HRR:=Lib.hid hR
   have i4:(mh:Int) < (n:Int):=by have:=HA.out;omega
   have i5:(m:Int) < (n:Int):=by have:=HA.out;omega
   have HHM:=Lib.hid (And.intro hh hmh)
   have hmhb:mh ≤ 1048576:=by have:=HA.out;omega
   clear hR c1 c2 hh hmh
   by_cases hneg:R < 0
   ·have hd:decide (R < 0)=true:=decide_eq_true hneg
    go_wp2
    refine wp_region_aft wr.heap.size (by kernel_rfl) (by kernel_rfl) ?_
    repeat (go_big_quiet_step ((exact Calls.aft (Nat.le_refl _) (HK.out _))))
    refine wpQuiet_nil ?_
    intro w1 hw'
    obtain ⟨⟨_,hb1⟩,rfl⟩:=hw'
    have HO1:=Lib.hid (HQ.out.1.on hb1)
    have HB1:=Lib.hid (HQ.out.2.1.below hb1)
    go_wp2
    go_roundg (h - i)
    case measure=>have:=HHM.out;omega
    case rel=>
     have:=HHM.out;have:=HM.out
     refine ⟨i,h,by omega,by omega,rfl,congrArg (Value.int IntKind.i64) (by omega),congrArg (Value.int IntKind.i64) (by omega),HO1.out,HB1.out,HQ.out.2.2.1,fun z _ hz=>?_⟩
     rw [hx.out] at hz;cases hz
     rw [HRR.out];exact hneg
   ·have hd:decide (R < 0)=false:=decide_eq_false hneg
    go_wp2
    refine wp_region_aft wr.heap.size (by kernel_rfl) (by kernel_rfl) ?_
    repeat (go_big_quiet_step ((exact Calls.aft (Nat.le_refl _) (HK.out _))))
    refine wpQuiet_nil ?_
    intro w1 hw'
    obtain ⟨⟨_,hb1⟩,rfl⟩:=hw'
    have HO1:=Lib.hid (HQ.out.1.on hb1)
    have HB1:=Lib.hid (HQ.out.2.1.below hb1)
    go_wp2
    go_roundg (j - (h + 1))
    case measure=>have:=HHM.out;omega
    case rel=>
     have:=HHM.out;have:=HM.out
     refine ⟨h + 1,j,by omega,by omega,rfl,congrArg (Value.int IntKind.i64) (by omega),congrArg (Value.int IntKind.i64) (by omega),HO1.out,HB1.out,fun z _ hz=>?_,HQ.out.2.2.2⟩
     rw [Nat.add_sub_cancel,hx.out] at hz;cases hz
     rw [HRR.out];exact hneg
  ·obtain rfl:i=j:=by omega
   have hltm:¬ ((mi:Int) < (mj:Int)):=by have:=HM.out;omega
   have hjy':i ≤ xl:=hjy
   go_wp2
   go_loopg [17] (m - mi) (fun gg v17 wq=>∃ k:Nat,i ≤ k ∧ k ≤ xl ∧ gg=k - i ∧ v17=.int .i64 ((a + k:Nat):Int) ∧ OwL (elCell sv) lo g n c wq (Mv pre xs post y k) ∧ Only (fun i=>i=g) w wq)
   case atStart=> 
    have:=HA.out;have:=HM.out
    exact ⟨xl,by omega,by omega,by omega,by rw [HA.out.2.1],by rw [Mv.all HA.out.2.2.2.1];exact HQ.out.1,HQ.out.2.1⟩
   case round=>
    obtain ⟨k,hk,hkx,rfl,rfl,how,hon⟩:=hrel
    have HW:=Lib.hid (And.intro how hon)
    obtain ⟨ak,hak⟩:∃ q,a + k=q:=⟨_,rfl⟩
    rw [hak]
    have hakb:ak ≤ 1048576:=by have:=HA.out;omega
    have HAK:=Lib.hid hak
    clear how hon hak
    by_cases hlt:i < k
    ·have hlta:(mi:Int) < (ak:Int):=by have:=HAK.out;have:=HM.out;omega
     obtain ⟨k1,rfl⟩:∃ k1,k=k1 + 1:=⟨k - 1,by omega⟩
     have hky:k1 < xs.length:=by have:=HA.out;omega
     have hx:=Lib.hid (List.getElem?_eq_getElem hky)
     generalize xs[k1]=x at *
     obtain ⟨ak1,hak1⟩:∃ q,a + k1=q:=⟨_,rfl⟩
     have c1:=HW.out.1.at_ (Mv.at_x (pre:=pre) (post:=post) (x:=y) (Nat.succ_le_of_lt hky))
     have c2:=HW.out.1.at_ (Mv.at_z (pre:=pre) (post:=post) (x:=y) hx.out)
     rw [HA.out.1,HAK.out] at c1
     rw [HA.out.1,hak1] at c2
     have ay:wr.cell? ⟨g,ak,none⟩=some (.slice (sv y).A (sv y).n (sv y).c):=c1
     have ax:wr.cell? ⟨g,ak1,none⟩=some (.slice (sv x).A (sv x).n (sv x).c):=c2
     have f1:=HW.out.1.frozen ak
     have f2:=HW.out.1.frozen ak1
     have hgl:=HW.out.1.lt
     have i1:IntKind.i64.wrap ((ak:Int) - 1)=(ak1:Int):=by have:=HAK.out;rw [IntWalk.i64_in _ (by omega)];omega
     have i3:(ak:Int) < (n:Int):=by have:=HAK.out;have:=HA.out;omega
     have i4:(ak1:Int) < (n:Int):=by have:=HAK.out;have:=HA.out;omega
     have HI:=Lib.hid hak1
     have hne:¬ (ak=ak1):=by have:=HAK.out;omega
     have hne':¬ (ak1=ak):=by omega
     clear c1 c2 hak1
     go_wp2
     go_region
     all_goals
      go_wp2
      go_roundg (k1 - i)
      case measure=>omega
      case rel=>
       have hsw:=Mv.prev (pre:=pre) (post:=post) (x:=y) hx.out
       rw [HA.out.1,HAK.out,HI.out] at hsw
       have h1:=((HW.out.1.put ak x).put ak1 y).on (Below.refl _ _).drew
       rw [hsw] at h1
       exact ⟨k1,by omega,by omega,rfl,congrArg (Value.int IntKind.i64) (by have:=HI.out;omega),h1,((HW.out.2.set (p:=⟨g,ak,none⟩) (.inl rfl) _).set (p:=⟨g,ak1,none⟩) (.inl rfl) _).drew⟩
    ·obtain rfl:i=k:=by omega
     have hlta:¬ ((mi:Int) < (ak:Int)):=by have:=HAK.out;have:=HM.out;omega
     go_wp2
     refine bodyPost_ret (results_none rfl _ _ _) rfl ⟨rfl,?_,HW.out.2⟩
     have h1:=HW.out.1
     rw [← HG.out,merge_last C HS.out.1 HS.out.2.1 HS.out.2.2 (i:=i) (by have:=HA.out;omega) (fun z h0 hz=>by have:=HQ.out.2.2.2 z h0 hz;omega) (fun z h0 hz=>by have:=HQ.out.2.2.1 z h0 hz;omega),← Mv.eq]
     exact h1
end Go.Proofs.YtcbfbgngkdiijaaGreat.Rs

namespace Go.Proofs.YtcbfbgngkdiijaaGreat.Rs
open Go.RowKit Go.Qo
set_option linter.unusedVariables false
set_option linter.unusedSimpArgs false

def SymAt {α:Type} (sv:α → SV) (cmp:α → α → Int) (S:α → Prop) (lo g n c:Nat) (v:Value) (a m b:Nat) (pre xs ys post:List α) (w:World):Prop:=
 pre.length=a → a + xs.length=m → m + ys.length=b → xs ≠ [] → ys ≠ [] → b ≤ n → (∀ r ∈ xs,S r) → (∀ r ∈ ys,S r) → GOrd cmp xs → GOrd cmp ys →
 IsCmpG (elCell sv) cmp S w (.slice (some ⟨g,0,none⟩) n c) v → OwL (elCell sv) lo g n c w (pre ++ xs ++ ys ++ post) →
 Calls Tryz.prog 152 #[.slice (some ⟨g,0,none⟩) n c,.int .i64 a,.int .i64 m,.int .i64 b,v] w (Sorts (elCell sv) lo g n c w (pre ++ gSort cmp (xs ++ ys) ++ post))

set_option maxRecDepth 20000 in
set_option maxHeartbeats 8000000 in
theorem symCut_ok {α:Type} (sv:α → SV) (cmp:α → α → Int) (S:α → Prop) (C:Cm cmp S) (lo g n c a m b:Nat) (pre xs ys post:List α) (v:Value) (w:World) (hn:n ≤ 1048576)
 (hx2:1 < xs.length) (hy2:1 < ys.length) (IH:∀ a' m' b' pre' xs' ys' post' w',b' - a' < b - a → SymAt sv cmp S lo g n c v a' m' b' pre' xs' ys' post' w') :
 SymAt sv cmp S lo g n c v a m b pre xs ys post w:=by
 intro ha hm hb hx0 hy0 hbn hxS hyS ox oy hv h
 obtain ⟨goal,hgo⟩:∃ q,pre ++ gSort cmp (xs ++ ys) ++ post=q:=⟨_,rfl⟩
 rw [hgo]
 have HG:=Lib.hid hgo
 have HV:=Lib.hid hv
 have HI:=Lib.hid IH
 obtain ⟨f,cap,rfl,hf,hcall⟩:=hv
 have Hcall:=Lib.hid hcall
 obtain ⟨L0,hL0⟩:∃ q,pre ++ xs ++ ys ++ post=q:=⟨_,rfl⟩
 rw [hL0] at h
 have HL0:=Lib.hid hL0
 have HH:=Lib.hid h
 have HSx:=Lib.hid (And.intro hxS ox)
 have HSy:=Lib.hid (And.intro hyS oy)
 obtain ⟨xl,hxl⟩:∃ q,xs.length=q:=⟨_,rfl⟩
 obtain ⟨yl,hyl⟩:∃ q,ys.length=q:=⟨_,rfl⟩
 rw [hxl] at hm hx2
 rw [hyl] at hb hy2
 have hcf:=fun args=>hf args
 obtain ⟨D,hD⟩:∃ q,(a + b) / 2 - a=q:=⟨_,rfl⟩
 obtain ⟨mid,hmid⟩:∃ q,a + D=q:=⟨_,rfl⟩
 obtain ⟨nn,hnn⟩:∃ q,mid + m=q:=⟨_,rfl⟩
 have HA:=Lib.hid (And.intro ha (And.intro hm (And.intro hb (And.intro hxl (And.intro hyl (And.intro hD (And.intro hmid hnn)))))))
 have HN:=Lib.hid (And.intro hx2 hy2)
 have k1:IntKind.i64.wrap ((m:Int) - (a:Int))=(xl:Int):=by rw [IntWalk.i64_in _ (by omega)];omega
 have k2:((xl:Int) == 1)=false:=by simp;omega
 have k2':¬ ((xl:Int)=1):=by omega
 have k2'':¬ (xl=1):=by omega
 have k3:IntKind.i64.wrap ((b:Int) - (m:Int))=(yl:Int):=by rw [IntWalk.i64_in _ (by omega)];omega
 have k4:((yl:Int) == 1)=false:=by simp;omega
 have k4':¬ ((yl:Int)=1):=by omega
 have k4'':¬ (yl=1):=by omega
 have k5:((a:Int) + (b:Int)) / 2=(mid:Int):=by omega
 have k6:IntKind.i64.wrap ((mid:Int) + (m:Int))=(nn:Int):=by rw [IntWalk.i64_in _ (by omega)];omega
 have hab:a ≤ 1048576:=by omega
 have hbb:b ≤ 1048576:=by omega
 obtain ⟨pp,hpp⟩:∃ q,nn - 1=q:=⟨_,rfl⟩
 have k7:IntKind.i64.wrap ((nn:Int) - 1)=(pp:Int):=by rw [IntWalk.i64_in _ (by omega)];omega
 have HPP:=Lib.hid hpp
 have hnnb:nn ≤ 2097152:=by omega
 obtain ⟨s0,r0,hs0,hr0,hr0',hs0',hcase⟩:∃ s0 r0:Nat,s0 ≤ r0 ∧ r0 ≤ xl ∧ r0 ≤ D ∧ D ≤ s0 + yl ∧ ((mid < m ∧ a + s0=nn - b ∧ r0=D ∧ D=s0 + yl) ∨ (¬ mid < m ∧ s0=0 ∧ r0=xl)):=by
  by_cases h:mid < m
  ·exact ⟨nn - b - a,D,by omega,by omega,by omega,by omega,.inl ⟨h,by omega,rfl,by omega⟩⟩
  ·exact ⟨0,xl,by omega,by omega,by omega,by omega,.inr ⟨h,rfl,rfl⟩⟩
 have HF:=Lib.hid (And.intro hs0 (And.intro hr0 (And.intro hr0' (And.intro hs0' hcase))))
 obtain ⟨as0,has0⟩:∃ q,a + s0=q:=⟨_,rfl⟩
 obtain ⟨ar0,har0⟩:∃ q,a + r0=q:=⟨_,rfl⟩
 have HAS:=Lib.hid (And.intro has0 har0)
 have j1:mid < m → IntKind.i64.wrap ((nn:Int) - (b:Int))=(as0:Int):=fun h=>by rw [IntWalk.i64_in _ (by omega)];omega
 have j2:mid < m → mid=ar0:=fun h=>by omega
 have j3:¬ mid < m → a=as0:=fun h=>by omega
 have j4:¬ mid < m → m=ar0:=fun h=>by omega
 have HJ:=Lib.hid (And.intro j1 (And.intro j2 (And.intro j3 j4)))
 clear hcall h hxS hyS ox oy hf ha hm hb hx2 hy2 hxl hyl hgo hL0 IH hx0 hy0 hD hmid hnn hpp hs0 hr0 hr0' hs0' hcase has0 har0 j1 j2 j3 j4
 go_enter Tryz.func152,Tryz.ntmps152
 go_upto_if 140 with fail
 go_cut [20,21] (fun c20 c21 wx=>c20=.int .i64 as0 ∧ c21=.int .i64 ar0 ∧ w=wx)
 case first=>
  by_cases h:mid < m
  ·have h':(mid:Int) < (m:Int):=by omega
   have e1:=HJ.out.1 h
   have e2:=Lib.hid (HJ.out.2.1 h)
   go_wp2
   go_meet
   exact ⟨rfl,congrArg (Value.int IntKind.i64) (by have:=e2.out;omega),rfl⟩
  ·have h':¬ (mid:Int) < (m:Int):=by omega
   have e1:=Lib.hid (HJ.out.2.2.1 h)
   have e2:=Lib.hid (HJ.out.2.2.2 h)
   go_wp2
   go_meet
   exact ⟨congrArg (Value.int IntKind.i64) (by have:=e1.out;omega),congrArg (Value.int IntKind.i64) (by have:=e2.out;omega),rfl⟩
 case rest=>
  as_aux_lemma=>
   obtain ⟨rfl,rfl,rfl⟩:=hcut
   go_wp2
   go_loopg [20,21] (r0 - s0) (fun gg v20 v21 wr=>∃ s r:Nat,s0 ≤ s ∧ s ≤ r ∧ r ≤ r0 ∧ gg=r - s ∧ v20=.int .i64 ((a + s:Nat):Int) ∧ v21=.int .i64 ((a + r:Nat):Int) ∧ OwL (elCell sv) lo g n c wr L0 ∧ Only (fun i=>i=g) w wr
    ∧ (∀ x y,0 < s → D - s < yl → xs[s - 1]? = some x → ys[D - s]? = some y → ¬ cmp y x < 0) ∧ (∀ x y,r < xl → 0 < D - r → xs[r]? = some x → ys[D - r - 1]? = some y → cmp y x < 0))
   case atStart=>
    have:=HAS.out
    have:=HF.out
    exact ⟨s0,r0,Nat.le_refl _,by omega,Nat.le_refl _,rfl,congrArg (Value.int IntKind.i64) (by omega),congrArg (Value.int IntKind.i64) (by omega),HH.out,Only.refl _,fun x y h0 h1=>absurd h1 (by omega),fun x y h0 h1=>absurd h1 (by omega)⟩
   case round=>
    as_aux_lemma=>
     obtain ⟨s,r,hss,hsr,hrr,rfl,rfl,rfl,how,hon,hp1,hp2⟩:=hrel
     have HQ:=Lib.hid (And.intro how (And.intro hon (And.intro hp1 hp2)))
     obtain ⟨aS,has⟩:∃ q,a + s=q:=⟨_,rfl⟩
     obtain ⟨ar,har⟩:∃ q,a + r=q:=⟨_,rfl⟩
     rw [has,har]
     have hasb:aS ≤ 1048576:=by have:=HA.out;have:=HF.out;omega
     have harb:ar ≤ 1048576:=by have:=HA.out;have:=HF.out;omega
     have HM:=Lib.hid (And.intro has har)
     have HSR:=Lib.hid (And.intro hss (And.intro hsr hrr))
     clear how hon hp1 hp2 has har
     by_cases hlt:s < r
     ·have hltm:(aS:Int) < (ar:Int):=by have:=HM.out;omega
      obtain ⟨h,hh⟩:∃ h,(aS + ar) / 2 - a=h:=⟨_,rfl⟩
      obtain ⟨ch,hch⟩:∃ q,a + h=q:=⟨_,rfl⟩
      obtain ⟨ph,hph⟩:∃ q,pp - ch=q:=⟨_,rfl⟩
      have hmm:((aS:Int) + (ar:Int)) / 2=(ch:Int):=by have:=HM.out;omega
      have hhs:s ≤ h ∧ h < r:=by have:=HM.out;omega
      have hhx:h < xs.length:=by have:=HA.out;have:=HF.out;omega
      have hhy:D - h - 1 < ys.length:=by have:=HA.out;have:=HF.out;omega
      have hphe:m + (D - h - 1)=ph:=by have:=HA.out;have:=HF.out;have:=HPP.out;omega
      have hx:=Lib.hid (List.getElem?_eq_getElem hhx)
      have hxS:=Lib.hid (HSx.out.1 _ (List.getElem_mem hhx))
      have hy:=Lib.hid (List.getElem?_eq_getElem hhy)
      have hyS:=Lib.hid (HSy.out.1 _ (List.getElem_mem hhy))
      generalize xs[h]=x at *
      generalize ys[D - h - 1]=y at *
      have c1:=HQ.out.1.at_ (i:=ch) (x:=x) (by
       rw [← HL0.out,List.append_assoc (pre ++ xs),List.append_assoc pre,List.getElem?_append_right (by have:=HA.out;omega),show ch - pre.length=h by have:=HA.out;omega,List.getElem?_append_left hhx]
       exact hx.out)
      have c2:=HQ.out.1.at_ (i:=ph) (x:=y) (by
       have hpl:(pre ++ xs).length=m:=by rw [List.length_append];have:=HA.out;omega
       rw [← HL0.out,List.append_assoc (pre ++ xs),List.getElem?_append_right (by omega),show ph - (pre ++ xs).length=D - h - 1 by omega,List.getElem?_append_left hhy]
       exact hy.out)
      have ax:wr.cell? ⟨g,ch,none⟩=some (.slice (sv x).A (sv x).n (sv x).c):=c1
      have ay:wr.cell? ⟨g,ph,none⟩=some (.slice (sv y).A (sv y).n (sv y).c):=c2
      have hgl:=HQ.out.1.lt
      have d1:=fun z:Aft wr.heap.size wr=>z.cell hgl ax
      have d2:=fun z:Aft wr.heap.size wr=>z.cell hgl ay
      obtain ⟨R,hR⟩:∃ R,cmp y x=R:=⟨_,rfl⟩
      have HK:=Lib.hid (fun z:Aft wr.heap.size wr=>show Calls Tryz.prog f (#[(.slice (sv y).A (sv y).n (sv y).c),(.slice (sv x).A (sv x).n (sv x).c)] ++ cap) z.v (fun e w'=>e=.returned (.int .i64 (cmp y x)) ∧ Below z.v.heap.size z.v w') from Hcall.out z.v ((HQ.out.2.1.below z.h).mono (fun i _ hi=>by subst hi;rfl)) y x hyS.out hxS.out)
      rw [hR] at HK
      have HRR:=Lib.hid hR
      have i3:IntKind.i64.wrap ((pp:Int) - (ch:Int))=(ph:Int):=by have:=HA.out;have:=HF.out;have:=HPP.out;rw [IntWalk.i64_in _ (by omega)];omega
      have i4:(ch:Int) < (n:Int):=by have:=HA.out;omega
      have i5:(ph:Int) < (n:Int):=by have:=HA.out;omega
      have HHM:=Lib.hid (And.intro hch hhs)
      have hchb:ch ≤ 1048576:=by omega
      have hphb:ph ≤ 1048576:=by omega
      clear hR c1 c2 hh hch hph hhs hphe hhx hhy
      by_cases hneg:R < 0
      ·have hd:decide (R < 0)=true:=decide_eq_true hneg
       go_wp2
       refine wp_region_aft wr.heap.size (by kernel_rfl) (by kernel_rfl) ?_
       repeat (go_big_quiet_step ((exact Calls.aft (Nat.le_refl _) (HK.out _))))
       refine wpQuiet_nil ?_
       intro w1 hw'
       obtain ⟨⟨_,hb1⟩,rfl⟩:=hw'
       have HO1:=Lib.hid (HQ.out.1.on hb1)
       have HB1:=Lib.hid (HQ.out.2.1.below hb1)
       go_wp2
       go_roundg (h - s)
       case measure=>have:=HHM.out;omega
       case rel=>
        have:=HHM.out;have:=HM.out;have:=HSR.out
        refine ⟨s,h,by omega,by omega,by omega,rfl,congrArg (Value.int IntKind.i64) (by omega),congrArg (Value.int IntKind.i64) (by omega),HO1.out,HB1.out,HQ.out.2.2.1,fun x' y' _ _ hx' hy'=>?_⟩
        rw [hx.out] at hx';cases hx'
        rw [hy.out] at hy';cases hy'
        rw [HRR.out];exact hneg
      ·have hd:decide (R < 0)=false:=decide_eq_false hneg
       go_wp2
       refine wp_region_aft wr.heap.size (by kernel_rfl) (by kernel_rfl) ?_
       repeat (go_big_quiet_step ((exact Calls.aft (Nat.le_refl _) (HK.out _))))
       refine wpQuiet_nil ?_
       intro w1 hw'
       obtain ⟨⟨_,hb1⟩,rfl⟩:=hw'
       have HO1:=Lib.hid (HQ.out.1.on hb1)
       have HB1:=Lib.hid (HQ.out.2.1.below hb1)
       go_wp2
       go_roundg (r - (h + 1))
       case measure=>have:=HHM.out;omega
       case rel=>
        have:=HHM.out;have:=HM.out;have:=HSR.out
        refine ⟨h + 1,r,by omega,by omega,by omega,rfl,congrArg (Value.int IntKind.i64) (by omega),congrArg (Value.int IntKind.i64) (by omega),HO1.out,HB1.out,fun x' y' _ _ hx' hy'=>?_,HQ.out.2.2.2⟩
        rw [Nat.add_sub_cancel,hx.out] at hx';cases hx'
        rw [show D - (h + 1)=D - h - 1 by omega,hy.out] at hy';cases hy'
        rw [HRR.out];exact hneg
     ·obtain rfl:s=r:=by omega
      obtain rfl:aS=ar:=by have:=HM.out;omega
      have hltm:¬ ((aS:Int) < (aS:Int)):=by omega
      have hltm':decide ((aS:Int) < (aS:Int))=false:=decide_eq_false hltm
      obtain ⟨j,hj⟩:∃ j,D - s=j:=⟨_,rfl⟩
      obtain ⟨en,hen⟩:∃ q,m + j=q:=⟨_,rfl⟩
      have hsx:s ≤ xs.length:=by have:=HA.out;have:=HF.out;omega
      have hjy:j ≤ ys.length:=by have:=HA.out;have:=HF.out;omega
      obtain ⟨A,hA⟩:∃ q,xs.take s=q:=⟨_,rfl⟩
      obtain ⟨X,hX⟩:∃ q,xs.drop s=q:=⟨_,rfl⟩
      obtain ⟨Y,hY⟩:∃ q,ys.take j=q:=⟨_,rfl⟩
      obtain ⟨B,hB⟩:∃ q,ys.drop j=q:=⟨_,rfl⟩
      have lA:A.length=s:=by rw [← hA,List.length_take];omega
      have lX:X.length=xl - s:=by rw [← hX,List.length_drop];have:=HA.out;omega
      have lY:Y.length=j:=by rw [← hY,List.length_take];omega
      have lB:B.length=yl - j:=by rw [← hB,List.length_drop];have:=HA.out;omega
      have eAX:A ++ X=xs:=by rw [← hA,← hX];exact List.take_append_drop s xs
      have eYB:Y ++ B=ys:=by rw [← hY,← hB];exact List.take_append_drop j ys
      have sA:∀ q ∈ A,S q:=fun q hq=>HSx.out.1 q (by rw [← eAX];exact List.mem_append_left _ hq)
      have sX:∀ q ∈ X,S q:=fun q hq=>HSx.out.1 q (by rw [← eAX];exact List.mem_append_right _ hq)
      have sY:∀ q ∈ Y,S q:=fun q hq=>HSy.out.1 q (by rw [← eYB];exact List.mem_append_left _ hq)
      have sB:∀ q ∈ B,S q:=fun q hq=>HSy.out.1 q (by rw [← eYB];exact List.mem_append_right _ hq)
      have oA:GOrd cmp A:=by rw [← hA];exact HSx.out.2.take s
      have oX:GOrd cmp X:=by rw [← hX];exact HSx.out.2.drop s
      have oY:GOrd cmp Y:=by rw [← hY];exact HSy.out.2.take j
      have oB:GOrd cmp B:=by rw [← hB];exact HSy.out.2.drop j
      have hcutE:gSort cmp (xs ++ ys)=gSort cmp (A ++ Y) ++ gSort cmp (X ++ B):=by
       rw [← hA,← hX,← hY,← hB]
       refine gSort_cut C HSx.out.1 HSy.out.1 HSx.out.2 HSy.out.2 (fun x y h1 h2 hx hy=>?_) (fun x y h1 h2 hx hy=>?_) hsx hjy
       ·exact HQ.out.2.2.2 x y (by have:=HA.out;omega) (by omega) hx (by rw [hj];exact hy)
       ·have:=HQ.out.2.2.1 x y h1 (by have:=HA.out;omega) hx (by rw [hj];exact hy)
        omega
      obtain ⟨L1,hL1⟩:∃ q,pre ++ A ++ Y ++ X ++ B ++ post=q:=⟨_,rfl⟩
      obtain ⟨L2,hL2⟩:∃ q,pre ++ gSort cmp (A ++ Y) ++ X ++ B ++ post=q:=⟨_,rfl⟩
      have e0:L0=(pre ++ A) ++ X ++ Y ++ (B ++ post):=by rw [← HL0.out,← eAX,← eYB];simp only [List.append_assoc]
      have e1:L1=(pre ++ A) ++ Y ++ X ++ (B ++ post):=by rw [← hL1];simp only [List.append_assoc]
      have e1':L1=pre ++ A ++ Y ++ (X ++ B ++ post):=by rw [← hL1];simp only [List.append_assoc]
      have e2':L2=pre ++ gSort cmp (A ++ Y) ++ (X ++ B ++ post):=by rw [← hL2];simp only [List.append_assoc]
      have e2:L2=(pre ++ gSort cmp (A ++ Y)) ++ X ++ B ++ post:=by rw [← hL2]
      have e3:goal=(pre ++ gSort cmp (A ++ Y)) ++ gSort cmp (X ++ B) ++ post:=by rw [← HG.out,hcutE];simp only [List.append_assoc]
      have n1:¬ (s < xl ∧ 0 < j) → L0=L1:=fun h=>by
       rw [e0,e1]
       rcases (show xl - s=0 ∨ j=0 by omega) with h0 | h0
       ·have:X=[]:=List.eq_nil_of_length_eq_zero (by omega)
        subst this;simp
       ·have:Y=[]:=List.eq_nil_of_length_eq_zero (by omega)
        subst this;simp
      have n2:¬ (0 < s ∧ 0 < j) → L1=L2:=fun h=>by
       rw [e1',e2',gSort_id C (l:=A ++ Y) (fun q hq=>(List.mem_append.1 hq).elim (sA q) (sY q)) ?_]
       ·simp only [List.append_assoc]
       ·rcases (show s=0 ∨ j=0 by omega) with h0 | h0
        ·have:A=[]:=List.eq_nil_of_length_eq_zero (by omega)
         subst this;exact oY
        ·have:Y=[]:=List.eq_nil_of_length_eq_zero (by omega)
         subst this;rw [List.append_nil];exact oA
      have n3:¬ (s < xl ∧ j < yl) → L2=goal:=fun h=>by
       rw [e2,e3,gSort_id C (l:=X ++ B) (fun q hq=>(List.mem_append.1 hq).elim (sX q) (sB q)) ?_]
       ·simp only [List.append_assoc]
       ·rcases (show xl - s=0 ∨ yl - j=0 by omega) with h0 | h0
        ·have:X=[]:=List.eq_nil_of_length_eq_zero (by omega)
         subst this;exact oB
        ·have:B=[]:=List.eq_nil_of_length_eq_zero (by omega)
         subst this;rw [List.append_nil];exact oX
      have lpA:(pre ++ A).length=aS:=by rw [List.length_append,lA];have:=HA.out;have:=HM.out;omega
      have lgs:(pre ++ gSort cmp (A ++ Y)).length=mid:=by rw [List.length_append,gSort_length,List.length_append,lA,lY];have:=HA.out;have:=HF.out;omega
      have KR:=Lib.hid (fun (z:World) (h1:s < xl ∧ 0 < j) (hz:OwL (elCell sv) lo g n c z L0)=>show Calls Tryz.prog 158 #[.slice (some ⟨g,0,none⟩) n c,.int .i64 aS,.int .i64 m,.int .i64 en,.func (.func f) #[] cap] z (Sorts (elCell sv) lo g n c z L1) from by
       have h2:=rotate_ok sv lo g n c aS m en (pre ++ A) X Y (B ++ post) (.func (.func f) #[] cap) z lpA (by rw [lX];have:=HA.out;have:=HM.out;omega) (by rw [lY];exact hen) (fun h=>by subst h;simp at lX;omega) (fun h=>by subst h;simp at lY;omega) (by have:=HA.out;omega) hn (by rw [← e0];exact hz)
       rw [← e1] at h2
       exact h2)
      have KL:=Lib.hid (fun (z:World) (hwz:Only (fun i=>i=g) w z) (h1:0 < s ∧ 0 < j) (hz:OwL (elCell sv) lo g n c z L1)=>show Calls Tryz.prog 152 #[.slice (some ⟨g,0,none⟩) n c,.int .i64 a,.int .i64 aS,.int .i64 mid,.func (.func f) #[] cap] z (Sorts (elCell sv) lo g n c z L2) from by
       have h2:=HI.out a aS mid pre A Y (X ++ B ++ post) z (by have:=HA.out;have:=HN.out;omega) HA.out.1 (by rw [lA];exact HM.out.1) (by rw [lY];have:=HA.out;have:=HM.out;have:=HF.out;omega) (fun h=>by subst h;simp at lA;omega) (fun h=>by subst h;simp at lY;omega) (by have:=HA.out;omega) sA sY oA oY (HV.out.only hwz) (by rw [← e1'];exact hz)
       rw [← e2'] at h2
       exact h2)
      have KM:=Lib.hid (fun (z:World) (hwz:Only (fun i=>i=g) w z) (h1:s < xl ∧ j < yl) (hz:OwL (elCell sv) lo g n c z L2)=>show Calls Tryz.prog 152 #[.slice (some ⟨g,0,none⟩) n c,.int .i64 mid,.int .i64 en,.int .i64 b,.func (.func f) #[] cap] z (Sorts (elCell sv) lo g n c z goal) from by
       have h2:=HI.out mid en b (pre ++ gSort cmp (A ++ Y)) X B post z (by have:=HA.out;have:=HN.out;have:=HF.out;omega) lgs (by rw [lX];have:=HA.out;have:=HF.out;omega) (by rw [lB];have:=HA.out;omega) (fun h=>by subst h;simp at lX;omega) (fun h=>by subst h;simp at lB;omega) (by have:=HA.out;omega) sX sB oX oB (HV.out.only hwz) (by rw [← e2];exact hz)
       rw [← e3] at h2
       exact h2)
      have HN123:=Lib.hid (And.intro n1 (And.intro n2 n3))
      have q1:((aS:Int) < (m:Int)) ↔ s < xl:=by have:=HA.out;have:=HM.out;omega
      have q2:((m:Int) < (en:Int)) ↔ 0 < j:=by omega
      have q3:((a:Int) < (aS:Int)) ↔ 0 < s:=by have:=HM.out;omega
      have q4:((aS:Int) < (mid:Int)) ↔ 0 < j:=by have:=HA.out;have:=HM.out;have:=HF.out;omega
      have q5:((mid:Int) < (en:Int)) ↔ s < xl:=by have:=HA.out;have:=HF.out;omega
      have q6:((en:Int) < (b:Int)) ↔ j < yl:=by have:=HA.out;omega
      have HQ6:=Lib.hid (And.intro q1 (And.intro q2 (And.intro q3 (And.intro q4 (And.intro q5 q6)))))
      have t1:IntKind.i64.wrap ((nn:Int) - (aS:Int))=(en:Int):=by have:=HA.out;have:=HM.out;have:=HF.out;rw [IntWalk.i64_in _ (by omega)];omega
      clear hA hX hY hB lA lX lY lB eAX eYB sA sX sY sB oA oX oY oB hcutE hL1 hL2 e0 e1 e1' e2 e2' e3 n1 n2 n3 lpA lgs q1 q2 q3 q4 q5 q6 hsx hjy hj hen
      go_upto_region 39 with fail
      go_cut [185] (fun c wx=>c=.bool (decide (s < xl ∧ 0 < j)) ∧ wr=wx)
      case first=>
       have q1:=HQ6.out.1
       have q2:=HQ6.out.2.1
       by_cases c1:s < xl
       ·have d1:=q1.2 c1
        by_cases c2:0 < j
        ·have d2:=q2.2 c2
         clear q1 q2
         go_wp2
         go_meet
         exact ⟨by simp [c1,c2],rfl⟩
        ·have d2:¬ ((m:Int) < (en:Int)):=fun h=>c2 (q2.1 h)
         clear q1 q2
         go_wp2
         go_meet
         exact ⟨by simp [c1,c2],rfl⟩
       ·have d1:¬ ((aS:Int) < (m:Int)):=fun h=>c1 (q1.1 h)
        clear q1 q2
        go_wp2
        go_meet
        exact ⟨by simp [c1],rfl⟩
      case rest=>
       as_aux_lemma=>
        obtain ⟨rfl,rfl⟩:=hcut
        go_upto_if 185 with fail
        go_cut [] (fun wx=>OwL (elCell sv) lo g n c wx L1 ∧ Only (fun i=>i=g) w wx)
        case first=>
         by_cases hP:s < xl ∧ 0 < j
         ·have hPd:decide (s < xl ∧ 0 < j)=true:=decide_eq_true hP
          have K:=Lib.hid (KR.out _ hP HQ.out.1)
          go_wp2_with fail
          refine K.out.mono ?_
          rintro e w1 ⟨rfl,h1,h2⟩
          have H1:=Lib.hid (And.intro h1 (HQ.out.2.1.trans h2))
          clear h1 h2
          go_wp2
          go_meet
          exact H1.out
         ·have hPd:decide (s < xl ∧ 0 < j)=false:=decide_eq_false hP
          have h1:=HQ.out.1
          rw [HN123.out.1 hP] at h1
          have H1:=Lib.hid (And.intro h1 HQ.out.2.1)
          clear h1
          go_wp2
          go_meet
          exact H1.out
        case rest=>
         as_aux_lemma=>
          have H1:=Lib.hid hcut
          clear hcut
          go_upto_region 41 with fail
          go_cut [199] (fun c wx=>c=.bool (decide (0 < s ∧ 0 < j)) ∧ wc=wx)
          case first=>
           have q1:=HQ6.out.2.2.1
           have q2:=HQ6.out.2.2.2.1
           by_cases c1:0 < s
           ·have d1:=q1.2 c1
            by_cases c2:0 < j
            ·have d2:=q2.2 c2
             clear q1 q2
             go_wp2
             go_meet
             exact ⟨by simp [c1,c2],rfl⟩
            ·have d2:¬ ((aS:Int) < (mid:Int)):=fun h=>c2 (q2.1 h)
             clear q1 q2
             go_wp2
             go_meet
             exact ⟨by simp [c1,c2],rfl⟩
           ·have d1:¬ ((a:Int) < (aS:Int)):=fun h=>c1 (q1.1 h)
            clear q1 q2
            go_wp2
            go_meet
            exact ⟨by simp [c1],rfl⟩
          case rest=>
           as_aux_lemma=>
            obtain ⟨rfl,rfl⟩:=hcut
            go_upto_if 199 with fail
            go_cut [] (fun wx=>OwL (elCell sv) lo g n c wx L2 ∧ Only (fun i=>i=g) w wx)
            case first=>
             by_cases hP:0 < s ∧ 0 < j
             ·have hPd:decide (0 < s ∧ 0 < j)=true:=decide_eq_true hP
              have K:=Lib.hid (KL.out _ H1.out.2 hP H1.out.1)
              go_wp2_with fail
              refine K.out.mono ?_
              rintro e w1 ⟨rfl,h1,h2⟩
              have H2:=Lib.hid (And.intro h1 (H1.out.2.trans h2))
              clear h1 h2
              go_wp2
              go_meet
              exact H2.out
             ·have hPd:decide (0 < s ∧ 0 < j)=false:=decide_eq_false hP
              have h1:=H1.out.1
              rw [HN123.out.2.1 hP] at h1
              have H2:=Lib.hid (And.intro h1 H1.out.2)
              clear h1
              go_wp2
              go_meet
              exact H2.out
            case rest=>
             as_aux_lemma=>
              have H2:=Lib.hid hcut
              clear hcut
              go_upto_region 43 with fail
              go_cut [213] (fun c wx=>c=.bool (decide (s < xl ∧ j < yl)) ∧ wc=wx)
              case first=>
               have q1:=HQ6.out.2.2.2.2.1
               have q2:=HQ6.out.2.2.2.2.2
               by_cases c1:s < xl
               ·have d1:=q1.2 c1
                by_cases c2:j < yl
                ·have d2:=q2.2 c2
                 clear q1 q2
                 go_wp2
                 go_meet
                 exact ⟨by simp [c1,c2],rfl⟩
                ·have d2:¬ ((en:Int) < (b:Int)):=fun h=>c2 (q2.1 h)
                 clear q1 q2
                 go_wp2
                 go_meet
                 exact ⟨by simp [c1,c2],rfl⟩
               ·have d1:¬ ((mid:Int) < (en:Int)):=fun h=>c1 (q1.1 h)
                clear q1 q2
                go_wp2
                go_meet
                exact ⟨by simp [c1],rfl⟩
              case rest=>
               as_aux_lemma=>
                obtain ⟨rfl,rfl⟩:=hcut
                by_cases hP:s < xl ∧ j < yl
                ·have hPd:decide (s < xl ∧ j < yl)=true:=decide_eq_true hP
                 have K:=Lib.hid (KM.out _ H2.out.2 hP H2.out.1)
                 go_wp2_with fail
                 refine K.out.mono ?_
                 rintro e w1 ⟨rfl,h1,h2⟩
                 have H3:=Lib.hid (And.intro h1 (H2.out.2.trans h2))
                 clear h1 h2
                 go_wp2
                 go_end0
                 exact ⟨rfl,H3.out⟩
                ·have hPd:decide (s < xl ∧ j < yl)=false:=decide_eq_false hP
                 have h1:=H2.out.1
                 rw [HN123.out.2.2 hP] at h1
                 have H3:=Lib.hid (And.intro h1 H2.out.2)
                 clear h1
                 go_wp2
                 go_end0
                 exact ⟨rfl,H3.out⟩
end Go.Proofs.YtcbfbgngkdiijaaGreat.Rs

namespace Go.Proofs.YtcbfbgngkdiijaaGreat.Rs
open Go.RowKit Go.Qo
set_option linter.unusedVariables false
set_option linter.unusedSimpArgs false

theorem symAll_ok {α:Type} (sv:α → SV) (cmp:α → α → Int) (S:α → Prop) (C:Cm cmp S) (lo g n c:Nat) (v:Value) (hn:n ≤ 1048576) :
 ∀ (d a m b:Nat) (pre xs ys post:List α) (w:World),b - a ≤ d → SymAt sv cmp S lo g n c v a m b pre xs ys post w:=by
 intro d
 induction d with
 | zero=>
   intro a m b pre xs ys post w hd ha hm hb hx0 hy0
   have:=List.length_pos_iff.2 hx0
   omega
 | succ d ih=>
   intro a m b pre xs ys post w hd ha hm hb hx0 hy0 hbn hxS hyS ox oy hv h
   have l1:=List.length_pos_iff.2 hx0
   have l2:=List.length_pos_iff.2 hy0
   by_cases hx1:xs.length=1
   ·obtain ⟨x,rfl⟩:=List.length_eq_one_iff.1 hx1
    exact symLeft_ok sv cmp S C lo g n c a m b pre ys post x v w ha hm hb hy0 hbn hn (hxS x (by simp)) hyS oy hv h
   ·by_cases hy1:ys.length=1
    ·obtain ⟨y,rfl⟩:=List.length_eq_one_iff.1 hy1
     exact symRight_ok sv cmp S C lo g n c a m b pre xs post y v w ha hm hb (by omega) hbn hn (hyS y (by simp)) hxS ox hv h
    ·exact symCut_ok sv cmp S C lo g n c a m b pre xs ys post v w hn (by omega) (by omega) (fun a' m' b' pre' xs' ys' post' w' hl=>ih a' m' b' pre' xs' ys' post' w' (by omega)) ha hm hb hx0 hy0 hbn hxS hyS ox oy hv h

set_option maxRecDepth 20000 in
set_option maxHeartbeats 4000000 in
theorem stable_ok {α:Type} (sv:α → SV) (cmp:α → α → Int) (S:α → Prop) (C:Cm cmp S) (lo g n c:Nat) (xs:List α) (v:Value) (w:World) (hx:xs.length=n) (hn:n ≤ 1048576) (hS:∀ x ∈ xs,S x)
 (hv:IsCmpG (elCell sv) cmp S w (.slice (some ⟨g,0,none⟩) n c) v) (h:OwL (elCell sv) lo g n c w xs) :
 Calls Tryz.prog 139 #[.slice (some ⟨g,0,none⟩) n c,.int .i64 n,v] w (Sorts (elCell sv) lo g n c w (gSort cmp xs)):=by
 obtain ⟨goal,hgo⟩:∃ q,gSort cmp xs=q:=⟨_,rfl⟩
 rw [hgo]
 have HG:=Lib.hid hgo
 have HH:=Lib.hid h
 have HS:=Lib.hid hS
 have HX:=Lib.hid hx
 have KI:=Lib.hid (fun (z:World) (hz:Only (fun i=>i=g) w z) (a b:Nat) (pre ys post:List α) (h1:pre.length=a) (h2:b=a + ys.length) (h3:b ≤ n) (h4:∀ q ∈ ys,S q) (h5:OwL (elCell sv) lo g n c z (pre ++ ys ++ post))=>
  insSort_ok sv cmp S C lo g n c a b pre ys post v z h1 h2 h3 hn h4 (hv.only hz) h5)
 have KS:=Lib.hid (fun (z:World) (hz:Only (fun i=>i=g) w z) (a m b:Nat) (pre us ys post:List α) (h1:pre.length=a) (h2:a + us.length=m) (h2':m + ys.length=b) (h3:us ≠ []) (h3':ys ≠ []) (hb:b ≤ n) (h4:∀ q ∈ us,S q) (h4':∀ q ∈ ys,S q)
  (h5:OwL (elCell sv) lo g n c z (pre ++ gSort cmp us ++ gSort cmp ys ++ post))=>
  symAll_ok sv cmp S C lo g n c v hn (b - a) a m b pre (gSort cmp us) (gSort cmp ys) post z (Nat.le_refl _) h1 (by rw [gSort_length];exact h2) (by rw [gSort_length];exact h2') (fun h=>h3 (List.eq_nil_of_length_eq_zero (by rw [← gSort_length (cmp:=cmp),h];rfl))) (fun h=>h3' (List.eq_nil_of_length_eq_zero (by rw [← gSort_length (cmp:=cmp),h];rfl))) hb
   (fun q hq=>h4 q ((gSort_perm C h4).mem_iff.1 hq)) (fun q hq=>h4' q ((gSort_perm C h4').mem_iff.1 hq)) (gSort_ord C h4) (gSort_ord C h4') (hv.only hz) h5)
 clear h hv hS hx hgo
 go_enter Tryz.func139,Tryz.ntmps139
 go_wp2
 go_loopg [7,8] n (fun gg v7 v8 wr=>∃ (a b:Nat) (D0 D M:List α),gg=n - a ∧ v7=.int .i64 (a:Int) ∧ v8=.int .i64 (b:Int) ∧ b=a + 20 ∧ a ≤ n ∧ D.length=a ∧ D0 ++ M=xs ∧ BlkTo cmp 20 D0 D ∧ OwL (elCell sv) lo g n c wr (D ++ M) ∧ Only (fun i=>i=g) w wr)
 case atStart=>exact ⟨0,20,[],[],xs,rfl,rfl,rfl,rfl,Nat.zero_le _,rfl,rfl,BlkTo.nil,HH.out,Only.refl _⟩
 case round=>
  obtain ⟨a,b,D0,D,M,rfl,rfl,rfl,hb,han,hDl,hDM,hBT,how,hon⟩:=hrel
  have HQ:=Lib.hid (And.intro hb (And.intro hDl (And.intro hDM (And.intro hBT (And.intro how hon)))))
  have hMl:M.length=n - a:=by
   have h1:=how.1
   rw [List.length_append] at h1
   omega
  have hMS:∀ q ∈ M,S q:=fun q hq=>HS.out q (by rw [← hDM];exact List.mem_append_right _ hq)
  have HM:=Lib.hid (And.intro hMl hMS)
  have hbb:b ≤ 1048596:=by omega
  clear hb hDl hDM hBT how hon hMl hMS
  by_cases hlt:b ≤ n
  ·have hlt':(b:Int) ≤ (n:Int):=by omega
   have hlt'':¬ ((n:Int) < (b:Int)):=by omega
   obtain ⟨b2,hb2⟩:∃ q,b + 20=q:=⟨_,rfl⟩
   have e1:IntKind.i64.wrap ((b:Int) + 20)=(b2:Int):=by rw [IntWalk.i64_in _ (by omega)];omega
   have HB2:=Lib.hid hb2
   have K:=Lib.hid (KI.out wr HQ.out.2.2.2.2.2 a b D (M.take 20) (M.drop 20) HQ.out.2.1 (by have:=HQ.out.1;have:=HM.out.1;rw [List.length_take];omega) hlt (fun q hq=>HM.out.2 q (List.mem_of_mem_take hq)) (by
    rw [List.append_assoc,List.take_append_drop];exact HQ.out.2.2.2.2.1))
   clear hb2
   go_wp2_with fail
   refine K.out.mono ?_
   rintro e w1 ⟨rfl,hO,hb⟩
   have H1:=Lib.hid (And.intro hO (HQ.out.2.2.2.2.2.trans hb))
   clear hO hb
   go_wp2
   go_roundg (n - b)
   case measure=>have:=HQ.out.1;omega
   case rel=>
    have hl20:(M.take 20).length=20:=by have:=HQ.out.1;have:=HM.out.1;rw [List.length_take];omega
    refine ⟨b,b2,D0 ++ M.take 20,D ++ gSort cmp (M.take 20),M.drop 20,rfl,rfl,rfl,HB2.out.symm,hlt,?_,?_,HQ.out.2.2.2.1.snoc hl20,H1.out.1,H1.out.2⟩
    ·rw [List.length_append,gSort_length,hl20,HQ.out.2.1,HQ.out.1]
    ·rw [List.append_assoc,List.take_append_drop];exact HQ.out.2.2.1
  ·have hlt':¬ (b:Int) ≤ (n:Int):=by omega
   have hlt'':((n:Int) < (b:Int)):=by omega
   have K:=Lib.hid (KI.out wr HQ.out.2.2.2.2.2 a n D M [] HQ.out.2.1 (by have:=HM.out.1;omega) (Nat.le_refl _) HM.out.2 (by rw [List.append_nil];exact HQ.out.2.2.2.2.1))
   go_wp2_with fail
   refine K.out.mono ?_
   rintro e w1 ⟨rfl,hO,hb⟩
   rw [List.append_nil] at hO
   have hBk:=HQ.out.2.2.2.1.done (l:=M) (by have:=HM.out.1;have:=HQ.out.1;omega)
   rw [HQ.out.2.2.1] at hBk
   have H1:=Lib.hid (And.intro hBk (And.intro hO (HQ.out.2.2.2.2.2.trans hb)))
   obtain ⟨L1,hL1⟩:∃ q,D ++ gSort cmp M=q:=⟨_,rfl⟩
   rw [hL1] at H1
   clear hO hb hBk hL1 K HM HQ hlt hlt' hlt'' hbb han
   go_wp2
   go_loopg [6,7,8] (n - 20) (fun gg v6 v7 v8 wr=>∃ (bs:Nat) (L:List α),0 < bs ∧ bs ≤ 2097152 ∧ gg=n - bs ∧ v6=.int .i64 (bs:Int) ∧ Blk cmp bs xs L ∧ OwL (elCell sv) lo g n c wr L ∧ Only (fun i=>i=g) w wr)
   case atStart=>exact ⟨20,L1,by omega,by omega,rfl,rfl,H1.out.1,H1.out.2.1,H1.out.2.2⟩
   case round=>
    obtain ⟨bs,L,hbs0,hbs1,rfl,rfl,hbk,how,hon⟩:=hrel
    have HR:=Lib.hid (And.intro hbk (And.intro how hon))
    clear hbk how hon
    by_cases hlt:bs < n
    ·have hlt':(bs:Int) < (n:Int):=by omega
     obtain ⟨b2,hb2⟩:∃ q,2 * bs=q:=⟨_,rfl⟩
     have e1:IntKind.i64.wrap (2 * (bs:Int))=(b2:Int):=by rw [IntWalk.i64_in _ (by omega)];omega
     have e1':IntKind.i64.wrap ((bs:Int) * 2)=(b2:Int):=by rw [IntWalk.i64_in _ (by omega)];omega
     have hb2b:b2 ≤ 2097152:=by omega
     have HB2:=Lib.hid hb2
     clear hb2
     go_wp2
     go_loopg [7,8] n (fun gg v7 v8 wq=>∃ (a b:Nat) (D0 D M M':List α),gg=n - a ∧ v7=.int .i64 (a:Int) ∧ v8=.int .i64 (b:Int) ∧ b=a + b2 ∧ a ≤ n ∧ D.length=a ∧ D0 ++ M=xs ∧ BlkTo cmp b2 D0 D ∧ Blk cmp bs M M' ∧ OwL (elCell sv) lo g n c wq (D ++ M') ∧ Only (fun i=>i=g) w wq)
     case atStart=>exact ⟨0,b2,[],[],xs,L,rfl,rfl,rfl,by omega,Nat.zero_le _,rfl,rfl,BlkTo.nil,HR.out.1,HR.out.2.1,HR.out.2.2⟩
     case round=>
      obtain ⟨a,b,D0,D,M,M',rfl,rfl,rfl,hb,han,hDl,hDM,hBT,hBM,how,hon⟩:=hrel
      have hMl:M.length=n - a:=by
       have h1:=how.1
       rw [List.length_append,hBM.length] at h1
       omega
      have hMS:∀ q ∈ M,S q:=fun q hq=>HS.out q (by rw [← hDM];exact List.mem_append_right _ hq)
      have HQ:=Lib.hid (And.intro hb (And.intro hDl (And.intro hDM (And.intro hBT (And.intro hBM (And.intro how hon))))))
      have HM:=Lib.hid (And.intro hMl hMS)
      have hbb:b ≤ 4194304:=by omega
      obtain ⟨am,ham⟩:∃ q,a + bs=q:=⟨_,rfl⟩
      have e2:IntKind.i64.wrap ((a:Int) + (bs:Int))=(am:Int):=by rw [IntWalk.i64_in _ (by omega)];omega
      have HAM:=Lib.hid ham
      have hamb:am ≤ 4194304:=by omega
      clear hb hDl hDM hBT hBM how hon hMl hMS ham
      by_cases hle:b ≤ n
      ·have hle':(b:Int) ≤ (n:Int):=by omega
       have hle'':¬ ((n:Int) < (b:Int)):=by omega
       obtain ⟨b3,hb3⟩:∃ q,b + b2=q:=⟨_,rfl⟩
       have e3:IntKind.i64.wrap ((b:Int) + (b2:Int))=(b3:Int):=by rw [IntWalk.i64_in _ (by omega)];omega
       have HB3:=Lib.hid hb3
       clear hb3
       obtain ⟨x1,l1,L1',hM1,hx1,hL1',hk1⟩:=HQ.out.2.2.2.2.1.head (by have:=HM.out.1;have:=HQ.out.1;have:=HB2.out;omega)
       obtain ⟨x2,l2,L2',hM2,hx2,hL2',hk2⟩:=hk1.head (by
        have h1:=HM.out.1
        rw [hM1,List.length_append] at h1
        have:=HQ.out.1;have:=HB2.out;omega)
       have hS1:∀ q ∈ x1,S q:=fun q hq=>HM.out.2 q (by rw [hM1];exact List.mem_append_left _ hq)
       have hS2:∀ q ∈ x2,S q:=fun q hq=>HM.out.2 q (by rw [hM1,hM2];exact List.mem_append_right _ (List.mem_append_left _ hq))
       have eD:D ++ M'=D ++ gSort cmp x1 ++ gSort cmp x2 ++ L2':=by rw [hL1',hL2'];simp only [List.append_assoc]
       have K:=Lib.hid (KS.out wr HQ.out.2.2.2.2.2.2 a am b D x1 x2 L2' HQ.out.2.1 (by rw [hx1];exact HAM.out) (by have:=HAM.out;have:=HQ.out.1;have:=HB2.out;omega) (fun h=>by subst h;simp at hx1;omega) (fun h=>by subst h;simp at hx2;omega) hle hS1 hS2 (by rw [← eD];exact HQ.out.2.2.2.2.2.1))
       have hl12:(x1 ++ x2).length=b2:=by rw [List.length_append,hx1,hx2];have:=HB2.out;omega
       have HE:=Lib.hid (And.intro hM1 (And.intro hM2 (And.intro hk2 (And.intro hl12 (gSort_halves C hS1 hS2)))))
       clear hM1 hM2 hk2 hl12 hS1 hS2 eD hx1 hx2 hL1' hL2' hk1
       go_wp2_with fail
       refine K.out.mono ?_
       rintro e w1 ⟨rfl,hO,hb⟩
       rw [HE.out.2.2.2.2] at hO
       have H2:=Lib.hid (And.intro hO (HQ.out.2.2.2.2.2.2.trans hb))
       clear hO hb
       go_wp2
       go_roundg (n - b)
       case measure=>have:=HQ.out.1;have:=HB2.out;omega
       case rel=>
        refine ⟨b,b3,D0 ++ (x1 ++ x2),D ++ gSort cmp (x1 ++ x2),l2,L2',rfl,rfl,rfl,HB3.out.symm,hle,?_,?_,HQ.out.2.2.2.1.snoc HE.out.2.2.2.1,HE.out.2.2.1,H2.out.1,H2.out.2⟩
        ·rw [List.length_append,gSort_length,HE.out.2.2.2.1,HQ.out.2.1,HQ.out.1]
        ·rw [← HQ.out.2.2.1,HE.out.1,HE.out.2.1];simp only [List.append_assoc]
      ·have hle':¬ (b:Int) ≤ (n:Int):=by omega
       have hle'':((n:Int) < (b:Int)):=by omega
       by_cases hml:am < n
       ·have hml':(am:Int) < (n:Int):=by omega
        obtain ⟨x1,l1,L1',hM1,hx1,hL1',hk1⟩:=HQ.out.2.2.2.2.1.head (by have:=HM.out.1;have:=HAM.out;omega)
        have hl1:l1.length=n - am:=by
         have h1:=HM.out.1
         rw [hM1,List.length_append] at h1
         have:=HAM.out;omega
        have hs1:=hk1.short (by have:=HQ.out.1;have:=HAM.out;have:=HB2.out;omega) hbs0
        subst hs1
        have hS1:∀ q ∈ x1,S q:=fun q hq=>HM.out.2 q (by rw [hM1];exact List.mem_append_left _ hq)
        have hS2:∀ q ∈ l1,S q:=fun q hq=>HM.out.2 q (by rw [hM1];exact List.mem_append_right _ hq)
        have eD:D ++ M'=D ++ gSort cmp x1 ++ gSort cmp l1 ++ []:=by rw [hL1'];simp only [List.append_assoc,List.append_nil]
        have K:=Lib.hid (KS.out wr HQ.out.2.2.2.2.2.2 a am n D x1 l1 [] HQ.out.2.1 (by rw [hx1];exact HAM.out) (by omega) (fun h=>by subst h;simp at hx1;omega) (fun h=>by subst h;simp at hl1;omega) (Nat.le_refl _) hS1 hS2 (by rw [← eD];exact HQ.out.2.2.2.2.2.1))
        have hBk:=HQ.out.2.2.2.1.done (l:=x1 ++ l1) (by rw [List.length_append,hx1,hl1];have:=HQ.out.1;have:=HAM.out;have:=HB2.out;omega)
        rw [← hM1,HQ.out.2.2.1,hM1] at hBk
        have HE:=Lib.hid (And.intro hBk (gSort_halves C hS1 hS2))
        clear hM1 hl1 hS1 hS2 eD hx1 hL1' hk1 hBk
        go_wp2_with fail
        refine K.out.mono ?_
        rintro e w1 ⟨rfl,hO,hb⟩
        rw [HE.out.2,List.append_nil] at hO
        have H2:=Lib.hid (And.intro hO (HQ.out.2.2.2.2.2.2.trans hb))
        clear hO hb
        go_wp2
        go_roundg (n - b2)
        case measure=>have:=HB2.out;omega
        case rel=>exact ⟨b2,D ++ gSort cmp (x1 ++ l1),by have:=HB2.out;omega,hb2b,rfl,rfl,HE.out.1,H2.out.1,H2.out.2⟩
       ·have hml':¬ (am:Int) < (n:Int):=by omega
        have hMs:=HQ.out.2.2.2.2.1.short (by have:=HM.out.1;have:=HAM.out;omega) hbs0
        have hBk:=HQ.out.2.2.2.1.done (l:=M) (by have:=HM.out.1;have:=HAM.out;have:=HB2.out;omega)
        rw [HQ.out.2.2.1,← hMs] at hBk
        have HE:=Lib.hid hBk
        clear hMs hBk
        go_wp2
        go_roundg (n - b2)
        case measure=>have:=HB2.out;omega
        case rel=>exact ⟨b2,D ++ M',by have:=HB2.out;omega,hb2b,rfl,rfl,HE.out,HQ.out.2.2.2.2.2.1,HQ.out.2.2.2.2.2.2⟩
    ·have hlt':¬ (bs:Int) < (n:Int):=by omega
     have hs:=HR.out.1.short (by have:=HX.out;omega) hbs0
     rw [HG.out] at hs
     have HE:=Lib.hid hs
     clear hs
     go_wp2
     go_end0
     refine ⟨rfl,?_,HR.out.2.2⟩
     have h1:=HR.out.2.1
     rwa [HE.out] at h1
set_option maxHeartbeats 1000000 in
theorem sortStable_ok {α:Type} (sv:α → SV) (cmp:α → α → Int) (S:α → Prop) (C:Cm cmp S) (lo g n c:Nat) (xs:List α) (v:Value) (w:World) (hx:xs.length=n) (hn:n ≤ 1048576) (hS:∀ x ∈ xs,S x)
 (hv:IsCmpG (elCell sv) cmp S w (.slice (some ⟨g,0,none⟩) n c) v) (h:OwL (elCell sv) lo g n c w xs) :
 Calls Tryz.prog 133 #[.slice (some ⟨g,0,none⟩) n c,v] w (Sorts (elCell sv) lo g n c w (gSort cmp xs)):=by
 have HI:=Lib.hid (stable_ok sv cmp S C lo g n c xs v w hx hn hS hv h)
 clear h hv hS hx
 go_enter Tryz.func133,Tryz.ntmps133
 go_wp2_with fail
 refine HI.out.mono ?_
 rintro e w1 ⟨rfl,hO,hb⟩
 go_wp2
 go_end0
 exact ⟨rfl,hO,hb⟩
set_option maxHeartbeats 1000000 in
theorem insNil_ok (A:Option Addr) (c:Nat) (v:Value) (w:World) :
 Calls Tryz.prog 140 #[.slice A 0 c,.int .i64 0,.int .i64 0,v] w fun e w'=>e=.returned (.tuple #[]) ∧ w=w':=by
 go_enter Tryz.func140,Tryz.ntmps140
 go_wp2
 go_loopg [8] 0 (fun gg v8 wr=>v8=.int .i64 1 ∧ w=wr)
 case atStart=>exact ⟨rfl,rfl⟩
 case round=>
  obtain ⟨rfl,rfl⟩:=hrel
  go_wp2
  go_end0
  exact ⟨rfl,rfl⟩
set_option maxHeartbeats 1000000 in
theorem stableNil_ok (A:Option Addr) (c:Nat) (v:Value) (w:World) :
 Calls Tryz.prog 139 #[.slice A 0 c,.int .i64 0,v] w fun e w'=>e=.returned (.tuple #[]) ∧ w=w':=by
 have HI:=Lib.hid (fun z=>insNil_ok A c v z)
 go_enter Tryz.func139,Tryz.ntmps139
 go_wp2
 go_loopg [7,8] 0 (fun gg v7 v8 wr=>v7=.int .i64 0 ∧ v8=.int .i64 20 ∧ w=wr)
 case atStart=>exact ⟨rfl,rfl,rfl⟩
 case round=>
  obtain ⟨rfl,rfl,rfl⟩:=hrel
  go_wp2_with fail
  refine (HI.out _).mono ?_
  rintro e w1 ⟨rfl,rfl⟩
  go_wp2
  go_loopg [6,7,8] 0 (fun gg v6 v7 v8 wr=>v6=.int .i64 20 ∧ w=wr)
  case atStart=>exact ⟨rfl,rfl⟩
  case round=>
   obtain ⟨rfl,rfl⟩:=hrel
   go_wp2
   go_end0
   exact ⟨rfl,rfl⟩
theorem sortStableNil_ok (A:Option Addr) (c:Nat) (v:Value) (w:World) :
 Calls Tryz.prog 133 #[.slice A 0 c,v] w fun e w'=>e=.returned (.tuple #[]) ∧ w=w':=by
 have HI:=Lib.hid (fun z=>stableNil_ok A c v z)
 go_enter Tryz.func133,Tryz.ntmps133
 go_wp2_with fail
 refine (HI.out _).mono ?_
 rintro e w1 ⟨rfl,rfl⟩
 go_wp2
 go_end0
 exact ⟨rfl,rfl⟩
end Go.Proofs.YtcbfbgngkdiijaaGreat.Rs
