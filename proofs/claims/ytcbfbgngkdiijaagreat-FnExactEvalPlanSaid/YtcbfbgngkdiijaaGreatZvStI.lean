import Derived.Test.YtcbfbgngkdiijaaGreatProg
import Derived.Test.YtcbfbgngkdiijaaGreatZvPln
import Derived.BigRegion
import Derived.Test.YtcbfbgngkdiijaaGreatZvGg
namespace Go.Proofs.YtcbfbgngkdiijaaGreat
open Go.RowKit Go.Qo
set_option linter.unusedVariables false
set_option linter.unusedSimpArgs false

def IsCmpG {α:Type} (cell:α → Value) (cmp:α → α → Int) (S:α → Prop) (w:World) (dv:Value) (v:Value):Prop:=
 ∃ (f:FuncId) (cap:Array Value),v=.func (.func f) #[] cap ∧ Callable f ∧ ∀ z:World,Only (fun i=>dv.ownBlock=some i) w z → ∀ x y:α,S x → S y →
   Calls Tryz.prog f (#[cell x,cell y] ++ cap) z fun e w'=>e=.returned (.int .i64 (cmp x y)) ∧ Below z.heap.size z w'
def OwL {α:Type} (cell:α → Value) (lo g n c:Nat) (w:World) (L:List α):Prop:=L.length=n ∧ w.ownsRow lo 100 1 (.slice (some ⟨g,0,none⟩) n c) n (L.flatMap fun x=>[cell x])
section
variable {α:Type} {cell:α → Value} {lo g n c:Nat} {w w':World} {L:List α}
theorem flat_setC:∀ (xs:List α) (j:Nat) (y:α),(xs.flatMap fun x=>[cell x]).set j (cell y)=(xs.set j y).flatMap fun x=>[cell x]
 | [],j,y=>by simp
 | x :: xs,0,y=>by simp
 | x :: xs,j + 1,y=>by
   have ih:=flat_setC xs j y
   simpa using ih
theorem OwL.at_ (h:OwL cell lo g n c w L) {i:Nat} {x:α} (hx:L[i]? = some x):w.cell? ⟨g,i,none⟩=some (cell x):=by
 have hl:=h.1
 have hi:=(List.getElem?_eq_some_iff.1 hx).1
 have h2:Ow lo 100 1 (fun x=>[cell x]) w (.slice (some ⟨g,0,none⟩) n c) L:=by unfold Ow;rw [hl];exact h.2
 obtain ⟨g',he,_,_,_,_,_,hc⟩   := h2.head (sz:=1) (enc:=fun x=>[cell x]) (fun _=>rfl) (Nat.lt_of_le_of_lt (Nat.zero_le _) hi)
 cases he
 have:=flat_get 1 (fun x=>[cell x]) (fun _=>rfl) L i x 0 _ hx rfl
 rw [Nat.mul_one,Nat.add_zero] at this
 exact hc i _ this
theorem OwL.frozen (h:OwL cell lo g n c w L) (j:Nat):w.frozen? ⟨g,j,none⟩=false:=h.2.frozenAt j
theorem OwL.put (h:OwL cell lo g n c w L) (j:Nat) (y:α):OwL cell lo g n c (w.setCell ⟨g,j,none⟩ (cell y)) (L.set j y):=by
 refine ⟨by rw [List.length_set];exact h.1,?_⟩
 have h1:=(World.ownsRow.stored h.2 j (cell y)).1
 rwa [flat_setC] at h1
theorem OwL.on (h:OwL cell lo g n c w L) (hb:Below w.heap.size w w'):OwL cell lo g n c w' L:=by
 have hl:=h.1
 have h2:Ow lo 100 1 (fun x=>[cell x]) w (.slice (some ⟨g,0,none⟩) n c) L:=by unfold Ow;rw [hl];exact h.2
 have h3:=h2.on hb
 unfold Ow at h3
 rw [hl] at h3
 exact ⟨hl,h3⟩
theorem OwL.lt (h:OwL cell lo g n c w L):g < w.heap.size:=by
 have hl:=h.1
 have h2:Ow lo 100 1 (fun x=>[cell x]) w (.slice (some ⟨g,0,none⟩) n c) L:=by unfold Ow;rw [hl];exact h.2
 exact (h2.ty g rfl).2.1
end

def svCell {α:Type} (sv:α → SV) (x:α):Value:=.slice (sv x).A (sv x).n (sv x).c
theorem down_done {α:Type} {cmp:α → α → Int} {S:α → Prop} (C:Cm cmp S) {xs p:List α} {x:α} {i j:Nat} (hS:∀ r ∈ xs,S r) (hx:xs[i]? = some x) (hp:gSort cmp (xs.take i)=p) (hj:j ≤ p.length)
 (h1:∀ (k:Nat) (y:α),j ≤ k → p[k]? = some y → cmp x y < 0) (h2:∀ y,0 < j → p[j - 1]? = some y → ¬ cmp x y < 0):Down p x (xs.drop (i + 1)) j=gSort cmp (xs.take (i + 1)) ++ xs.drop (i + 1):=by
 have hSt:∀ r ∈ xs.take i,S r:=fun r hr=>hS r (List.mem_of_mem_take hr)
 have ho:=gSort_ord C hSt
 have hm:∀ r ∈ gSort cmp (xs.take i),S r:=fun r hr=>hSt r ((gSort_perm C hSt).mem_iff.1 hr)
 have ht:xs.take (i + 1)=xs.take i ++ [x]:=by rw [List.take_add_one,hx];rfl
 rw [ht,gSort_snoc]
 rw [hp] at ho hm ⊢
 rw [gIns_at C (hS x (List.mem_of_getElem? hx)) hm ho hj h1 h2]
 unfold Down
 simp
set_option maxRecDepth 20000 in
set_option maxHeartbeats 2000000 in
theorem insSort_ok {α:Type} (sv:α → SV) (cmp:α → α → Int) (S:α → Prop) (C:Cm cmp S) (lo g c:Nat) (xs:List α) (v:Value) (w:World) (hn:xs.length ≤ 1048576) (hS:∀ x ∈ xs,S x)
 (hv:IsCmpG (svCell sv) cmp S w (.slice (some ⟨g,0,none⟩) xs.length c) v) (h:OwL (svCell sv) lo g xs.length c w xs) :
 Calls Tryz.prog 140 #[.slice (some ⟨g,0,none⟩) xs.length c,.int .i64 0,.int .i64 xs.length,v] w fun e w'=>e=.returned (.tuple #[]) ∧ OwL (svCell sv) lo g xs.length c w' (gSort cmp xs) ∧ Only (fun i=>i=g) w w':=by
 obtain ⟨f,cap,rfl,hf,hcall⟩:=hv
 have Hcall:=Lib.hid hcall
 have HH:=Lib.hid h
 have HS:=Lib.hid hS
 have hcf:=fun args=>hf args
 clear hcall h hS hf
 go_enter Tryz.func140,Tryz.ntmps140
 go_wp2
 go_loopg [8] (xs.length - 1) (fun gg v8 wr=>∃ i:Nat,1 ≤ i ∧ gg=xs.length - i ∧ v8=.int .i64 i ∧ OwL (svCell sv) lo g xs.length c wr (gSort cmp (xs.take i) ++ xs.drop i) ∧ Only (fun i=>i=g) w wr)
 case atStart=>
  refine ⟨1,by omega,rfl,rfl,?_,Only.refl _⟩
  ·have:gSort cmp (xs.take 1) ++ xs.drop 1=xs:=by
    cases xs with
    | nil=>rfl
    | cons x xs=>simp [gSort,gIns]
   rw [this];exact HH.out
 case round=>
  obtain ⟨i,hi1,rfl,rfl,how,hon⟩:=hrel
  have HW:=Lib.hid (And.intro how hon)
  clear how hon
  by_cases hlt:i < xs.length
  ·have hx:=Lib.hid (List.getElem?_eq_getElem hlt)
   have hxS:=Lib.hid (HS.out _ (List.getElem_mem hlt))
   generalize xs[i]=x at *
   obtain ⟨p,hp⟩:∃ p,gSort cmp (xs.take i)=p:=⟨_,rfl⟩
   have hpl:p.length=i:=by rw [← hp,gSort_length,List.length_take];omega
   have hSt:∀ r ∈ xs.take i,S r:=fun r hr=>HS.out r (List.mem_of_mem_take hr)
   have HP:=Lib.hid (And.intro hp (And.intro hpl (And.intro (gSort_ord C hSt) (fun r (hr:r ∈ gSort cmp (xs.take i))=>hSt r ((gSort_perm C hSt).mem_iff.1 hr)))))
   clear hp hpl hSt
   go_wp2
   go_loopg [9] i (fun j v9 wq=>j ≤ i ∧ v9=.int .i64 j ∧ OwL (svCell sv) lo g xs.length c wq (Down p x (xs.drop (i + 1)) j) ∧ Only (fun i=>i=g) w wq ∧ ∀ (k:Nat) (y:α),j ≤ k → p[k]? = some y → cmp x y < 0)
   case atStart=>
    refine ⟨Nat.le_refl _,rfl,?_,HW.out.2,fun k y hk hy=>?_⟩
    ·have h1:=HW.out.1
     rw [HP.out.1,Down.start hx.out HP.out.2.1] at h1
     exact h1
    ·have:=(List.getElem?_eq_some_iff.1 hy).1
     have:=HP.out.2.1
     omega
   case round=>
    obtain ⟨hji,rfl,how,hon,hpr⟩:=hrel
    obtain ⟨j,hgj⟩:∃ j,j=gk:=⟨_,rfl⟩
    subst hgj
    have HQ:=Lib.hid (And.intro how (And.intro hon hpr))
    clear hpr
    by_cases h0:j=0
    ·subst h0
     go_wp2
     go_quiet (fail)
     go_wp2
     go_roundg (xs.length - (i + 1))
     case measure=>omega
     case rel=>
      refine ⟨i + 1,by omega,by omega,by go_num,?_,HQ.out.2.1.below (bdrewN (Below.refl _ _) _)⟩
      rw [← down_done C HS.out hx.out HP.out.1 (Nat.zero_le _) HQ.out.2.2 (fun y h=>absurd h (by omega))]
      exact HQ.out.1.on (bdrewN (Below.refl _ _) _)
    ·have hj1:j - 1 < p.length:=by have:=HP.out.2.1;omega
     have hy:=Lib.hid (List.getElem?_eq_getElem hj1)
     have hyS:=Lib.hid (show S p[j - 1] from by have:=HP.out.2.2.2 p[j - 1] (by rw [HP.out.1];exact List.getElem_mem hj1);exact this)
     generalize p[j - 1]=y at *
     have ax:wr.cell? ⟨g,j,none⟩=some (.slice (sv x).A (sv x).n (sv x).c):=HQ.out.1.at_ (Down.at_x (by have:=HP.out.2.1;omega))
     have ay:wr.cell? ⟨g,j - 1,none⟩=some (.slice (sv y).A (sv y).n (sv y).c):=HQ.out.1.at_ (by
      have h1:=Down.at_y (p:=p) (x:=x) (rest:=xs.drop (i + 1)) (j:=j - 1) (by omega)
      rw [show j - 1 + 1=j by omega] at h1
      rw [h1];exact hy.out)
     have hgl:=HQ.out.1.lt
     have d1:=fun z:Aft wr.heap.size wr=>z.cell hgl ax
     have d2:=fun z:Aft wr.heap.size wr=>z.cell hgl ay
     obtain ⟨R,hR⟩:∃ R,cmp x y=R:=⟨_,rfl⟩
     have HK:=Lib.hid (fun z:Aft wr.heap.size wr=>show Calls Tryz.prog f (#[.slice (sv x).A (sv x).n (sv x).c,.slice (sv y).A (sv y).n (sv y).c] ++ cap) z.v (fun e w'=>e=.returned (.int .i64 (cmp x y)) ∧ Below z.v.heap.size z.v w') from Hcall.out z.v ((HQ.out.2.1.below z.h).mono (fun i _ hi=>by subst hi;rfl)) x y hxS.out hyS.out)
     rw [hR] at HK
     have HRR:=Lib.hid hR
     have i1:IntKind.i64.wrap ((j:Int) - 1)=(j:Int) - 1:=IntWalk.i64_in _ (by omega)
     have i2:((j:Int) - 1).toNat=j - 1:=by omega
     have i3:(0:Int) ≤ (j:Int) - 1:=by omega
     have i4:(j:Int) - 1 < (xs.length:Int):=by omega
     have i5:(0:Int) < (j:Int):=by omega
     have i7:0 < j:=by omega
     have i8:decide ((0:Int) < (j:Int))=true:=decide_eq_true i5
     have i9:decide (0 < j)=true:=decide_eq_true i7
     have i6:(j:Int) < (xs.length:Int):=by omega
     clear hR ax ay how
     by_cases hneg:R < 0
     ·go_wp2
      refine wp_region_aft wr.heap.size (by kernel_rfl) (by kernel_rfl) ?_
      repeat (go_big_quiet_step ((exact Calls.aft (Nat.le_refl _) (HK.out _))))
      refine wpQuiet_nil ?_
      intro w1 hw'
      obtain ⟨⟨_,hb1⟩,rfl⟩:=hw'
      have HO1:=Lib.hid (HQ.out.1.on hb1)
      have ax:w1.cell? ⟨g,j,none⟩=some (.slice (sv x).A (sv x).n (sv x).c):=HO1.out.at_ (Down.at_x (by have:=HP.out.2.1;omega))
      have ay:w1.cell? ⟨g,j - 1,none⟩=some (.slice (sv y).A (sv y).n (sv y).c):=HO1.out.at_ (by
       have h1:=Down.at_y (p:=p) (x:=x) (rest:=xs.drop (i + 1)) (j:=j - 1) (by omega)
       rw [show j - 1 + 1=j by omega] at h1
       rw [h1];exact hy.out)
      have f1:=HO1.out.frozen j
      have f2:=HO1.out.frozen (j - 1)
      have HB1:=Lib.hid (HQ.out.2.1.below hb1)
      have hne:¬ (j=j - 1):=by omega
      have hne':¬ (j - 1=j):=by omega
      clear hb1 d1 d2
      go_wp2
      go_region
      all_goals
       go_wp2
       go_roundg (j - 1)
       case measure=>omega
       case rel=>
        have hsw:=Down.swap (p:=p) (rest:=xs.drop (i + 1)) (x:=x) (y:=y) (j:=j - 1) hy.out
        rw [show j - 1 + 1=j by omega] at hsw
        have h1:=((HO1.out.put j y).put (j - 1) x).on (Below.refl _ _).drew
        rw [hsw] at h1
        refine ⟨by omega,congrArg (Value.int IntKind.i64) (by omega),h1,((HB1.out.set (p:=⟨g,j,none⟩) (.inl rfl) _).set (p:=⟨g,j - 1,none⟩) (.inl rfl) _).drew,fun k z hk hz=>?_⟩
        rcases Nat.lt_or_ge k j with h3 | h3
        ·obtain rfl:k=j - 1:=by omega
         rw [hy.out] at hz;cases hz
         rw [HRR.out];exact hneg
        ·exact HQ.out.2.2 k z h3 hz
     ·go_wp2
      refine wp_region_aft wr.heap.size (by kernel_rfl) (by kernel_rfl) ?_
      repeat (go_big_quiet_step ((exact Calls.aft (Nat.le_refl _) (HK.out _))))
      refine wpQuiet_nil ?_
      intro w1 hw'
      obtain ⟨⟨_,hb1⟩,rfl⟩:=hw'
      go_wp2
      go_roundg (xs.length - (i + 1))
      case measure=>omega
      case rel=>
       refine ⟨i + 1,by omega,by omega,by go_num,?_,HQ.out.2.1.below hb1⟩
       rw [← down_done C HS.out hx.out HP.out.1 (j:=j) (by have:=HP.out.2.1;omega) HQ.out.2.2 (fun z _ hz=>by rw [hy.out] at hz;cases hz;rw [HRR.out];omega)]
       exact HQ.out.1.on hb1
  ·go_wp2
   go_end0
   have hi:xs.length ≤ i:=by omega
   refine ⟨rfl,?_,HW.out.2⟩
   have h1:=HW.out.1
   rwa [List.take_of_length_le hi,List.drop_eq_nil_of_le hi,List.append_nil] at h1

end Go.Proofs.YtcbfbgngkdiijaaGreat
