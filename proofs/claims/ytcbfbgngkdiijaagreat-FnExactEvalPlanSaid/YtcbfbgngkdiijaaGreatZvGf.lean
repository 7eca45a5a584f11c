import Derived.Test.YtcbfbgngkdiijaaGreatProg
import Derived.Test.YtcbfbgngkdiijaaGreatZvVal
import Derived.Shelf.SlSortCmp.Whole1
import Derived.Test.YtcbfbgngkdiijaaGreatZvPln
set_option linter.unusedVariables false
set_option linter.unusedSimpArgs false
namespace Go.Proofs.YtcbfbgngkdiijaaGreat
open Go.RowKit Go.Qo

abbrev Row1:=Go.Qo.Row1
def BelD (w w':World):Prop:=Below w.heap.size w w' ∧ w.drawn ≤ w'.drawn
theorem BelD.refl (w:World):BelD w w:=⟨Below.refl _ _,Nat.le_refl _⟩
theorem bdch {w a b:World} (h:BelD w a) (k:BelD a b):BelD w b:=⟨bch h.1 k.1,Nat.le_trans h.2 k.2⟩
theorem bdalloc {a w:World} (h:BelD a w) (o:Obj):BelD a (w.alloc o):=⟨balloc h.1 o,h.2⟩
theorem BelD.grow {w w':World} (h:BelD w w'):∃ q os,w'=Go.Sort.grow (w.drewN q) os:=by
 obtain ⟨⟨h1,h2,h3,h4,h5⟩,h6⟩:=h
 refine ⟨w'.drawn - w.drawn,w'.heap.extract w.heap.size w'.heap.size,?_⟩
 obtain ⟨heap',tape',drawn',os',output'⟩:=w'
 obtain ⟨heap,tape,drawn,os,output⟩:=w
 simp only at h1 h2 h3 h4 h5 h6
 subst h1;subst h2;subst h3
 simp only [Go.Sort.grow,World.drewN,World.mk.injEq,true_and,and_true]
 refine ⟨?_,by omega⟩
 apply Array.ext_getElem?
 intro i
 rw [Array.getElem?_append]
 split
 ·rename_i hi;exact h5 i hi
 ·rename_i hi
  rw [Array.getElem?_extract]
  split
  ·rw [show heap.size + (i - heap.size)=i by omega]
  ·rw [Array.getElem?_eq_none (by omega)]

set_option maxHeartbeats 400000 in
theorem implCompareD_ok (a b:Val) (w:World) :
 Calls Tryz.prog 125 #[.agg #[.bool a.1,.int .i64 a.2],.agg #[.bool b.1,.int .i64 b.2]] w fun e w'=>e=.returned (.int .i64 (pCmp a b)) ∧ BelD w w':=by
 obtain ⟨na,a⟩:=a
 obtain ⟨nb,b⟩:=b
 have c1:=Lib.hid (fun w=>cmpCompare_ok a b w)
 unfold pCmp
 cases na <;> cases nb
 ·go_enter Tryz.func125,Tryz.ntmps125
  go_wp2_with fail
  refine (c1.out _).mono ?_;rintro e w' ⟨rfl,rfl⟩
  go_wp2
  go_ret
  exact ⟨ret_int (by simp),bdalloc (bdalloc (BelD.refl _) _) _⟩
 all_goals
  go_enter Tryz.func125,Tryz.ntmps125
  go_wp2
  go_ret
  exact ⟨ret_int (by simp),bdalloc (bdalloc (BelD.refl _) _) _⟩

set_option maxHeartbeats 400000 in
theorem compareFuncD_ok (A A':Option Addr) (c c':Nat) (xs ys:List Val) (w:World) (hn:xs.length ≤ maxLen) (hn':ys.length ≤ maxLen) (h:Sl 2 valC w w.heap.size A xs) (h':Sl 2 valC w w.heap.size A' ys) :
 Calls Tryz.prog 124 #[.slice A xs.length c,.slice A' ys.length c',.func (.func 125) #[] #[]] w fun e w'=>e=.returned (.int .i64 (rpCmp xs ys)) ∧ BelD w w':=by
 unfold maxLen at hn hn'
 go_enter Tryz.func124,Tryz.ntmps124
 go_wp2
 go_loopg [13] (xs.length) (fun g i wr=>∃ k:Nat,k ≤ xs.length ∧ k ≤ ys.length ∧ g=xs.length - k ∧ i=.int .i64 k ∧ BelD w wr ∧ ∀ i x y,i < k → xs[i]? = some x → ys[i]? = some y → pCmp x y=0)
 case atStart=>exact ⟨0,by omega,by omega,by omega,rfl,BelD.refl _,agree_zero⟩
 case round=>
  obtain ⟨k,hk,hk',rfl,rfl,hb,hp⟩:=hrel
  have Hp:=Lib.hid hp
  clear hp
  by_cases hlt:k < xs.length
  ·obtain ⟨b,off,rfl,hB,c1,c2⟩:=Val.at_ (h.below hb.1) hlt
   have hx:=Lib.hid (List.getElem?_eq_getElem hlt)
   generalize xs[k]=x at *
   have hsz:=hb.1.size
   by_cases hlt':k < ys.length
   ·obtain ⟨b',off',rfl,hB',c1',c2'⟩:=Val.at_ (h'.below hb.1) hlt'
    have hy:=Lib.hid (List.getElem?_eq_getElem hlt')
    generalize ys[k]=y at *
    have c3:∀ o,(wr.alloc o).cell? ⟨b',off' + k * 2,none⟩=some (.bool y.1):=fun o=>(World.cell?_alloc_lt _ _ _ (by simp;omega)).trans c1'
    have c4:∀ o,(wr.alloc o).cell? ⟨b',off' + k * 2 + 1,none⟩=some (.int .i64 y.2):=fun o=>(World.cell?_alloc_lt _ _ _ (by simp;omega)).trans c2'
    obtain ⟨r,hr⟩:∃ r,pCmp x y=r:=⟨_,rfl⟩
    have key:=fun w=>implCompareD_ok x y w
    rw [hr] at key
    have Hk:=Lib.hid key
    have Hr:=Lib.hid hr
    clear key hr
    by_cases h0:r=0
    ·subst h0
     go_wp2_with (go_at_call 125;refine (Hk.out _).mono ?_;rintro e w1 ⟨rfl,hb1⟩)
     go_roundg (xs.length - (k + 1))
     case measure=>omega
     case rel=>exact ⟨k + 1,by omega,by omega,rfl,by go_num,bdch (bdalloc (bdalloc hb _) _) hb1,agree_succ Hp.out hx.out hy.out Hr.out⟩
    ·have hne:(r != 0)=true:=by simp [h0]
     have H0:=Lib.hid h0
     clear h0
     go_wp2_with (go_at_call 125;refine (Hk.out _).mono ?_;rintro e w1 ⟨rfl,hb1⟩)
     go_ret
     exact ⟨ret_int (by rw [rpCmp_at Hp.out hx.out hy.out (by rw [Hr.out];exact H0.out),Hr.out]),bdch (bdalloc (bdalloc hb _) _) (by assumption)⟩
   ·have hy:k=ys.length:=by omega
    subst hy
    have e:rpCmp xs ys=1:=by
     rw [rpCmp_drop xs ys ys.length (by omega) (by omega) Hp.out,List.drop_length,List.drop_eq_getElem_cons hlt];rfl
    have He:=Lib.hid e
    clear e
    go_wp2
    go_ret
    exact ⟨ret_int He.out.symm,bdalloc hb _⟩
  ·have hx:k=xs.length:=by omega
   subst hx
   have e:rpCmp xs ys=if xs.length < ys.length then -1 else 0:=by
    rw [rpCmp_drop xs ys xs.length (by omega) (by omega) Hp.out,List.drop_length]
    split
    ·rw [List.drop_eq_getElem_cons (by assumption)];rfl
    ·rw [List.drop_eq_nil_of_le (by omega)];rfl
   have He:=Lib.hid e
   clear e
   by_cases hl:xs.length < ys.length
   all_goals
    go_wp2
    go_ret
    exact ⟨ret_int (by rw [He.out];first | rw [if_pos (by omega)] | rw [if_neg (by omega)]),hb⟩

set_option maxHeartbeats 400000 in
theorem implCompareRowsD_ok (A A':Option Addr) (c c':Nat) (xs ys:List Val) (w:World) (hn:xs.length ≤ maxLen) (hn':ys.length ≤ maxLen) (h:Sl 2 valC w w.heap.size A xs) (h':Sl 2 valC w w.heap.size A' ys) :
 Calls Tryz.prog 102 #[.slice A xs.length c,.slice A' ys.length c'] w fun e w'=>e=.returned (.int .i64 (rpCmp xs ys)) ∧ BelD w w':=by
 have key:=Lib.hid (compareFuncD_ok A A' c c' xs ys w hn hn' h h')
 unfold maxLen at hn hn'
 go_enter Tryz.func102,Tryz.ntmps102
 go_wp2_with fail
 refine key.out.mono ?_;rintro e w1 ⟨rfl,hb1⟩
 go_wp2
 go_ret
 exact ⟨rfl,hb1⟩

end Go.Proofs.YtcbfbgngkdiijaaGreat

namespace Go.Proofs.YtcbfbgngkdiijaaGreat
open Go.RowKit Go.Qo

theorem Ints.at_ {w:World} {B:Nat} {A:Option Addr} {xs:List Int} (h:Sl 1 intC w B A xs) {i:Nat} (hi:i < xs.length):∃ b off,A=some ⟨b,off,none⟩ ∧ b < B ∧ w.cell? ⟨b,off + i,none⟩=some (.int .i64 xs[i]):=Sl.at1 (f:=Value.int .i64) h hi

set_option maxHeartbeats 1000000 in
theorem eqIntS_ok (A A':Option Addr) (c c':Nat) (xs ys:List Int) (w:World) (hn:xs.length ≤ maxLen) (hn':ys.length ≤ maxLen) (h:Sl 1 intC w w.heap.size A xs) (h':Sl 1 intC w w.heap.size A' ys) :
 Calls Tryz.prog 34 #[.slice A xs.length c,.slice A' ys.length c'] w fun e w'=>e=.returned (.bool (decide (xs=ys))) ∧ Below w.heap.size w w':=by
 unfold maxLen at hn hn'
 by_cases hl:xs.length=ys.length
 ·have hl':=Lib.hid hl
  have hne:((xs.length:Int) != (ys.length:Int))=false:=by simp [hl]
  clear hl
  go_enter Tryz.func34,Tryz.ntmps34
  go_wp2
  go_loopg [5] (xs.length) (fun g i wr=>∃ k:Nat,k ≤ xs.length ∧ g=xs.length - k ∧ i=.int .i64 k ∧ Below w.heap.size w wr ∧ xs.take k=ys.take k)
  case atStart=>exact ⟨0,by omega,by omega,rfl,Below.refl _ _,rfl⟩
  case round=>
   obtain ⟨k,hk,rfl,rfl,hb,hp⟩:=hrel
   have Hp:=Lib.hid hp
   clear hp
   by_cases hlt:k < xs.length
   ·have hlt':k < ys.length:=by have:=hl'.out;omega
    obtain ⟨b,off,rfl,hB,c1⟩:=Ints.at_ (h.below hb) hlt
    obtain ⟨b',off',rfl,hB',c1'⟩:=Ints.at_ (h'.below hb) hlt'
    have hx:=Lib.hid (List.getElem?_eq_getElem hlt)
    have hy:=Lib.hid (List.getElem?_eq_getElem hlt')
    generalize xs[k]=x at *
    generalize ys[k]=y at *
    by_cases hxy:x=y
    ·subst hxy
     go_wp2
     go_quiet (fail)
     go_wp2
     go_roundg (xs.length - (k + 1))
     case measure=>omega
     case rel=>exact ⟨k + 1,by omega,rfl,by go_num,bdrewN hb _,take_eq_succ Hp.out hx.out hy.out⟩
    ·have hxn:(x != y)=true:=by simp [hxy]
     have HXY:=Lib.hid hxy
     clear hxy
     go_wp2
     go_quiet (fail)
     go_wp2
     go_ret
     exact ⟨ret_bool (decide_eq_false (ne_of_at hx.out hy.out HXY.out)).symm,bdrewN hb _⟩
   ·go_wp2
    go_ret
    exact ⟨ret_bool (decide_eq_true (eq_of_take Hp.out (by omega) (by have:=hl'.out;omega))).symm,hb⟩
 ·go_enter Tryz.func34,Tryz.ntmps34
  go_wp2
  go_ret
  exact ⟨ret_bool (decide_eq_false fun he=>hl (by rw [he])).symm,Below.refl _ _⟩

end Go.Proofs.YtcbfbgngkdiijaaGreat

namespace Go.Qo
open Go.RowKit

def numV (n:Int):Val:=if -9999 ≤ n ∧ n ≤ 9999 then (false,n) else (true,0)
def lowS (a v:Val):Val:=if v.1 then a else if a.1 || decide (v.2 < a.2) then v else a
def highS (a v:Val):Val:=if v.1 then a else if a.1 || decide (a.2 < v.2) then v else a
def nnN (xs:List Val):Nat:=xs.countP (fun v=>!v.1)
def sumN (xs:List Val):Int:=(xs.map fun v=>v.2).sum
def lowN (xs:List Val):Val:=xs.foldl lowS (true,0)
def highN (xs:List Val):Val:=xs.foldl highS (true,0)
def aggF (k:Int) (xs:List Val):Val:=
 if k=1 then numV xs.length else if k=2 then numV (nnN xs) else if k=3 then (if nnN xs=0 then (true,0) else numV (sumN xs)) else if k=4 then lowN xs else highN xs
theorem vValid_range {v:Val} (h:vValid v=true):-9999 ≤ v.2 ∧ v.2 ≤ 9999:=by
 obtain ⟨a,b⟩:=v
 unfold vValid at h
 cases a <;> simp_all
theorem numV_valid (n:Int):vValid (numV n)=true:=by
 unfold numV
 split
 ·rename_i h;simp [vValid,h.1,h.2]
 ·rfl
theorem numV_in {n:Int} (h1:-9999 ≤ n) (h2:n ≤ 9999):numV n=(false,n):=by unfold numV;rw [if_pos ⟨h1,h2⟩]
@[simp] theorem nnN_nil:nnN []=0:=rfl
@[simp] theorem sumN_nil:sumN []=0:=rfl
@[simp] theorem lowN_nil:lowN []=(true,0):=rfl
@[simp] theorem highN_nil:highN []=(true,0):=rfl
theorem lowS_valid {a v:Val} (ha:vValid a=true) (hv:vValid v=true):vValid (lowS a v)=true:=by
 unfold lowS
 split
 ·exact ha
 ·split
  ·exact hv
  ·exact ha
theorem highS_valid {a v:Val} (ha:vValid a=true) (hv:vValid v=true):vValid (highS a v)=true:=by
 unfold highS
 split
 ·exact ha
 ·split
  ·exact hv
  ·exact ha
theorem foldLow_valid:∀ (xs:List Val) (a:Val),vValid a=true → (∀ v ∈ xs,vValid v=true) → vValid (xs.foldl lowS a)=true
 | [],a,ha,_=>ha
 | x :: xs,a,ha,h=>foldLow_valid xs _ (lowS_valid ha (h x (by simp))) fun v hv=>h v (by simp [hv])
theorem foldHigh_valid:∀ (xs:List Val) (a:Val),vValid a=true → (∀ v ∈ xs,vValid v=true) → vValid (xs.foldl highS a)=true
 | [],a,ha,_=>ha
 | x :: xs,a,ha,h=>foldHigh_valid xs _ (highS_valid ha (h x (by simp))) fun v hv=>h v (by simp [hv])
theorem lowN_valid {xs:List Val} (h:∀ v ∈ xs,vValid v=true):vValid (lowN xs)=true:=foldLow_valid xs _ rfl h
theorem highN_valid {xs:List Val} (h:∀ v ∈ xs,vValid v=true):vValid (highN xs)=true:=foldHigh_valid xs _ rfl h
theorem aggF_valid {k:Int} {xs:List Val} (h:∀ v ∈ xs,vValid v=true):vValid (aggF k xs)=true:=by
 unfold aggF
 split;· exact numV_valid _
 split;· exact numV_valid _
 split
 ·split;· rfl
  exact numV_valid _
 split;· exact lowN_valid h
 exact highN_valid h
end Go.Qo
