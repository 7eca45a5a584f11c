import Derived.Test.YtcbfbgngkdiijaaGreatProg
import Derived.Test.YtcbfbgngkdiijaaGreatZvGeg
import Derived.Test.YtcbfbgngkdiijaaGreatZvPls
import Derived.Test.YtcbfbgngkdiijaaGreatZvVal
namespace Go.Proofs.YtcbfbgngkdiijaaGreat
open Go.RowKit Go.Qo
set_option linter.unusedVariables false
set_option linter.unusedSimpArgs false

mutual
def exCnt:Ex → Nat
 | .mk _ _ _ ks=>ks.length + exKids ks
def exKids:List Ex → Nat
 | []=>0
 | x :: xs=>exCnt x + exKids xs
end
theorem exCnt_eq (x:Ex):exCnt x=x.kids.length + exKids x.kids:=by
 obtain ⟨k,c,v,ks⟩:=x
 rw [exCnt]
 rfl
theorem exKids_append:∀ (a b:List Ex),exKids (a ++ b)=exKids a + exKids b
 | [],b=>by simp [exKids]
 | x :: a,b=>by rw [List.cons_append,exKids,exKids,exKids_append a b];omega
theorem exKids_take {ks:List Ex} {i:Nat} (h:i < ks.length):exKids (ks.take (i + 1))=exKids (ks.take i) + exCnt ks[i]:=by
 rw [List.take_succ_eq_append_getElem h,exKids_append]
 simp [exKids]
theorem exKids_le {ks:List Ex} (i:Nat):exKids (ks.take i) ≤ exKids ks:=by
 have:exKids ks=exKids (ks.take i) + exKids (ks.drop i):=by rw [← exKids_append,List.take_append_drop]
 omega
theorem exCnt_mem {ks:List Ex} {x:Ex} (h:x ∈ ks):exCnt x ≤ exKids ks:=by
 obtain ⟨i,hi,rfl⟩:=List.getElem_of_mem h
 have h1:=exKids_take hi
 have h2:=exKids_le (ks:=ks) (i + 1)
 omega
theorem exB_of_cnt:∀ x:Ex,exCnt x ≤ 1048576 → ExB x:=Ex.ind fun x ih h=>by
 rw [exCnt_eq] at h
 exact .mk (by omega) fun y hy=>ih y hy (by have:=exCnt_mem hy;omega)
def szR (left:Int) (n:Nat):Int:=if (n:Int) ≤ left then left - n else -1
theorem szR_yes {left:Int} {n:Nat} (h:(n:Int) ≤ left):szR left n=left - n:=by unfold szR;rw [if_pos h]
theorem szR_no {left:Int} {n:Nat} (h:¬ (n:Int) ≤ left):szR left n=-1:=by unfold szR;rw [if_neg h]

def SzE (x:Ex):Prop:=∀ (f:FE) (left:Int) (w:World),ExIn w w.heap.size f x → 0 ≤ left → left ≤ 1048576 →
 Calls Tryz.prog 42 #[feV f,.int .i64 left] w fun e w'=>e=.returned (.int .i64 (szR left (exCnt x))) ∧ Below w.heap.size w w'

set_option maxRecDepth 20000 in
set_option maxHeartbeats 2000000 in
theorem szExprS_of (es:List Ex) (he:∀ x ∈ es,SzE x) (A:Option Addr) (c:Nat) (left:Int) (w:World) (hn:es.length ≤ maxLen) (h:ExsIn w w.heap.size A es) (h0:0 ≤ left) (h1:left ≤ 1048576) :
 Calls Tryz.prog 20 #[.slice A es.length c,.int .i64 left] w fun e w'=>e=.returned (.int .i64 (szR left (es.length + exKids es))) ∧ Below w.heap.size w w':=by
 unfold maxLen at hn
 have HE:=Lib.hid he
 have HH:=Lib.hid h
 clear he h
 by_cases hl:left - es.length < 0
 ·have HR:=Lib.hid (szR_no (left:=left) (n:=es.length + exKids es) (by omega))
  go_enter Tryz.func20,Tryz.ntmps20
  go_wp2
  go_ret
  exact ⟨by rw [HR.out];rfl,Below.refl _ _⟩
 ·obtain ⟨l0,hl0⟩:∃ l0:Int,left - es.length=l0:=⟨_,rfl⟩
  have Hl0:=Lib.hid hl0
  rw [hl0] at hl
  have hw:IntKind.i64.wrap (left - es.length)=l0:=by rw [hl0];exact IntWalk.i64_in _ (by omega)
  clear hl0
  go_enter Tryz.func20,Tryz.ntmps20
  go_wp2
  go_loopg [1,5] es.length (fun g lv iv wr=>∃ i:Nat,i ≤ es.length ∧ g=es.length - i ∧ iv=.int .i64 i ∧ ((exKids (es.take i):Nat):Int) ≤ l0 ∧ lv=.int .i64 (l0 - exKids (es.take i)) ∧ Below w.heap.size w wr)
  case atStart=>exact ⟨0,by omega,by omega,rfl,by simp [exKids];omega,by simp [exKids],Below.refl _ _⟩
  case round=>
   obtain ⟨i,hi,rfl,rfl,hle,rfl,hb⟩:=hrel
   have HB:=Lib.hid hb
   clear hb
   by_cases hlt:i < es.length
   ·obtain ⟨b1,o1,f,hA,hB1,⟨d0,d1,d2,d3,d4⟩,hf⟩:=(HH.out.on HB.out).at_ hlt
    subst hA
    obtain ⟨m,hm⟩:∃ m,exKids (es.take i)=m:=⟨_,rfl⟩
    obtain ⟨k,hk⟩:∃ k,exCnt es[i]=k:=⟨_,rfl⟩
    have hkt:=exKids_take hlt
    have hke:=exKids_le (ks:=es) (i + 1)
    rw [hm] at hle hkt ⊢
    rw [hk] at hkt
    have hX:=HE.out _ (List.getElem_mem hlt) f (l0 - m) wr hf (by omega) (by have:=Hl0.out;omega)
    rw [hk] at hX
    unfold feV at hX
    have HX:=Lib.hid hX
    have HN:=Lib.hid (And.intro hkt hke)
    have hil:(i:Int) < (es.length:Int):=by omega
    clear hf hX hkt hke hm hk
    by_cases hs:(k:Int) ≤ l0 - m
    ·rw [szR_yes hs] at HX
     have hnn:¬ l0 - m - k < 0:=by omega
     go_wp2_with fail
     refine HX.out.mono ?_
     rintro e w2 ⟨rfl,hb2⟩
     go_wp2
     go_roundg (es.length - (i + 1))
     case measure=>omega
     case rel=>exact ⟨i + 1,by omega,rfl,by go_num,by rw [HN.out.1];omega,by rw [HN.out.1];congr 1;omega,bch HB.out hb2⟩
    ·rw [szR_no hs] at HX
     have HR:=Lib.hid (szR_no (left:=left) (n:=es.length + exKids es) (by have:=HN.out;have:=Hl0.out;omega))
     go_wp2_with fail
     refine HX.out.mono ?_
     rintro e w2 ⟨rfl,hb2⟩
     go_wp2
     go_ret
     exact ⟨by rw [HR.out];rfl,bch HB.out hb2⟩
   ·have hfin:es.take i=es:=List.take_of_length_le (by omega)
    rw [hfin] at hle ⊢
    have HR:=Lib.hid (szR_yes (left:=left) (n:=es.length + exKids es) (by have:=Hl0.out;omega))
    obtain ⟨r,hr⟩:∃ r,l0 - (exKids es:Int)=r:=⟨_,rfl⟩
    have Hr:=Lib.hid hr
    rw [hr]
    clear hr hfin
    go_wp2
    go_ret
    exact ⟨by rw [HR.out];exact ret_int (by have:=Hr.out;have:=Hl0.out;omega),HB.out⟩

set_option maxRecDepth 20000 in
set_option maxHeartbeats 2000000 in
theorem szExpr_ok:∀ x:Ex,SzE x:=Ex.ind fun x ih f left w h h0 h1=>by
 obtain ⟨a1,a2,a3,a4,a5,a6⟩:=h.flat
 obtain ⟨W1,hW1⟩:∃ z,w.alloc (.cells #[.int .i64 f.kind,.int .i64 f.col,.bool f.val.1,.int .i64 f.val.2,.slice f.sv.A x.kids.length f.sv.c] 78)=z:=⟨_,rfl⟩
 have B1:Below w.heap.size w W1:=by rw [← hW1];exact balloc (Below.refl _ _) _
 have r1:Row W1 w.heap.size 78 [.int .i64 f.kind,.int .i64 f.col,.bool f.val.1,.int .i64 f.val.2,.slice f.sv.A x.kids.length f.sv.c]:=by rw [← hW1];exact Row.new _ _ _
 have hX:=szExprS_of x.kids ih f.sv.A f.sv.c left W1 (by omega) (h.kids_in.on B1) h0 h1
 rw [← exCnt_eq] at hX
 obtain ⟨r,hr⟩:∃ r,szR left (exCnt x)=r:=⟨_,rfl⟩
 rw [hr] at hX ⊢
 have HX:=Lib.hid hX
 have HB1:=Lib.hid B1
 have HW1:=Lib.hid hW1
 have hrr:0 ≤ r ∨ r=-1:=by
  rw [← hr]
  unfold szR
  split
  ·omega
  ·omega
 have c4:W1.cell? ⟨w.heap.size,4,none⟩=some (.slice f.sv.A x.kids.length f.sv.c):=r1.cell 4
 unfold feV
 rw [a4]
 clear h ih a1 a2 a3 a4 a5 a6 B1 r1 hW1 hX hr
 rcases hrr with hr0 | rfl
 ·have hr1:¬ r < 0:=by omega
  go_enter Tryz.func42,Tryz.ntmps42
  go_upto_region 1 with fail
  rw [HW1.out]
  go_wp2_with fail
  refine HX.out.mono ?_
  rintro e w2 ⟨rfl,hb2⟩
  go_wp2
  go_ret
  exact ⟨rfl,bch HB1.out hb2⟩
 ·go_enter Tryz.func42,Tryz.ntmps42
  go_upto_region 1 with fail
  rw [HW1.out]
  go_wp2_with fail
  refine HX.out.mono ?_
  rintro e w2 ⟨rfl,hb2⟩
  go_wp2
  go_ret
  exact ⟨rfl,bch HB1.out hb2⟩
end Go.Proofs.YtcbfbgngkdiijaaGreat
