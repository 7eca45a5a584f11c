import Derived.Test.YtcbfbgngkdiijaaGreatProg
import Derived.Test.YtcbfbgngkdiijaaGreatZvSzE
namespace Go.Proofs.YtcbfbgngkdiijaaGreat
open Go.RowKit Go.Qo
set_option linter.unusedVariables false
set_option linter.unusedSimpArgs false

def PlsIn (w:World) (B:Nat) (A:Option Addr) (ps:List Pl):Prop:=
 ∃ fs:List FP,fs.length=ps.length ∧ Sl 5 fpC w B A fs ∧ ∀ (i:Nat) (g:FP) (x:Pl),fs[i]? = some g → ps[i]? = some x → PlIn w B g x
theorem PlsIn.on {w w':World} {A:Option Addr} {ps:List Pl} (h:PlsIn w w.heap.size A ps) (hb:Below w.heap.size w w'):PlsIn w' w'.heap.size A ps:=by
 obtain ⟨fs,h1,h2,h3⟩:=h
 exact ⟨fs,h1,h2.on hb,fun i g x hg hx=>(h3 i g x hg hx).on hb⟩
theorem PlsIn.at_ {w:World} {B:Nat} {A:Option Addr} {ps:List Pl} (h:PlsIn w B A ps) {i:Nat} (hi:i < ps.length):∃ b o g,A=some ⟨b,o,none⟩ ∧ b < B ∧ FpAt w b (o + i * 5) g ∧ PlIn w B g ps[i]:=by
 obtain ⟨fs,h1,h2,h3⟩:=h
 have hi':i < fs.length:=by omega
 obtain ⟨b,o,hA,hB,hc⟩:=h2 (by omega)
 have hx:=List.getElem?_eq_getElem hi'
 exact ⟨b,o,fs[i],hA,hB,⟨hc i _ hx 0 _ rfl,hc i _ hx 1 _ rfl,hc i _ hx 2 _ rfl,hc i _ hx 3 _ rfl,hc i _ hx 4 _ rfl⟩,h3 i _ _ hx (List.getElem?_eq_getElem hi)⟩
theorem plKids_in {w:World} {B:Nat} {f:FP} {p:Pl} (h:PlIn w B f p):PlsIn w B f.ks.A p.kids:=by
 obtain ⟨n,h⟩:=h
 cases n with
 | zero=>exact h.elim
 | succ n=>
   obtain ⟨_,_,_,_,_,_,_,fs,h7,h8,h9⟩:=h
   exact ⟨fs,h7,h8,fun i g x hg hx=>⟨n,h9 i g x hg hx⟩⟩
mutual
def plCnt:Pl → Nat
 | .mk _ _ es cs ks=>(es.length + exKids es) + (cs.length + (ks.length + plKids ks))
def plKids:List Pl → Nat
 | []=>0
 | x :: xs=>plCnt x + plKids xs
end
theorem plCnt_eq (p:Pl):plCnt p=(p.exprs.length + exKids p.exprs) + (p.cols.length + (p.kids.length + plKids p.kids)):=by
 obtain ⟨k,t,es,cs,ks⟩:=p
 rw [plCnt]
 rfl
theorem plKids_append:∀ (a b:List Pl),plKids (a ++ b)=plKids a + plKids b
 | [],b=>by simp [plKids]
 | x :: a,b=>by rw [List.cons_append,plKids,plKids,plKids_append a b];omega
theorem plKids_take {ks:List Pl} {i:Nat} (h:i < ks.length):plKids (ks.take (i + 1))=plKids (ks.take i) + plCnt ks[i]:=by
 rw [List.take_succ_eq_append_getElem h,plKids_append]
 simp [plKids]
theorem plKids_le {ks:List Pl} (i:Nat):plKids (ks.take i) ≤ plKids ks:=by
 have:plKids ks=plKids (ks.take i) + plKids (ks.drop i):=by rw [← plKids_append,List.take_append_drop]
 omega
theorem plCnt_mem {ks:List Pl} {x:Pl} (h:x ∈ ks):plCnt x ≤ plKids ks:=by
 obtain ⟨i,hi,rfl⟩:=List.getElem_of_mem h
 have h1:=plKids_take hi
 have h2:=plKids_le (ks:=ks) (i + 1)
 omega
theorem plB_of_cnt:∀ p:Pl,plCnt p ≤ 1048576 → PlB p:=Pl.ind fun p ih h=>by
 rw [plCnt_eq] at h
 exact .mk (by omega) (by omega) (by omega) (fun x hx=>exB_of_cnt x (by have:=exCnt_mem hx;omega)) fun y hy=>ih y hy (by have:=plCnt_mem hy;omega)

set_option maxHeartbeats 400000 in
theorem szIntS_ok (A:Option Addr) (n c:Nat) (left:Int) (w:World) (hn:n ≤ maxLen) (h0:0 ≤ left) (h1:left ≤ 1048576) :
 Calls Tryz.prog 21 #[.slice A n c,.int .i64 left] w fun e w'=>e=.returned (.int .i64 (szR left n)) ∧ w=w':=by
 unfold maxLen at hn
 by_cases h:left - n < 0
 ·have HR:=Lib.hid (szR_no (left:=left) (n:=n) (by omega))
  go_enter Tryz.func21,Tryz.ntmps21
  go_wp2
  go_ret
  exact ⟨by rw [HR.out];rfl,rfl⟩
 ·have HR:=Lib.hid (szR_yes (left:=left) (n:=n) (by omega))
  go_enter Tryz.func21,Tryz.ntmps21
  go_wp2
  go_ret
  exact ⟨by rw [HR.out];exact ret_int (by simp;try omega),rfl⟩

def SzP (p:Pl):Prop:=∀ (f:FP) (left:Int) (w:World),PlIn w w.heap.size f p → 0 ≤ left → left ≤ 1048576 →
 Calls Tryz.prog 5 #[fpV f,.int .i64 left] w fun e w'=>e=.returned (.int .i64 (szR left (plCnt p))) ∧ Below w.heap.size w w'

set_option maxRecDepth 20000 in
set_option maxHeartbeats 2000000 in
theorem szPlanS_of (es:List Pl) (he:∀ x ∈ es,SzP x) (A:Option Addr) (c:Nat) (left:Int) (w:World) (hn:es.length ≤ maxLen) (h:PlsIn w w.heap.size A es) (h0:0 ≤ left) (h1:left ≤ 1048576) :
 Calls Tryz.prog 22 #[.slice A es.length c,.int .i64 left] w fun e w'=>e=.returned (.int .i64 (szR left (es.length + plKids es))) ∧ Below w.heap.size w w':=by
 unfold maxLen at hn
 have HE:=Lib.hid he
 have HH:=Lib.hid h
 clear he h
 by_cases hl:left - es.length < 0
 ·have HR:=Lib.hid (szR_no (left:=left) (n:=es.length + plKids es) (by omega))
  go_enter Tryz.func22,Tryz.ntmps22
  go_wp2
  go_ret
  exact ⟨by rw [HR.out];rfl,Below.refl _ _⟩
 ·obtain ⟨l0,hl0⟩:∃ l0:Int,left - es.length=l0:=⟨_,rfl⟩
  have Hl0:=Lib.hid hl0
  rw [hl0] at hl
  have hw:IntKind.i64.wrap (left - es.length)=l0:=by rw [hl0];exact IntWalk.i64_in _ (by omega)
  clear hl0
  go_enter Tryz.func22,Tryz.ntmps22
  go_wp2
  go_loopg [1,5] es.length (fun g lv iv wr=>∃ i:Nat,i ≤ es.length ∧ g=es.length - i ∧ iv=.int .i64 i ∧ ((plKids (es.take i):Nat):Int) ≤ l0 ∧ lv=.int .i64 (l0 - plKids (es.take i)) ∧ Below w.heap.size w wr)
  case atStart=>exact ⟨0,by omega,by omega,rfl,by simp [plKids];omega,by simp [plKids],Below.refl _ _⟩
  case round=>
   obtain ⟨i,hi,rfl,rfl,hle,rfl,hb⟩:=hrel
   have HB:=Lib.hid hb
   clear hb
   by_cases hlt:i < es.length
   ·obtain ⟨b1,o1,f,hA,hB1,⟨d0,d1,d2,d3,d4⟩,hf⟩:=(HH.out.on HB.out).at_ hlt
    subst hA
    obtain ⟨m,hm⟩:∃ m,plKids (es.take i)=m:=⟨_,rfl⟩
    obtain ⟨k,hk⟩:∃ k,plCnt es[i]=k:=⟨_,rfl⟩
    have hkt:=plKids_take hlt
    have hke:=plKids_le (ks:=es) (i + 1)
    rw [hm] at hle hkt ⊢
    rw [hk] at hkt
    have hX:=HE.out _ (List.getElem_mem hlt) f (l0 - m) wr hf (by omega) (by have:=Hl0.out;omega)
    rw [hk] at hX
    unfold fpV at hX
    have HX:=Lib.hid hX
    have HN:=Lib.hid (And.intro hkt hke)
    have hil:(i:Int) < (es.length:Int):=by omega
    clear hf hX hkt hke hm hk
    by_cases hs:(k:Int) ≤ l0 - m
    ·rw [szR_yes hs] at HX
     have hnn:¬ l0 - m - k < 0:=by omega
     go_wp2_with fail
     refine HX.out.mono ?_
     rintro e w2 ⟨rfl,hb2⟩
     go_wp2
     go_roundg (es.length - (i + 1))
     case measure=>omega
     case rel=>exact ⟨i + 1,by omega,rfl,by go_num,by rw [HN.out.1];omega,by rw [HN.out.1];congr 1;omega,bch HB.out hb2⟩
    ·rw [szR_no hs] at HX
     have HR:=Lib.hid (szR_no (left:=left) (n:=es.length + plKids es) (by have:=HN.out;have:=Hl0.out;omega))
     go_wp2_with fail
     refine HX.out.mono ?_
     rintro e w2 ⟨rfl,hb2⟩
     go_wp2
     go_ret
     exact ⟨by rw [HR.out];rfl,bch HB.out hb2⟩
   ·have hfin:es.take i=es:=List.take_of_length_le (by omega)
    rw [hfin] at hle ⊢
    have HR:=Lib.hid (szR_yes (left:=left) (n:=es.length + plKids es) (by have:=Hl0.out;omega))
    obtain ⟨r,hr⟩:∃ r,l0 - (plKids es:Int)=r:=⟨_,rfl⟩
    have Hr:=Lib.hid hr
    rw [hr]
    clear hr hfin
    go_wp2
    go_ret
    exact ⟨by rw [HR.out];exact ret_int (by have:=Hr.out;have:=Hl0.out;omega),HB.out⟩

set_option maxRecDepth 20000 in
set_option maxHeartbeats 2000000 in
theorem szPlan_ok:∀ p:Pl,SzP p:=Pl.ind fun p ih f left w h h0 h1=>by
 obtain ⟨a1,a2,⟨e1,e2,e3⟩,⟨i1,i2,i3⟩,⟨j1,j2,j3⟩,hE,hC⟩:=h.flat
 obtain ⟨nc,hnc⟩:∃ n,p.cols.length=n:=⟨_,rfl⟩
 rw [hnc] at i1
 obtain ⟨W1,hW1⟩:∃ z,w.alloc (.cells #[.int .i64 f.kind,.int .i64 f.table,.slice f.es.A p.exprs.length f.es.c,.slice f.cs.A nc f.cs.c,.slice f.ks.A p.kids.length f.ks.c] 26)=z:=⟨_,rfl⟩
 have B1:Below w.heap.size w W1:=by rw [← hW1];exact balloc (Below.refl _ _) _
 have r1:Row W1 w.heap.size 26 [.int .i64 f.kind,.int .i64 f.table,.slice f.es.A p.exprs.length f.es.c,.slice f.cs.A nc f.cs.c,.slice f.ks.A p.kids.length f.ks.c]:=by rw [← hW1];exact Row.new _ _ _
 have hX:=szExprS_of p.exprs (fun x _=>szExpr_ok x) f.es.A f.es.c left W1 (by omega) (hE.on B1) h0 h1
 obtain ⟨ne,hne⟩:∃ n,p.exprs.length + exKids p.exprs=n:=⟨_,rfl⟩
 obtain ⟨nk,hnk⟩:∃ n,p.kids.length + plKids p.kids=n:=⟨_,rfl⟩
 have hcnt:=plCnt_eq p
 rw [hne,hnc,hnk] at hcnt
 rw [hne] at hX
 rw [hcnt]
 have HX:=Lib.hid hX
 have HY:=Lib.hid (fun (z:World) (l:Int) (h0:0 ≤ l) (h1:l ≤ 1048576)=>szIntS_ok f.cs.A nc f.cs.c l z (by omega) h0 h1)
 have HZ:=Lib.hid (fun (z:World) (l:Int) (h0:0 ≤ l) (h1:l ≤ 1048576) (hz:Below W1.heap.size W1 z)=>szPlanS_of p.kids ih f.ks.A f.ks.c l z (by omega) ((plKids_in h |>.on B1).on hz) h0 h1)
 rw [hnk] at HZ
 have HB1:=Lib.hid B1
 have HW1:=Lib.hid hW1
 have Hr:=Lib.hid r1
 have c2:W1.cell? ⟨w.heap.size,2,none⟩=some (.slice f.es.A p.exprs.length f.es.c):=r1.cell 2
 unfold fpV
 rw [e1,i1,j1]
 have HN:=Lib.hid hnc
 clear h ih a1 a2 e1 e2 e3 i1 i2 i3 j1 j2 j3 hE hC B1 r1 hW1 hX hne hnc hnk hcnt
 by_cases q1:(ne:Int) ≤ left
 case neg=>
  rw [szR_no q1] at HX
  have HR:=Lib.hid (szR_no (left:=left) (n:=ne + (nc + nk)) (by omega))
  go_enter Tryz.func5,Tryz.ntmps5
  go_upto_region 1 with fail
  rw [HW1.out]
  go_wp2_with fail
  refine HX.out.mono ?_
  rintro e w2 ⟨rfl,hb2⟩
  go_wp2
  go_ret
  exact ⟨by rw [HR.out];rfl,bch HB1.out hb2⟩
 rw [szR_yes q1] at HX
 obtain ⟨l1,hl1⟩:∃ l:Int,left - ne=l:=⟨_,rfl⟩
 rw [hl1] at HX
 have Hl1:=Lib.hid hl1
 have hp1:¬ l1 < 0:=by omega
 have hm1:l1 ≤ 1048576:=by omega
 clear hl1
 by_cases q2:(nc:Int) ≤ l1
 case neg=>
  have HR:=Lib.hid (szR_no (left:=left) (n:=ne + (nc + nk)) (by have:=Hl1.out;omega))
  have HY1:=Lib.hid (fun z=>HY.out z l1 (by omega) hm1)
  rw [szR_no q2] at HY1
  go_enter Tryz.func5,Tryz.ntmps5
  go_upto_region 1 with fail
  rw [HW1.out]
  go_wp2_with fail
  refine HX.out.mono ?_
  rintro e w2 ⟨rfl,hb2⟩
  have c3:=(Hr.out.on hb2).cell 3
  have HB2:=Lib.hid (bch HB1.out hb2)
  clear hb2 c2
  go_wp2_with fail
  refine (HY1.out w2).mono ?_
  rintro e w3 ⟨rfl,rfl⟩
  go_wp2
  go_ret
  exact ⟨by rw [HR.out];rfl,HB2.out⟩
 have HY1:=Lib.hid (fun z=>HY.out z l1 (by omega) hm1)
 rw [szR_yes q2] at HY1
 obtain ⟨l2,hl2⟩:∃ l:Int,l1 - nc=l:=⟨_,rfl⟩
 rw [hl2] at HY1
 have Hl2:=Lib.hid hl2
 have hp2:¬ l2 < 0:=by omega
 have hm2:l2 ≤ 1048576:=by omega
 clear hl2
 obtain ⟨r,hr⟩:∃ r,szR l2 nk=r:=⟨_,rfl⟩
 have HZ1:=Lib.hid (fun z hz=>HZ.out z l2 (by omega) hm2 hz)
 rw [hr] at HZ1
 have HR:=Lib.hid (show szR left (ne + (nc + nk))=r by
  have:=Hl1.out
  have:=Hl2.out
  rw [← hr]
  unfold szR
  by_cases q3:(nk:Int) ≤ l2
  ·rw [if_pos q3,if_pos (by omega)];omega
  ·rw [if_neg q3,if_neg (by omega)])
 have hrr:¬ r < 0 ∨ r=-1:=by
  rw [← hr]
  unfold szR
  split
  ·omega
  ·omega
 clear hr
 rcases hrr with hr0 | rfl
 all_goals
  go_enter Tryz.func5,Tryz.ntmps5
  go_upto_region 1 with fail
  rw [HW1.out]
  go_wp2_with fail
  refine HX.out.mono ?_
  rintro e w2 ⟨rfl,hb2⟩
  have c3:=(Hr.out.on hb2).cell 3
  have c4:=(Hr.out.on hb2).cell 4
  have HB2:=Lib.hid hb2
  clear hb2
  go_wp2_with fail
  refine (HY1.out w2).mono ?_
  rintro e w3 ⟨rfl,rfl⟩
  go_wp2_with fail
  refine (HZ1.out w2 HB2.out).mono ?_
  rintro e w4 ⟨rfl,hb4⟩
  go_wp2
  go_ret
  exact ⟨by rw [HR.out];rfl,bch (bch HB1.out HB2.out) hb4⟩
end Go.Proofs.YtcbfbgngkdiijaaGreat
