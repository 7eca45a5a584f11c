import Derived.Test.YtcbfbgngkdiijaaGreatProg
import Derived.Test.YtcbfbgngkdiijaaGreatZvRwt
import Derived.Test.YtcbfbgngkdiijaaGreatZvPln
import Derived.Deep.CutBlock
set_option linter.unusedVariables false
set_option linter.unusedSimpArgs false
namespace Go.Proofs.YtcbfbgngkdiijaaGreat
open Go.RowKit Go.Qo

abbrev SRw:=SV × Row1
def OwP (lo:Nat) (z:World) (p:SRw):Prop:=p.1.n=p.2.length ∧ Ow lo 85 2 valC z (.slice p.1.A p.1.n p.1.c) p.2
def svB (s:SV):Option Nat:=(Value.slice s.A s.n s.c).ownBlock
def Apart (p q:SRw):Prop:=∀ b,svB p.1=some b → svB q.1 ≠ some b
theorem Apart.symm {p q:SRw} (h:Apart p q):Apart q p:=fun b hb hc=>h b hc hb
def Cps (lo:Nat) (z:World) (cp:List SRw):Prop:=(∀ p ∈ cp,OwP lo z p) ∧ cp.Pairwise Apart
theorem Cps.nil {lo:Nat} {z:World}:Cps lo z []:=⟨fun _ h=>by simp at h,List.Pairwise.nil⟩
theorem Cps.keep {lo:Nat} {z z':World} {cp:List SRw} (h:Cps lo z cp) (hk:∀ b,lo ≤ b → b < z.heap.size → TyAt z b 85 → z'.heap[b]? = z.heap[b]?):Cps lo z' cp:=⟨fun p hp=>⟨(h.1 p hp).1,(h.1 p hp).2.keep hk⟩,h.2⟩
theorem Cps.on {lo:Nat} {z z':World} {cp:List SRw} (h:Cps lo z cp) (hb:Below z.heap.size z z'):Cps lo z' cp:=h.keep fun b _ hl _=>hb.block b hl
theorem Cps.only {lo:Nat} {z z':World} {cp:List SRw} {S:Nat → Prop} (h:Cps lo z cp) (k:Only S z z') (hS:∀ b,S b → b < lo ∨ ∃ u,u ≠ 85 ∧ TyAt z b u):Cps lo z' cp:=
 h.keep fun b h1 h2 h3=>k.block b h2 fun hs=>by
  rcases hS b hs with h4 | ⟨u,h4,h5⟩
  ·omega
  ·exact (TyAt.ne h5 h3 h4) rfl
theorem Cps.grown {lo:Nat} {z z':World} {cp:List SRw} {row:Option Nat} (h:Cps lo z cp) (hg:z.grownBy z' row) (hr:∀ b,row=some b → ∃ u,u ≠ 85 ∧ TyAt z b u):Cps lo z' cp:=
 h.keep fun b h1 h2 h3=>hg.block b h2 fun e=>by
  obtain ⟨u,h4,h5⟩:=hr b e.symm
  exact (TyAt.ne h5 h3 h4) rfl
theorem Cps.low {lo lo':Nat} {z:World} {cp:List SRw} (h:Cps lo z cp) (hl:lo' ≤ lo):Cps lo' z cp:=⟨fun p hp=>⟨(h.1 p hp).1,(h.1 p hp).2.low hl⟩,h.2⟩
theorem OwP.slT {lo:Nat} {z:World} {p:SRw} (h:OwP lo z p):p.2.length ≤ p.1.c ∧ p.1.c ≤ maxLen ∧ SlT 85 2 valC lo z p.1.A p.2:=by
 obtain ⟨A,c,e,h1,h2,h3⟩:=h.2.shape valC_length
 injection e with e1 e2 e3
 rw [e1,e3]
 exact ⟨h1,h2,h3⟩
theorem Cps.rows {lo:Nat} {z:World} {cp:List SRw} (h:Cps lo z cp):RowsT 85 2 valC lo z (cp.map (·.1)) (cp.map (·.2)):=by
 refine ⟨by simp,fun i s xs h1 h2=>?_⟩
 rw [List.getElem?_map] at h1 h2
 cases hp:cp[i]? with
 | none=>rw [hp] at h1;cases h1
 | some p=>
   rw [hp] at h1 h2
   cases h1;cases h2
   have:=h.1 p (List.mem_of_getElem? hp)
   exact ⟨this.1,this.slT⟩
theorem Cps.perm {lo:Nat} {z:World} {cp qs:List SRw} (h:Cps lo z cp) (hp:qs.Perm cp):Cps lo z qs:=⟨fun p hq=>h.1 p (hp.mem_iff.1 hq),(hp.pairwise_iff Apart.symm).2 h.2⟩
theorem Cps.snoc {lo:Nat} {z0 z:World} {cp:List SRw} {p:SRw} (h0:Cps lo z0 cp) (h:Cps lo z cp) (hl:lo ≤ z0.heap.size) (hp:OwP z0.heap.size z p):Cps lo z (cp ++ [p]):=by
 refine ⟨fun q hq=>?_,?_⟩
 ·rcases List.mem_append.1 hq with h1 | h1
  ·exact h.1 q h1
  ·simp only [List.mem_singleton] at h1
   subst h1
   exact ⟨hp.1,hp.2.low hl⟩
 ·rw [List.pairwise_append]
  refine ⟨h.2,List.pairwise_singleton _ _,fun a ha b hb=>?_⟩
  simp only [List.mem_singleton] at hb
  subst hb
  intro k h1 h2
  have h3:=((h0.1 a ha).2.ty k h1).2.1
  have h4:=(hp.2.ty k h2).1
  omega
end Go.Proofs.YtcbfbgngkdiijaaGreat

namespace Go.Proofs.YtcbfbgngkdiijaaGreat
open Go.RowKit Go.Qo

def trS (v:Val):Int:=if v.1=true then 2 else if v.2=0 then 0 else 1
theorem trS_range (v:Val):trS v=0 ∨ trS v=1 ∨ trS v=2:=by
 unfold trS
 split
 ·exact .inr (.inr rfl)
 ·split
  ·exact .inl rfl
  ·exact .inr (.inl rfl)
def andT (a b:Int):Int:=if a=0 ∨ b=0 then 0 else if a=1 ∧ b=1 then 1 else 2
def notT (a:Int):Int:=if a=2 then 2 else 1 - a
def ofT (a:Int):Val:=if a=2 then (true,0) else (false,a)

set_option maxHeartbeats 1000000 in
theorem specTruth_ok (v:Val) (w:World):Calls Tryz.prog 95 #[.agg #[.bool v.1,.int .i64 v.2]] w fun e w'=>e=.returned (.int .i64 (trS v)) ∧ Below w.heap.size w w':=by
 obtain ⟨nl,n⟩:=v
 obtain ⟨W1,hW1⟩:∃ z,w.alloc (.cells #[.bool nl,.int .i64 n] 85)=z:=⟨_,rfl⟩
 have B1:Below w.heap.size w W1:=by rw [← hW1];exact balloc (Below.refl _ _) _
 have r1:Row W1 w.heap.size 85 [.bool nl,.int .i64 n]:=by rw [← hW1];exact Row.new _ _ _
 have c0:=r1.cell 0
 have c1:=r1.cell 1
 have HB1:=Lib.hid B1
 have HW1:=Lib.hid hW1
 clear B1 r1 hW1
 obtain ⟨R,hR⟩:∃ R,trS (nl,n)=R:=⟨_,rfl⟩
 rw [hR]
 cases nl with
 | true=>
   rw [show trS (true,n)=2 from rfl] at hR
   subst hR
   go_enter Tryz.func95,Tryz.ntmps95
   go_upto_region 1 with fail
   rw [HW1.out]
   go_wp2
   go_ret
   exact ⟨rfl,HB1.out⟩
 | false=>
   by_cases h0:n=0
   ·subst h0
    rw [show trS (false,0)=0 from rfl] at hR
    subst hR
    go_enter Tryz.func95,Tryz.ntmps95
    go_upto_region 1 with fail
    rw [HW1.out]
    go_wp2
    go_ret
    exact ⟨rfl,HB1.out⟩
   ·rw [show trS (false,n)=1 by unfold trS;rw [if_neg (show ¬ (false=true) by decide),if_neg h0]] at hR
    subst hR
    have hb:(n == 0)=false:=by rw [beq_eq_false_iff_ne];exact h0
    clear h0
    go_enter Tryz.func95,Tryz.ntmps95
    go_upto_region 1 with fail
    rw [HW1.out]
    go_wp2
    go_ret
    exact ⟨rfl,HB1.out⟩
set_option maxHeartbeats 1000000 in
theorem andTruth_ok (a b:Int) (w:World) (ha:a=0 ∨ a=1 ∨ a=2) (hb:b=0 ∨ b=1 ∨ b=2):Calls Tryz.prog 121 #[.int .i64 a,.int .i64 b] w fun e w'=>e=.returned (.int .i64 (andT a b)) ∧ w=w':=by
 rcases ha with rfl | rfl | rfl <;> rcases hb with rfl | rfl | rfl <;>
  (go_enter Tryz.func121,Tryz.ntmps121
   go_wp2
   go_ret
   exact ⟨rfl,rfl⟩)
theorem notTruth_ok (a:Int) (w:World) (ha:a=0 ∨ a=1 ∨ a=2):Calls Tryz.prog 97 #[.int .i64 a] w fun e w'=>e=.returned (.int .i64 (notT a)) ∧ w=w':=by
 rcases ha with rfl | rfl | rfl <;>
  (go_enter Tryz.func97,Tryz.ntmps97
   go_wp2
   go_ret
   exact ⟨rfl,rfl⟩)
theorem toInt_ok (b:Bool) (w:World):Calls Tryz.prog 98 #[.bool b] w fun e w'=>e=.returned (.int .i64 (if b=true then 1 else 0)) ∧ w=w':=by
 cases b <;>
  (go_enter Tryz.func98,Tryz.ntmps98
   go_wp2
   go_ret
   exact ⟨rfl,rfl⟩)
set_option maxHeartbeats 1000000 in
theorem ofTruth_ok (a:Int) (w:World) (ha:a=0 ∨ a=1 ∨ a=2):Calls Tryz.prog 96 #[.int .i64 a] w fun e w'=>e=.returned (.agg #[.bool (ofT a).1,.int .i64 (ofT a).2]) ∧ Below w.heap.size w w':=by
 rcases ha with rfl | rfl | rfl
 ·go_enter Tryz.func96,Tryz.ntmps96
  go_wp2
  exact bodyPost_ret (v:=.agg #[.bool false,.int .i64 0]) (by simp [results,Tryz.results96,go_sem]) rfl ⟨rfl,balloc (Below.refl _ _) _⟩
 ·go_enter Tryz.func96,Tryz.ntmps96
  go_wp2
  exact bodyPost_ret (v:=.agg #[.bool false,.int .i64 1]) (by simp [results,Tryz.results96,go_sem]) rfl ⟨rfl,balloc (Below.refl _ _) _⟩
 ·go_enter Tryz.func96,Tryz.ntmps96
  go_wp2
  exact bodyPost_ret (v:=.agg #[.bool true,.int .i64 0]) (by simp [results,Tryz.results96,go_sem]) rfl ⟨rfl,balloc (Below.refl _ _) _⟩
end Go.Proofs.YtcbfbgngkdiijaaGreat
