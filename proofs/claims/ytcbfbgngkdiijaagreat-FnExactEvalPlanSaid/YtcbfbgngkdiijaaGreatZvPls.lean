import Derived.Test.YtcbfbgngkdiijaaGreatZvPln
import Derived.Test.YtcbfbgngkdiijaaGreatProg
import Derived.OpenShut
import Derived.Deep.DeepCutAuto
import Derived.Test.YtcbfbgngkdiijaaGreatZvGf
import Derived.Test.YtcbfbgngkdiijaaGreatZvVal
import Derived.Deep.CutBlock
namespace Go.Qo
open Go.RowKit
set_option linter.unusedVariables false
set_option linter.unusedSimpArgs false

inductive Ex where
 | mk (kind col:Int) (val:Val) (kids:List Ex)
namespace Ex
def kind:Ex → Int | .mk k _ _ _=>k
def col:Ex → Int | .mk _ c _ _=>c
def val:Ex → Val | .mk _ _ v _=>v
def kids:Ex → List Ex | .mk _ _ _ ks=>ks
theorem kid_lt {e x:Ex} (h:x ∈ e.kids):SizeOf.sizeOf x < SizeOf.sizeOf e:=by
 obtain ⟨k,c,v,ks⟩:=e
 have h:x ∈ ks:=h
 have:=List.sizeOf_lt_of_mem h
 simp only [mk.sizeOf_spec]
 omega
theorem ind {P:Ex → Prop} (h:∀ e,(∀ x ∈ e.kids,P x) → P e):∀ e,P e:=by
 have:∀ (n:Nat) (e:Ex),SizeOf.sizeOf e ≤ n → P e:=fun n=>by
  induction n with
  | zero=>exact fun e he=>h e fun x hx=>absurd (kid_lt hx) (by omega)
  | succ n ih=>exact fun e he=>h e fun x hx=>ih x (by have:=kid_lt hx;omega)
 exact fun e=>this _ e (Nat.le_refl _)
end Ex

structure FE where
 kind:Int
 col:Int
 val:Val
 sv:SV
def feC (f:FE):List Value:=[.int .i64 f.kind,.int .i64 f.col,.bool f.val.1,.int .i64 f.val.2,.slice f.sv.A f.sv.n f.sv.c]
theorem feC_length (f:FE):(feC f).length=5:=rfl

def ExAt (w:World) (B:Nat):Nat → FE → Ex → Prop
 | 0,_,_=>False
 | n + 1,f,e=>f.kind=e.kind ∧ f.col=e.col ∧ f.val=e.val ∧ f.sv.n=e.kids.length ∧ f.sv.n ≤ f.sv.c ∧ f.sv.c ≤ maxLen ∧
     ∃ fs:List FE,fs.length=e.kids.length ∧ Sl 5 feC w B f.sv.A fs ∧ ∀ (i:Nat) (g:FE) (x:Ex),fs[i]? = some g → e.kids[i]? = some x → ExAt w B n g x
theorem ExAt.map {w w':World} {B B':Nat} (hs:∀ (A:Option Addr) (fs:List FE),Sl 5 feC w B A fs → Sl 5 feC w' B' A fs):∀ (n:Nat) (f:FE) (e:Ex),ExAt w B n f e → ExAt w' B' n f e
 | 0,_,_,h=>h.elim
 | n + 1,f,e,⟨h1,h2,h3,h4,h5,h6,fs,h7,h8,h9⟩=>⟨h1,h2,h3,h4,h5,h6,fs,h7,hs _ _ h8,fun i g x hg hx=>ExAt.map hs n g x (h9 i g x hg hx)⟩
theorem ExAt.below {w w':World} {B:Nat} {n:Nat} {f:FE} {e:Ex} (h:ExAt w B n f e) (hb:Below B w w'):ExAt w' B n f e:=ExAt.map (fun A fs h=>h.below hb) n f e h
theorem ExAt.on {w w':World} {n:Nat} {f:FE} {e:Ex} (h:ExAt w w.heap.size n f e) (hb:Below w.heap.size w w'):ExAt w' w'.heap.size n f e:=ExAt.map (fun A fs h=>h.on hb) n f e h
theorem ExAt.more {w:World} {B:Nat}:∀ (n m:Nat) (f:FE) (e:Ex),n ≤ m → ExAt w B n f e → ExAt w B m f e
 | 0,_,_,_,_,h=>h.elim
 | n + 1,0,_,_,hm,_=>absurd hm (by omega)
 | n + 1,m + 1,f,e,hm,⟨h1,h2,h3,h4,h5,h6,fs,h7,h8,h9⟩=>⟨h1,h2,h3,h4,h5,h6,fs,h7,h8,fun i g x hg hx=>ExAt.more n m g x (by omega) (h9 i g x hg hx)⟩
def FeAt (w:World) (b o:Nat) (f:FE):Prop:=
 w.cell? ⟨b,o,none⟩=some (.int .i64 f.kind) ∧ w.cell? ⟨b,o + 1,none⟩=some (.int .i64 f.col) ∧ w.cell? ⟨b,o + 2,none⟩=some (.bool f.val.1) ∧ w.cell? ⟨b,o + 3,none⟩=some (.int .i64 f.val.2) ∧ w.cell? ⟨b,o + 4,none⟩=some (.slice f.sv.A f.sv.n f.sv.c)
theorem feAt_of {w:World} {B:Nat} {A:Option Addr} {fs:List FE} (h:Sl 5 feC w B A fs) {i:Nat} (hi:i < fs.length):∃ b o,A=some ⟨b,o,none⟩ ∧ b < B ∧ FeAt w b (o + i * 5) fs[i]:=by
 obtain ⟨b,o,hA,hB,hc⟩:=h (by omega)
 have hx:=List.getElem?_eq_getElem hi
 exact ⟨b,o,hA,hB,hc i _ hx 0 _ rfl,hc i _ hx 1 _ rfl,hc i _ hx 2 _ rfl,hc i _ hx 3 _ rfl,hc i _ hx 4 _ rfl⟩
theorem ExAt.kid {w:World} {B n:Nat} {f:FE} {e:Ex} (h:ExAt w B (n + 1) f e) {i:Nat} (hi:i < e.kids.length) :
 ∃ b o g,f.sv.A=some ⟨b,o,none⟩ ∧ b < B ∧ FeAt w b (o + i * 5) g ∧ ExAt w B n g e.kids[i]:=by
 obtain ⟨_,_,_,_,_,_,fs,h7,h8,h9⟩:=h
 have hi':i < fs.length:=by omega
 obtain ⟨b,o,hA,hB,hf⟩:=feAt_of h8 hi'
 exact ⟨b,o,fs[i],hA,hB,hf,h9 i _ _ (List.getElem?_eq_getElem hi') (List.getElem?_eq_getElem hi)⟩
end Go.Qo

namespace Go.Qo
open Go.RowKit
set_option linter.unusedVariables false
set_option linter.unusedSimpArgs false

def ExIn (w:World) (B:Nat) (f:FE) (e:Ex):Prop:=∃ n,ExAt w B n f e
theorem ExIn.below {w w':World} {B:Nat} {f:FE} {e:Ex} (h:ExIn w B f e) (hb:Below B w w'):ExIn w' B f e:=h.imp fun _ h=>h.below hb
theorem ExIn.on {w w':World} {f:FE} {e:Ex} (h:ExIn w w.heap.size f e) (hb:Below w.heap.size w w'):ExIn w' w'.heap.size f e:=h.imp fun _ h=>h.on hb
theorem ExIn.flat {w:World} {B:Nat} {f:FE} {e:Ex} (h:ExIn w B f e):f.kind=e.kind ∧ f.col=e.col ∧ f.val=e.val ∧ f.sv.n=e.kids.length ∧ f.sv.n ≤ f.sv.c ∧ f.sv.c ≤ maxLen:=by
 obtain ⟨n,h⟩:=h
 cases n with
 | zero=>exact h.elim
 | succ n=>exact ⟨h.1,h.2.1,h.2.2.1,h.2.2.2.1,h.2.2.2.2.1,h.2.2.2.2.2.1⟩
theorem ExIn.kid {w:World} {B:Nat} {f:FE} {e:Ex} (h:ExIn w B f e) {i:Nat} (hi:i < e.kids.length) :
 ∃ b o g,f.sv.A=some ⟨b,o,none⟩ ∧ b < B ∧ FeAt w b (o + i * 5) g ∧ ExIn w B g e.kids[i]:=by
 obtain ⟨n,h⟩:=h
 cases n with
 | zero=>exact h.elim
 | succ n=>
   obtain ⟨b,o,g,h1,h2,h3,h4⟩:=h.kid hi
   exact ⟨b,o,g,h1,h2,h3,n,h4⟩
def ExsIn (w:World) (B:Nat) (A:Option Addr) (es:List Ex):Prop:=
 ∃ fs:List FE,fs.length=es.length ∧ Sl 5 feC w B A fs ∧ ∀ (i:Nat) (g:FE) (x:Ex),fs[i]? = some g → es[i]? = some x → ExIn w B g x
theorem ExsIn.on {w w':World} {A:Option Addr} {es:List Ex} (h:ExsIn w w.heap.size A es) (hb:Below w.heap.size w w'):ExsIn w' w'.heap.size A es:=by
 obtain ⟨fs,h1,h2,h3⟩:=h
 exact ⟨fs,h1,h2.on hb,fun i g x hg hx=>(h3 i g x hg hx).on hb⟩
theorem ExsIn.at_ {w:World} {B:Nat} {A:Option Addr} {es:List Ex} (h:ExsIn w B A es) {i:Nat} (hi:i < es.length):∃ b o g,A=some ⟨b,o,none⟩ ∧ b < B ∧ FeAt w b (o + i * 5) g ∧ ExIn w B g es[i]:=by
 obtain ⟨fs,h1,h2,h3⟩:=h
 have hi':i < fs.length:=by omega
 obtain ⟨b,o,hA,hB,hf⟩:=feAt_of h2 hi'
 exact ⟨b,o,fs[i],hA,hB,hf,h3 i _ _ (List.getElem?_eq_getElem hi') (List.getElem?_eq_getElem hi)⟩
theorem ExIn.kids_in {w:World} {B:Nat} {f:FE} {e:Ex} (h:ExIn w B f e):ExsIn w B f.sv.A e.kids:=by
 obtain ⟨n,h⟩:=h
 cases n with
 | zero=>exact h.elim
 | succ n=>
   obtain ⟨_,_,_,_,_,_,fs,h7,h8,h9⟩:=h
   exact ⟨fs,h7,h8,fun i g x hg hx=>⟨n,h9 i g x hg hx⟩⟩

inductive Pl where
 | mk (kind table:Int) (exprs:List Ex) (cols:List Int) (kids:List Pl)
namespace Pl
def kind:Pl → Int | .mk k _ _ _ _=>k
def table:Pl → Int | .mk _ t _ _ _=>t
def exprs:Pl → List Ex | .mk _ _ es _ _=>es
def cols:Pl → List Int | .mk _ _ _ cs _=>cs
def kids:Pl → List Pl | .mk _ _ _ _ ks=>ks
theorem kid_lt {p x:Pl} (h:x ∈ p.kids):SizeOf.sizeOf x < SizeOf.sizeOf p:=by
 obtain ⟨k,t,es,cs,ks⟩:=p
 have h:x ∈ ks:=h
 have:=List.sizeOf_lt_of_mem h
 simp only [mk.sizeOf_spec]
 omega
theorem ind {P:Pl → Prop} (h:∀ p,(∀ x ∈ p.kids,P x) → P p):∀ p,P p:=by
 have:∀ (n:Nat) (p:Pl),SizeOf.sizeOf p ≤ n → P p:=fun n=>by
  induction n with
  | zero=>exact fun p hp=>h p fun x hx=>absurd (kid_lt hx) (by omega)
  | succ n ih=>exact fun p hp=>h p fun x hx=>ih x (by have:=kid_lt hx;omega)
 exact fun p=>this _ p (Nat.le_refl _)
end Pl
structure FP where
 kind:Int
 table:Int
 es:SV
 cs:SV
 ks:SV
def fpC (f:FP):List Value:=[.int .i64 f.kind,.int .i64 f.table,.slice f.es.A f.es.n f.es.c,.slice f.cs.A f.cs.n f.cs.c,.slice f.ks.A f.ks.n f.ks.c]
theorem fpC_length (f:FP):(fpC f).length=5:=rfl
def SVok (s:SV) (n:Nat):Prop:=s.n=n ∧ s.n ≤ s.c ∧ s.c ≤ maxLen
def PlAt (w:World) (B:Nat):Nat → FP → Pl → Prop
 | 0,_,_=>False
 | n + 1,f,p=>f.kind=p.kind ∧ f.table=p.table ∧ SVok f.es p.exprs.length ∧ SVok f.cs p.cols.length ∧ SVok f.ks p.kids.length ∧ ExsIn w B f.es.A p.exprs ∧ Sl 1 intC w B f.cs.A p.cols ∧
     ∃ fs:List FP,fs.length=p.kids.length ∧ Sl 5 fpC w B f.ks.A fs ∧ ∀ (i:Nat) (g:FP) (x:Pl),fs[i]? = some g → p.kids[i]? = some x → PlAt w B n g x
theorem PlAt.on {w w':World} (hb:Below w.heap.size w w'):∀ (n:Nat) (f:FP) (p:Pl),PlAt w w.heap.size n f p → PlAt w' w'.heap.size n f p
 | 0,_,_,h=>h.elim
 | n + 1,f,p,⟨h1,h2,h3,h4,h5,h6,h7,fs,h8,h9,h10⟩=>⟨h1,h2,h3,h4,h5,h6.on hb,h7.on hb,fs,h8,h9.on hb,fun i g x hg hx=>PlAt.on hb n g x (h10 i g x hg hx)⟩
def PlIn (w:World) (B:Nat) (f:FP) (p:Pl):Prop:=∃ n,PlAt w B n f p
theorem PlIn.on {w w':World} {f:FP} {p:Pl} (h:PlIn w w.heap.size f p) (hb:Below w.heap.size w w'):PlIn w' w'.heap.size f p:=h.imp fun n h=>PlAt.on hb n f p h
def FpAt (w:World) (b o:Nat) (f:FP):Prop:=
 w.cell? ⟨b,o,none⟩=some (.int .i64 f.kind) ∧ w.cell? ⟨b,o + 1,none⟩=some (.int .i64 f.table) ∧ w.cell? ⟨b,o + 2,none⟩=some (.slice f.es.A f.es.n f.es.c) ∧ w.cell? ⟨b,o + 3,none⟩=some (.slice f.cs.A f.cs.n f.cs.c) ∧ w.cell? ⟨b,o + 4,none⟩=some (.slice f.ks.A f.ks.n f.ks.c)
theorem PlIn.flat {w:World} {B:Nat} {f:FP} {p:Pl} (h:PlIn w B f p):f.kind=p.kind ∧ f.table=p.table ∧ SVok f.es p.exprs.length ∧ SVok f.cs p.cols.length ∧ SVok f.ks p.kids.length ∧ ExsIn w B f.es.A p.exprs ∧ Sl 1 intC w B f.cs.A p.cols:=by
 obtain ⟨n,h⟩:=h
 cases n with
 | zero=>exact h.elim
 | succ n=>exact ⟨h.1,h.2.1,h.2.2.1,h.2.2.2.1,h.2.2.2.2.1,h.2.2.2.2.2.1,h.2.2.2.2.2.2.1⟩
theorem PlIn.kid {w:World} {B:Nat} {f:FP} {p:Pl} (h:PlIn w B f p) {i:Nat} (hi:i < p.kids.length) :
 ∃ b o g,f.ks.A=some ⟨b,o,none⟩ ∧ b < B ∧ FpAt w b (o + i * 5) g ∧ PlIn w B g p.kids[i]:=by
 obtain ⟨n,h⟩:=h
 cases n with
 | zero=>exact h.elim
 | succ n=>
   obtain ⟨_,_,_,_,_,_,_,fs,h7,h8,h9⟩:=h
   have hi':i < fs.length:=by omega
   obtain ⟨b,o,hA,hB,hc⟩:=h8 (by omega)
   have hx:=List.getElem?_eq_getElem hi'
   exact ⟨b,o,fs[i],hA,hB,⟨hc i _ hx 0 _ rfl,hc i _ hx 1 _ rfl,hc i _ hx 2 _ rfl,hc i _ hx 3 _ rfl,hc i _ hx 4 _ rfl⟩,n,h9 i _ _ hx (List.getElem?_eq_getElem hi)⟩
end Go.Qo

namespace Go.Qo
set_option linter.unusedVariables false
set_option linter.unusedSimpArgs false

def kidsK (k:Int):Int:=if k=1 ∨ k=2 then 0 else if k=10 ∨ k=11 then 1 else if 3 ≤ k ∧ k ≤ 9 then 2 else -1
def LocOk (width:Int) (e:Ex):Prop:=
 if e.kind=1 then (0 ≤ e.col ∧ e.col ≤ width - 1) ∧ e.val=(false,0) else if e.kind=2 then e.col=0 ∧ vValid e.val=true else e.col=0 ∧ e.val=(false,0)
inductive ExOk (width:Int):Int → Ex → Prop where
 | mk {deep:Int} {e:Ex} (hk:(e.kids.length:Int)=kidsK e.kind) (hd:0 < e.kids.length → deep ≠ 0) (hx:∀ x,x ∈ e.kids → ExOk width (deep - 1) x) (hl:LocOk width e):ExOk width deep e
theorem exOk_iff {width deep:Int} {e:Ex}:ExOk width deep e ↔ (e.kids.length:Int)=kidsK e.kind ∧ (0 < e.kids.length → deep ≠ 0) ∧ (∀ x ∈ e.kids,ExOk width (deep - 1) x) ∧ LocOk width e:=
 ⟨fun h=>by cases h with | mk hk hd hx hl=>exact ⟨hk,hd,hx,hl⟩,fun ⟨h1,h2,h3,h4⟩=>.mk h1 h2 h3 h4⟩
theorem ExOk.kids_le {width deep:Int} {e:Ex} (h:ExOk width deep e):e.kids.length ≤ 2:=by
 have h1:=(exOk_iff.1 h).1
 unfold kidsK at h1
 split at h1
 ·omega
 ·split at h1
  ·omega
  ·split at h1 <;> omega
end Go.Qo

namespace Go.Proofs.YtcbfbgngkdiijaaGreat
open Go.RowKit Go.Qo
set_option linter.unusedVariables false
set_option linter.unusedSimpArgs false

theorem kinds (k:Int):k=1 ∨ k=2 ∨ k=3 ∨ k=4 ∨ k=5 ∨ k=6 ∨ k=7 ∨ k=8 ∨ k=9 ∨ k=10 ∨ k=11 ∨ (¬ k=1 ∧ ¬ k=2 ∧ ¬ k=3 ∧ ¬ k=4 ∧ ¬ k=5 ∧ ¬ k=6 ∧ ¬ k=7 ∧ ¬ k=8 ∧ ¬ k=9 ∧ ¬ k=10 ∧ ¬ k=11):=by omega
theorem kidsK_no {k:Int} (h:¬ k=1 ∧ ¬ k=2 ∧ ¬ k=3 ∧ ¬ k=4 ∧ ¬ k=5 ∧ ¬ k=6 ∧ ¬ k=7 ∧ ¬ k=8 ∧ ¬ k=9 ∧ ¬ k=10 ∧ ¬ k=11):kidsK k=-1:=by
 unfold kidsK
 rw [if_neg (by omega),if_neg (by omega),if_neg (by omega)]

set_option maxHeartbeats 1000000 in
theorem kidsOf_ok (k:Int) (w:World):Calls Tryz.prog 120 #[.int .i64 k] w fun e w'=>e=.returned (.int .i64 (kidsK k)) ∧ w=w':=by
 rcases kinds k with rfl | rfl | rfl | rfl | rfl | rfl | rfl | rfl | rfl | rfl | rfl | h
 case inr.inr.inr.inr.inr.inr.inr.inr.inr.inr.inr=>
  rw [kidsK_no h]
  obtain ⟨h1,h2,h3,h4,h5,h6,h7,h8,h9,h10,h11⟩:=h
  go_enter Tryz.func120,Tryz.ntmps120
  go_wp2
  go_ret
  exact ⟨rfl,rfl⟩
 all_goals
  go_enter Tryz.func120,Tryz.ntmps120
  go_wp2
  go_ret
  exact ⟨rfl,rfl⟩
set_option maxHeartbeats 1000000 in
theorem kidsOfKind_ok (k:Int) (w:World):Calls Tryz.prog 151 #[.int .i64 k] w fun e w'=>e=.returned (.int .i64 (kidsK k)) ∧ w=w':=by
 rcases kinds k with rfl | rfl | rfl | rfl | rfl | rfl | rfl | rfl | rfl | rfl | rfl | h
 case inr.inr.inr.inr.inr.inr.inr.inr.inr.inr.inr=>
  rw [kidsK_no h]
  obtain ⟨h1,h2,h3,h4,h5,h6,h7,h8,h9,h10,h11⟩:=h
  go_enter Tryz.func151,Tryz.ntmps151
  go_wp2
  go_ret
  exact ⟨rfl,rfl⟩
 all_goals
  go_enter Tryz.func151,Tryz.ntmps151
  go_wp2
  go_ret
  exact ⟨rfl,rfl⟩
end Go.Proofs.YtcbfbgngkdiijaaGreat

namespace Go.Proofs.YtcbfbgngkdiijaaGreat
open Go.RowKit Go.Qo
set_option linter.unusedVariables false
set_option linter.unusedSimpArgs false

theorem eqlV {x y:Val} (r:Bool) (hr:decide (x=y)=r) (w:World):(binOp .eql 85 (.agg #[.bool x.1,.int .i64 x.2]) (.agg #[.bool y.1,.int .i64 y.2])).run Tryz.prog w=.ok (.bool r) w:=by
 have hs:Tryz.prog.stoodInHeld 85=false:=by kernel_rfl
 subst hr
 obtain ⟨a,b⟩:=x
 obtain ⟨c,d⟩:=y
 simp [go_sem,hs]
 by_cases h1:a=c <;> by_cases h2:b=d <;> simp [h1,h2]
def feV (f:FE):Value:=.agg #[.int .i64 f.kind,.int .i64 f.col,.bool f.val.1,.int .i64 f.val.2,.slice f.sv.A f.sv.n f.sv.c]
end Go.Proofs.YtcbfbgngkdiijaaGreat

namespace Go.Proofs.YtcbfbgngkdiijaaGreat
open Go.RowKit Go.Qo
set_option linter.unusedVariables false
set_option linter.unusedSimpArgs false

end Go.Proofs.YtcbfbgngkdiijaaGreat

namespace Go.Proofs.YtcbfbgngkdiijaaGreat
open Go.RowKit Go.Qo
set_option linter.unusedVariables false
set_option linter.unusedSimpArgs false

def fpV (f:FP):Value:=.agg #[.int .i64 f.kind,.int .i64 f.table,.slice f.es.A f.es.n f.es.c,.slice f.cs.A f.cs.n f.cs.c,.slice f.ks.A f.ks.n f.ks.c]

end Go.Proofs.YtcbfbgngkdiijaaGreat

namespace Go.Proofs.YtcbfbgngkdiijaaGreat
open Go.RowKit Go.Qo
set_option linter.unusedVariables false
set_option linter.unusedSimpArgs false

theorem bool_of {P:Prop}:∃ r:Bool,r=true ↔ P:=by
 by_cases h:P
 ·exact ⟨true,by simp [h]⟩
 ·exact ⟨false,by simp [h]⟩
theorem bool_no {P:Prop} {r:Bool} (h:r=true ↔ P) (n:¬ P):r=false:=by
 cases r
 ·rfl
 ·exact absurd (h.1 rfl) n
def VldS (x:Ex):Prop:=∀ (f:FE) (width deep:Int) (w:World) (r:Bool),ExIn w w.heap.size f x → 1 ≤ width → width ≤ 6 → 0 ≤ deep → deep ≤ 100 → (r=true ↔ ExOk width deep x) →
 Calls Tryz.prog 92 #[feV f,.int .i64 width,.int .i64 deep] w fun e w'=>e=.returned (.bool r) ∧ Below w.heap.size w w'

set_option maxRecDepth 20000 in
set_option maxHeartbeats 4000000 in
theorem validExpr_ok:∀ x:Ex,VldS x:=Ex.ind fun x ih f width deep w r h hw1 hw6 hd0 hd1 hr=>by
 obtain ⟨a1,a2,a3,a4,a5,a6⟩:=h.flat
 obtain ⟨W1,hW1⟩:∃ z,w.alloc (.cells #[.int .i64 x.kind,.int .i64 x.col,.bool x.val.1,.int .i64 x.val.2,.slice f.sv.A x.kids.length f.sv.c] 87)=z:=⟨_,rfl⟩
 have B1:Below w.heap.size w W1:=by rw [← hW1];exact balloc (Below.refl _ _) _
 have r1:Row W1 w.heap.size 87 [.int .i64 x.kind,.int .i64 x.col,.bool x.val.1,.int .i64 x.val.2,.slice f.sv.A x.kids.length f.sv.c]:=by rw [← hW1];exact Row.new _ _ _
 have hz1:w.heap.size < W1.heap.size:=r1.lt
 have HK:=Lib.hid (h.kids_in.on B1)
 have HI:=Lib.hid ih
 have HR:=Lib.hid hr
 have HB1:=Lib.hid B1
 have HW1:=Lib.hid hW1
 have Hrow:=Lib.hid r1
 have hx:x.kids.length ≤ maxLen:=by omega
 unfold maxLen at hx
 have c0:∀ z:Aft W1.heap.size W1,z.v.cell? ⟨w.heap.size,0,none⟩=some (.int .i64 x.kind):=fun z=>z.cell hz1 (r1.cell 0)
 have c4:∀ z:Aft W1.heap.size W1,z.v.cell? ⟨w.heap.size,4,none⟩=some (.slice f.sv.A x.kids.length f.sv.c):=fun z=>z.cell hz1 (r1.cell 4)
 have HKid:=Lib.hid (fun z:Aft W1.heap.size W1=>(kidsOf_ok x.kind z.v).mono fun e w' ⟨he,hw⟩=>(show e=Ending.returned (.int .i64 (kidsK x.kind)) ∧ Below z.v.heap.size z.v w' from ⟨he,hw ▸ Below.refl _ _⟩))
 unfold feV
 rw [a1,a2,a3,a4]
 clear h ih hr a1 a2 a3 a4 a5 a6 B1 r1 hW1
 by_cases hk:(x.kids.length:Int)=kidsK x.kind
 case neg=>
  have hne:((x.kids.length:Int) != kidsK x.kind)=true:=by simp [hk]
  have Hk:=Lib.hid hk
  clear hk
  go_enter Tryz.func92,Tryz.ntmps92
  go_upto_region 1 with fail
  rw [HW1.out]
  refine wp_region_aft W1.heap.size (by kernel_rfl) (by kernel_rfl) ?_
  repeat (go_big_quiet_step ((go_at_call 120;exact Calls.aft (Nat.le_refl _) (HKid.out _))))
  refine wpQuiet_nil ?_
  intro w2 hw'
  obtain ⟨⟨_,hb2⟩,rfl⟩:=hw'
  go_wp2
  go_ret
  exact ⟨ret_bool (bool_no HR.out fun ho=>Hk.out (exOk_iff.1 ho).1).symm,bch HB1.out hb2⟩
 case pos=>
  have hne:((x.kids.length:Int) != kidsK x.kind)=false:=by simp [hk]
  have Hk:=Lib.hid hk
  clear hk
  by_cases hdz:0 < x.kids.length ∧ deep=0
  ·obtain ⟨hpos,rfl⟩:=hdz
   have hposI:(0:Int) < (x.kids.length:Int):=by omega
   have Hp:=Lib.hid hpos
   go_enter Tryz.func92,Tryz.ntmps92
   go_upto_region 1 with fail
   rw [HW1.out]
   refine wp_region_aft W1.heap.size (by kernel_rfl) (by kernel_rfl) ?_
   repeat (go_big_quiet_step ((go_at_call 120;exact Calls.aft (Nat.le_refl _) (HKid.out _))))
   refine wpQuiet_nil ?_
   intro w2 hw'
   obtain ⟨⟨_,hb2⟩,rfl⟩:=hw'
   go_wp2
   go_ret
   exact ⟨ret_bool (bool_no HR.out fun ho=>(exOk_iff.1 ho).2.1 Hp.out rfl).symm,bch HB1.out hb2⟩
  ·have Hdz:=Lib.hid (show 0 < x.kids.length → deep ≠ 0 from fun h1 h2=>hdz ⟨h1,h2⟩)
   have hcase:(0 < x.kids.length ∧ (deep == 0)=false) ∨ ¬ 0 < x.kids.length:=by
    by_cases h0:0 < x.kids.length
    ·exact .inl ⟨h0,by simpa using Hdz.out h0⟩
    ·exact .inr h0
   clear hdz
   rcases hcase with ⟨hpos,hdne⟩ | hpos
   all_goals
    go_enter Tryz.func92,Tryz.ntmps92
    go_upto_region 1 with fail
    rw [HW1.out]
    refine wp_region_aft W1.heap.size (by kernel_rfl) (by kernel_rfl) ?_
    repeat (go_big_quiet_step ((go_at_call 120;exact Calls.aft (Nat.le_refl _) (HKid.out _))))
    refine wpQuiet_nil ?_
    intro w2 hw'
    obtain ⟨⟨_,hb2⟩,rfl⟩:=hw'
    have hb2':=hb2
    have HB2:=Lib.hid (bch HB1.out hb2)
    have HK2:=Lib.hid (HK.out.on hb2)
    have Hrow2:=Lib.hid (Hrow.out.on hb2)
    have hz2:w.heap.size < w2.heap.size:=Hrow2.out.lt
    clear c0 c4 HKid hb2 hb2' hpos
    go_wp2
    go_loopg [7] x.kids.length (fun g iv wr=>∃ i:Nat,i ≤ x.kids.length ∧ g=x.kids.length - i ∧ iv=.int .i64 i ∧ Below w2.heap.size w2 wr ∧ ∀ j (hj:j < x.kids.length),j < i → ExOk width (deep - 1) x.kids[j])
    case atStart=>exact ⟨0,by omega,by omega,rfl,Below.refl _ _,fun j hj hn=>absurd hn (by omega)⟩
    case round=>
     obtain ⟨i,hi,rfl,rfl,hb,hall⟩:=hrel
     have HB:=Lib.hid hb
     have HA:=Lib.hid hall
     have hrow:=Hrow2.out.on hb
     have c0:wr.cell? ⟨w.heap.size,0,none⟩=some (.int .i64 x.kind):=hrow.cell 0
     have c1:wr.cell? ⟨w.heap.size,1,none⟩=some (.int .i64 x.col):=hrow.cell 1
     have c2:wr.cell? ⟨w.heap.size,2,none⟩=some (.bool x.val.1):=hrow.cell 2
     have c3:wr.cell? ⟨w.heap.size,3,none⟩=some (.int .i64 x.val.2):=hrow.cell 3
     have c4:wr.cell? ⟨w.heap.size,4,none⟩=some (.slice f.sv.A x.kids.length f.sv.c):=hrow.cell 4
     clear hb hall hrow
     by_cases hlt:i < x.kids.length
     ·obtain ⟨b1,o1,g,hA,hB1,⟨d0,d1,d2,d3,d4⟩,hg⟩:=(HK2.out.on HB.out).at_ hlt
      obtain ⟨rk,hrk⟩:=bool_of (P:=ExOk width (deep - 1) x.kids[i])
      have HX:=Lib.hid (HI.out _ (List.getElem_mem hlt) g width (deep - 1) wr rk hg hw1 hw6 (by have:=Hdz.out (by omega);omega) (by omega) hrk)
      unfold feV at HX
      have Hrk:=Lib.hid hrk
      have hil:(i:Int) < (x.kids.length:Int):=by omega
      have HhA:=Lib.hid hA
      rw [hA] at c4
      clear hrk hg hA
      go_wp2_with fail
      refine HX.out.mono ?_
      rintro e w3 ⟨rfl,hb3⟩
      cases rk
      ·go_wp2
       go_ret
       exact ⟨ret_bool (bool_no HR.out fun ho=>by have:=Hrk.out.2 ((exOk_iff.1 ho).2.2.1 _ (List.getElem_mem hlt));cases this).symm,bch (bch HB2.out HB.out) hb3⟩
      ·go_wp2
       go_roundg (x.kids.length - (i + 1))
       case measure=>omega
       case rel=>
        refine ⟨i + 1,by omega,rfl,by go_num,bch HB.out hb3,fun j hj hn=>?_⟩
        by_cases hji:j < i
        ·exact HA.out j hj hji
        ·have:j=i:=by omega
         subst this
         exact (by simpa using Hrk.out)
     ·have Hall:=Lib.hid (show ∀ y ∈ x.kids,ExOk width (deep - 1) y from fun y hy=>by
       obtain ⟨j,hj,rfl⟩:=List.getElem_of_mem hy
       exact HA.out j hj (by omega))
      have Hloc:=Lib.hid (show r=true ↔ LocOk width x from HR.out.trans ⟨fun ho=>(exOk_iff.1 ho).2.2.2,fun ho=>exOk_iff.2 ⟨Hk.out,Hdz.out,Hall.out,ho⟩⟩)
      have HBr:=Lib.hid (bch HB2.out HB.out)
      unfold LocOk at Hloc
      by_cases k1:x.kind=1
      ·rw [if_pos k1] at Hloc
       obtain ⟨q,hq⟩:∃ q,(decide (0 ≤ x.col) && decide (x.col ≤ width - 1))=q:=⟨_,rfl⟩
       obtain ⟨q2,hq2⟩:∃ q2,decide (x.val=(false,0))=q2:=⟨_,rfl⟩
       have HIn:=Lib.hid (inRange_ok x.col 0 (width - 1) wr q hq)
       have hev:=fun z=>eqlV (x:=x.val) (y:=(false,0)) q2 hq2 z
       have Hq:=Lib.hid (And.intro hq hq2)
       rw [k1] at c0
       clear hq hq2 k1
       cases q <;> cases q2
       all_goals
        go_wp2_with fail
        refine HIn.out.mono ?_
        rintro e w3 ⟨rfl,rfl⟩
        go_wp2
        go_ret
        refine ⟨ret_bool ?_,HBr.out⟩
        have h1:=Hq.out.1
        have h2:=Hq.out.2
        have h3:=Hloc.out
        simp at h1 h2
        cases r <;> simp [h1,h2] at h3 ⊢ <;> omega
      ·rw [if_neg k1] at Hloc
       have k1':(x.kind == 1)=false:=by simpa using k1
       clear k1
       by_cases k2:x.kind=2
       ·rw [if_pos k2] at Hloc
        rw [k2] at c0
        clear k1' k2
        obtain ⟨q2,hq2⟩:∃ q2,vValid x.val=q2:=⟨_,rfl⟩
        have HV:=Lib.hid (specValidValue_ok x.val wr q2 hq2)
        have Hq2:=Lib.hid hq2
        clear hq2
        by_cases hcol:x.col=0
        ·have Hcol:=Lib.hid hcol
         rw [hcol] at c1
         clear hcol
         go_wp2_with fail
         refine HV.out.mono ?_
         rintro e w3 ⟨rfl,hb3⟩
         go_wp2
         go_ret
         refine ⟨ret_bool ?_,bch HBr.out hb3⟩
         have h1:=Hcol.out
         have h2:=Hq2.out
         have h3:=Hloc.out
         cases r <;> simp [h1,h2] at h3 ⊢ <;> simp [h3]
        ·have hcol':(x.col == 0)=false:=by simpa using hcol
         have Hcol:=Lib.hid hcol
         clear hcol
         go_wp2
         go_ret
         refine ⟨ret_bool ?_,HBr.out⟩
         have h1:=Hcol.out
         have h3:=Hloc.out
         cases r <;> simp [h1] at h3 ⊢
       ·rw [if_neg k2] at Hloc
        have k2':(x.kind == 2)=false:=by simpa using k2
        clear k2
        obtain ⟨q2,hq2⟩:∃ q2,decide (x.val=(false,0))=q2:=⟨_,rfl⟩
        have hev:=fun z=>eqlV (x:=x.val) (y:=(false,0)) q2 hq2 z
        have Hq2:=Lib.hid hq2
        clear hq2
        by_cases hcol:x.col=0
        ·have Hcol:=Lib.hid hcol
         rw [hcol] at c1
         clear hcol
         go_wp2
         go_ret
         refine ⟨ret_bool ?_,HBr.out⟩
         have h1:=Hcol.out
         have h2:=Hq2.out
         have h3:=Hloc.out
         cases q2 <;> cases r <;> simp [h1] at h2 h3 ⊢ <;> simp_all
        ·have hcol':(x.col == 0)=false:=by simpa using hcol
         have Hcol:=Lib.hid hcol
         clear hcol
         go_wp2
         go_ret
         refine ⟨ret_bool ?_,HBr.out⟩
         have h1:=Hcol.out
         have h3:=Hloc.out
         cases r <;> simp [h1] at h3 ⊢

set_option maxHeartbeats 1000000 in
theorem specValidExpr_ok (x:Ex) (f:FE) (width:Int) (w:World) (r:Bool) (h:ExIn w w.heap.size f x) (hr:r=true ↔ (1 ≤ width ∧ width ≤ 6) ∧ ExOk width 8 x) :
 Calls Tryz.prog 66 #[feV f,.int .i64 width] w fun e w'=>e=.returned (.bool r) ∧ Below w.heap.size w w':=by
 obtain ⟨W1,hW1⟩:∃ z,w.alloc (.cells #[.int .i64 f.kind,.int .i64 f.col,.bool f.val.1,.int .i64 f.val.2,.slice f.sv.A f.sv.n f.sv.c] 87)=z:=⟨_,rfl⟩
 have B1:Below w.heap.size w W1:=by rw [← hW1];exact balloc (Below.refl _ _) _
 have r1:Row W1 w.heap.size 87 [.int .i64 f.kind,.int .i64 f.col,.bool f.val.1,.int .i64 f.val.2,.slice f.sv.A f.sv.n f.sv.c]:=by rw [← hW1];exact Row.new _ _ _
 obtain ⟨q,hq⟩:∃ q,(decide (1 ≤ width) && decide (width ≤ 6))=q:=⟨_,rfl⟩
 have HIn:=Lib.hid (inRange_ok width 1 6 W1 q hq)
 have HB1:=Lib.hid B1
 have HW1:=Lib.hid hW1
 have HH:=Lib.hid (h.on B1)
 have HR:=Lib.hid hr
 have Hq:=Lib.hid hq
 have c0:W1.cell? ⟨w.heap.size,0,none⟩=some (.int .i64 f.kind):=r1.cell 0
 have c1:W1.cell? ⟨w.heap.size,1,none⟩=some (.int .i64 f.col):=r1.cell 1
 have c2:W1.cell? ⟨w.heap.size,2,none⟩=some (.bool f.val.1):=r1.cell 2
 have c3:W1.cell? ⟨w.heap.size,3,none⟩=some (.int .i64 f.val.2):=r1.cell 3
 have c4:W1.cell? ⟨w.heap.size,4,none⟩=some (.slice f.sv.A f.sv.n f.sv.c):=r1.cell 4
 unfold feV
 clear h hr hq B1 r1 hW1
 cases q
 ·go_enter Tryz.func66,Tryz.ntmps66
  go_upto_region 1 with fail
  rw [HW1.out]
  go_wp2_with fail
  refine HIn.out.mono ?_
  rintro e w3 ⟨rfl,rfl⟩
  go_wp2
  go_ret
  refine ⟨ret_bool ?_,HB1.out⟩
  refine (bool_no HR.out fun ho=>?_).symm
  have:=Hq.out
  simp at this
  omega
 ·have hw:1 ≤ width ∧ width ≤ 6:=by have:=Hq.out;simpa using this
  have HV:=Lib.hid (validExpr_ok x f width 8 W1 r HH.out hw.1 hw.2 (by omega) (by omega) (HR.out.trans (and_iff_right hw)))
  unfold feV at HV
  clear hw
  go_enter Tryz.func66,Tryz.ntmps66
  go_upto_region 1 with fail
  rw [HW1.out]
  go_wp2_with fail
  refine HIn.out.mono ?_
  rintro e w3 ⟨rfl,rfl⟩
  go_wp2_with fail
  refine HV.out.mono ?_
  rintro e w4 ⟨rfl,hb4⟩
  go_wp2
  go_ret
  exact ⟨ret_bool (by simp),bch HB1.out hb4⟩
end Go.Proofs.YtcbfbgngkdiijaaGreat

namespace Go.Proofs.YtcbfbgngkdiijaaGreat
open Go.RowKit Go.Qo
set_option linter.unusedVariables false
set_option linter.unusedSimpArgs false

def VldI (x:Ex):Prop:=∀ (f:FE) (b o:Nat) (width deep:Int) (w:World) (r:Bool),b < w.heap.size → FeAt w b o f → ExIn w w.heap.size f x → 1 ≤ width → width ≤ 6 → 0 ≤ deep → deep ≤ 100 → (r=true ↔ ExOk width deep x) →
 Calls Tryz.prog 137 #[.pointer (some ⟨b,o,none⟩),.int .i64 width,.int .i64 deep] w fun e w'=>e=.returned (.bool r) ∧ Below w.heap.size w w'

set_option maxRecDepth 20000 in
set_option maxHeartbeats 4000000 in
theorem validBelow_ok:∀ x:Ex,VldI x:=Ex.ind fun x ih f b o width deep w r hbw hat h hw1 hw6 hd0 hd1 hr=>by
 obtain ⟨a1,a2,a3,a4,a5,a6⟩:=h.flat
 obtain ⟨c0,c1,c2,c3,c4⟩:=hat
 rw [a1] at c0
 rw [a2] at c1
 rw [a3] at c2 c3
 rw [a4] at c4
 have HK:=Lib.hid h.kids_in
 have HI:=Lib.hid ih
 have HR:=Lib.hid hr
 have hx:x.kids.length ≤ maxLen:=by omega
 unfold maxLen at hx
 have HKid:=Lib.hid (kidsOfKind_ok x.kind w)
 clear h ih hr a1 a2 a3 a4 a5 a6
 by_cases hk:(x.kids.length:Int)=kidsK x.kind
 case neg=>
  have hne:((x.kids.length:Int) != kidsK x.kind)=true:=by simp [hk]
  have Hk:=Lib.hid hk
  clear hk
  go_enter Tryz.func137,Tryz.ntmps137
  go_wp2_with fail
  refine HKid.out.mono ?_
  rintro e w2 ⟨rfl,rfl⟩
  go_wp2
  go_ret
  exact ⟨ret_bool (bool_no HR.out fun ho=>Hk.out (exOk_iff.1 ho).1).symm,Below.refl _ _⟩
 case pos=>
  rw [← hk] at HKid
  have Hk:=Lib.hid hk
  clear hk
  by_cases hdz:0 < x.kids.length ∧ deep=0
  ·obtain ⟨hpos,rfl⟩:=hdz
   have hposI:(0:Int) < (x.kids.length:Int):=by omega
   have Hp:=Lib.hid hpos
   go_enter Tryz.func137,Tryz.ntmps137
   go_wp2_with fail
   refine HKid.out.mono ?_
   rintro e w2 ⟨rfl,rfl⟩
   go_wp2
   go_ret
   exact ⟨ret_bool (bool_no HR.out fun ho=>(exOk_iff.1 ho).2.1 Hp.out rfl).symm,Below.refl _ _⟩
  ·have Hdz:=Lib.hid (show 0 < x.kids.length → deep ≠ 0 from fun h1 h2=>hdz ⟨h1,h2⟩)
   have hcase:(0 < x.kids.length ∧ (deep == 0)=false) ∨ ¬ 0 < x.kids.length:=by
    by_cases h0:0 < x.kids.length
    ·exact .inl ⟨h0,by simpa using Hdz.out h0⟩
    ·exact .inr h0
   have hloc:(x.kind=1 ∧ x.col < 0) ∨ (x.kind=1 ∧ ¬ x.col < 0 ∧ width ≤ x.col) ∨ (x.kind=1 ∧ ¬ x.col < 0 ∧ ¬ width ≤ x.col) ∨ (x.kind=2 ∧ ¬ x.col=0) ∨ (x.kind=2 ∧ x.col=0) ∨ (¬ x.kind=1 ∧ ¬ x.kind=2 ∧ ¬ x.col=0) ∨ (¬ x.kind=1 ∧ ¬ x.kind=2 ∧ x.col=0):=by omega
   obtain ⟨q2,hq2⟩:∃ q2,vValid x.val=q2:=⟨_,rfl⟩
   have HV:=Lib.hid (implValid_ok x.val w q2 hq2)
   obtain ⟨q3,hq3⟩:∃ q3,decide (x.val ≠ (false,0))=q3:=⟨_,rfl⟩
   have hev:=fun z=>neqVal (x:=x.val) (y:=(false,0)) q3 hq3 z
   have Hq2:=Lib.hid hq2
   have Hq3:=Lib.hid hq3
   clear hdz hq2 hq3
   rcases hloc with ⟨k1,k2⟩ | ⟨k1,k2,k3⟩ | ⟨k1,k2,k3⟩ | ⟨k1,k2⟩ | ⟨k1,k2⟩ | ⟨k1,k3,k2⟩ | ⟨k1,k3,k2⟩
   ·rw [k1] at c0 HKid
    have Hno:=Lib.hid (show ¬ LocOk width x by unfold LocOk;rw [if_pos k1];omega)
    clear k1
    rcases hcase with ⟨hpos,hdne⟩ | hpos
    all_goals
     go_enter Tryz.func137,Tryz.ntmps137
     go_wp2_with fail
     refine HKid.out.mono ?_
     rintro e w2 ⟨rfl,rfl⟩
     go_wp2
     go_ret
     exact ⟨ret_bool (bool_no HR.out fun ho=>Hno.out (exOk_iff.1 ho).2.2.2).symm,Below.refl _ _⟩
   ·rw [k1] at c0 HKid
    have Hno:=Lib.hid (show ¬ LocOk width x by unfold LocOk;rw [if_pos k1];omega)
    clear k1
    rcases hcase with ⟨hpos,hdne⟩ | hpos
    all_goals
     go_enter Tryz.func137,Tryz.ntmps137
     go_wp2_with fail
     refine HKid.out.mono ?_
     rintro e w2 ⟨rfl,rfl⟩
     go_wp2
     go_ret
     exact ⟨ret_bool (bool_no HR.out fun ho=>Hno.out (exOk_iff.1 ho).2.2.2).symm,Below.refl _ _⟩
   ·rw [k1] at c0 HKid
    cases q3
    ·have Hyes:=Lib.hid (show LocOk width x by unfold LocOk;rw [if_pos k1];have:=Hq3.out;simp at this;exact ⟨⟨by omega,by omega⟩,this⟩)
     clear k1
     rcases hcase with ⟨hpos,hdne⟩ | hpos
     all_goals
      go_enter Tryz.func137,Tryz.ntmps137
      go_wp2_with fail
      refine HKid.out.mono ?_
      rintro e w2 ⟨rfl,rfl⟩
      have HK2:=HK
      have hbw2:=hbw
      have C4:=c4
      have HB2:=Lib.hid (Below.refl w.heap.size w)
      go_wp2
      clear HKid HV hev c0 c1 c2 c3 c4 hpos
      go_loopg [96] x.kids.length (fun g iv wr=>∃ i:Nat,i ≤ x.kids.length ∧ g=x.kids.length - i ∧ iv=.int .i64 i ∧ Below w.heap.size w wr ∧ ∀ j (hj:j < x.kids.length),j < i → ExOk width (deep - 1) x.kids[j])
      case atStart=>exact ⟨0,by omega,by omega,rfl,Below.refl _ _,fun j hj hn=>absurd hn (by omega)⟩
      case round=>
       obtain ⟨i,hi,rfl,rfl,hb,hall⟩:=hrel
       have HB:=Lib.hid hb
       have HA:=Lib.hid hall
       have c4:wr.cell? ⟨b,o + 4,none⟩=some (.slice f.sv.A x.kids.length f.sv.c):=(hb.cell (p:=⟨b,o + 4,none⟩) hbw2).trans C4
       clear hb hall
       by_cases hlt:i < x.kids.length
       ·obtain ⟨b1,o1,g,hA,hB1,hat,hg⟩:=(HK2.out.on HB.out).at_ hlt
        obtain ⟨rk,hrk⟩:=bool_of (P:=ExOk width (deep - 1) x.kids[i])
        have HX:=Lib.hid (HI.out _ (List.getElem_mem hlt) g b1 _ width (deep - 1) wr rk hB1 hat hg hw1 hw6 (by have:=Hdz.out (by omega);omega) (by omega) hrk)
        have Hrk:=Lib.hid hrk
        have hil:(i:Int) < (x.kids.length:Int):=by omega
        rw [hA] at c4
        clear hrk hg hA hat
        go_wp2_with fail
        refine HX.out.mono ?_
        rintro e w3 ⟨rfl,hb3⟩
        cases rk
        ·go_wp2
         go_ret
         exact ⟨ret_bool (bool_no HR.out fun ho=>by have:=Hrk.out.2 ((exOk_iff.1 ho).2.2.1 _ (List.getElem_mem hlt));cases this).symm,bch (bch HB2.out HB.out) hb3⟩
        ·go_wp2
         go_roundg (x.kids.length - (i + 1))
         case measure=>omega
         case rel=>
          refine ⟨i + 1,by omega,rfl,by go_num,bch HB.out hb3,fun j hj hn=>?_⟩
          by_cases hji:j < i
          ·exact HA.out j hj hji
          ·have:j=i:=by omega
           subst this
           exact (by simpa using Hrk.out)
       ·have Hall:=Lib.hid (show ∀ y ∈ x.kids,ExOk width (deep - 1) y from fun y hy=>by
         obtain ⟨j,hj,rfl⟩:=List.getElem_of_mem hy
         exact HA.out j hj (by omega))
        have hrt:r=true:=HR.out.2 (exOk_iff.2 ⟨Hk.out,Hdz.out,Hall.out,Hyes.out⟩)
        go_wp2
        go_ret
        exact ⟨ret_bool hrt.symm,bch HB2.out HB.out⟩
    ·have Hno:=Lib.hid (show ¬ LocOk width x by unfold LocOk;rw [if_pos k1];have:=Hq3.out;simp at this;exact fun h=>this h.2)
     clear k1
     rcases hcase with ⟨hpos,hdne⟩ | hpos
     all_goals
      go_enter Tryz.func137,Tryz.ntmps137
      go_wp2_with fail
      refine HKid.out.mono ?_
      rintro e w2 ⟨rfl,rfl⟩
      go_wp2
      go_ret
      exact ⟨ret_bool (bool_no HR.out fun ho=>Hno.out (exOk_iff.1 ho).2.2.2).symm,Below.refl _ _⟩
   ·rw [k1] at c0 HKid
    have Hno:=Lib.hid (show ¬ LocOk width x by unfold LocOk;rw [if_neg (by omega),if_pos k1];exact fun h=>k2 h.1)
    have hcol':(x.col != 0)=true:=by simpa using k2
    clear k1 k2
    rcases hcase with ⟨hpos,hdne⟩ | hpos
    all_goals
     go_enter Tryz.func137,Tryz.ntmps137
     go_wp2_with fail
     refine HKid.out.mono ?_
     rintro e w2 ⟨rfl,rfl⟩
     go_wp2
     go_ret
     exact ⟨ret_bool (bool_no HR.out fun ho=>Hno.out (exOk_iff.1 ho).2.2.2).symm,Below.refl _ _⟩
   ·rw [k1] at c0 HKid
    rw [k2] at c1
    cases q2
    ·have Hno:=Lib.hid (show ¬ LocOk width x by unfold LocOk;rw [if_neg (by omega),if_pos k1];have:=Hq2.out;simp [this])
     clear k1 k2
     rcases hcase with ⟨hpos,hdne⟩ | hpos
     all_goals
      go_enter Tryz.func137,Tryz.ntmps137
      go_wp2_with fail
      refine HKid.out.mono ?_
      rintro e w2 ⟨rfl,rfl⟩
      go_wp2_with fail
      refine HV.out.mono ?_
      rintro e w2 ⟨rfl,hb2⟩
      go_wp2
      go_ret
      exact ⟨ret_bool (bool_no HR.out fun ho=>Hno.out (exOk_iff.1 ho).2.2.2).symm,hb2⟩
    ·have Hyes:=Lib.hid (show LocOk width x by unfold LocOk;rw [if_neg (by omega),if_pos k1];exact ⟨k2,Hq2.out⟩)
     clear k1 k2
     rcases hcase with ⟨hpos,hdne⟩ | hpos
     all_goals
      go_enter Tryz.func137,Tryz.ntmps137
      go_wp2_with fail
      refine HKid.out.mono ?_
      rintro e w2 ⟨rfl,rfl⟩
      go_wp2_with fail
      refine HV.out.mono ?_
      rintro e w2 ⟨rfl,hb2⟩
      have HK2:=Lib.hid (HK.out.on hb2)
      have hbw2:b < w2.heap.size:=by have:=hb2.size;omega
      have C0:w2.cell? ⟨b,o,none⟩=w.cell? ⟨b,o,none⟩:=hb2.cell (p:=⟨b,o,none⟩) hbw
      have C4:w2.cell? ⟨b,o + 4,none⟩=w.cell? ⟨b,o + 4,none⟩:=hb2.cell (p:=⟨b,o + 4,none⟩) hbw
      rw [c0] at C0
      rw [c4] at C4
      have HB2:=Lib.hid hb2
      clear hb2
      go_wp2
      clear HKid HV hev c0 c1 c2 c3 c4 hpos
      go_loopg [96] x.kids.length (fun g iv wr=>∃ i:Nat,i ≤ x.kids.length ∧ g=x.kids.length - i ∧ iv=.int .i64 i ∧ Below w2.heap.size w2 wr ∧ ∀ j (hj:j < x.kids.length),j < i → ExOk width (deep - 1) x.kids[j])
      case atStart=>exact ⟨0,by omega,by omega,rfl,Below.refl _ _,fun j hj hn=>absurd hn (by omega)⟩
      case round=>
       obtain ⟨i,hi,rfl,rfl,hb,hall⟩:=hrel
       have HB:=Lib.hid hb
       have HA:=Lib.hid hall
       have c4:wr.cell? ⟨b,o + 4,none⟩=some (.slice f.sv.A x.kids.length f.sv.c):=(hb.cell (p:=⟨b,o + 4,none⟩) hbw2).trans C4
       clear hb hall
       by_cases hlt:i < x.kids.length
       ·obtain ⟨b1,o1,g,hA,hB1,hat,hg⟩:=(HK2.out.on HB.out).at_ hlt
        obtain ⟨rk,hrk⟩:=bool_of (P:=ExOk width (deep - 1) x.kids[i])
        have HX:=Lib.hid (HI.out _ (List.getElem_mem hlt) g b1 _ width (deep - 1) wr rk hB1 hat hg hw1 hw6 (by have:=Hdz.out (by omega);omega) (by omega) hrk)
        have Hrk:=Lib.hid hrk
        have hil:(i:Int) < (x.kids.length:Int):=by omega
        rw [hA] at c4
        clear hrk hg hA hat
        go_wp2_with fail
        refine HX.out.mono ?_
        rintro e w3 ⟨rfl,hb3⟩
        cases rk
        ·go_wp2
         go_ret
         exact ⟨ret_bool (bool_no HR.out fun ho=>by have:=Hrk.out.2 ((exOk_iff.1 ho).2.2.1 _ (List.getElem_mem hlt));cases this).symm,bch (bch HB2.out HB.out) hb3⟩
        ·go_wp2
         go_roundg (x.kids.length - (i + 1))
         case measure=>omega
         case rel=>
          refine ⟨i + 1,by omega,rfl,by go_num,bch HB.out hb3,fun j hj hn=>?_⟩
          by_cases hji:j < i
          ·exact HA.out j hj hji
          ·have:j=i:=by omega
           subst this
           exact (by simpa using Hrk.out)
       ·have Hall:=Lib.hid (show ∀ y ∈ x.kids,ExOk width (deep - 1) y from fun y hy=>by
         obtain ⟨j,hj,rfl⟩:=List.getElem_of_mem hy
         exact HA.out j hj (by omega))
        have hrt:r=true:=HR.out.2 (exOk_iff.2 ⟨Hk.out,Hdz.out,Hall.out,Hyes.out⟩)
        go_wp2
        go_ret
        exact ⟨ret_bool hrt.symm,bch HB2.out HB.out⟩
   ·have k1':(x.kind == 1)=false:=by simpa using k1
    have k3':(x.kind == 2)=false:=by simpa using k3
    have k1'':(x.kind != 1)=true:=by simpa using k1
    have k3'':(x.kind != 2)=true:=by simpa using k3
    have Hno:=Lib.hid (show ¬ LocOk width x by unfold LocOk;rw [if_neg k1,if_neg k3];exact fun h=>k2 h.1)
    have hcol':(x.col != 0)=true:=by simpa using k2
    clear k1 k2 k3
    rcases hcase with ⟨hpos,hdne⟩ | hpos
    all_goals
     go_enter Tryz.func137,Tryz.ntmps137
     go_wp2_with fail
     refine HKid.out.mono ?_
     rintro e w2 ⟨rfl,rfl⟩
     go_wp2
     go_ret
     exact ⟨ret_bool (bool_no HR.out fun ho=>Hno.out (exOk_iff.1 ho).2.2.2).symm,Below.refl _ _⟩
   ·have k1':(x.kind == 1)=false:=by simpa using k1
    have k3':(x.kind == 2)=false:=by simpa using k3
    have k1'':(x.kind != 1)=true:=by simpa using k1
    have k3'':(x.kind != 2)=true:=by simpa using k3
    rw [k2] at c1
    cases q3
    ·have Hyes:=Lib.hid (show LocOk width x by unfold LocOk;rw [if_neg k1,if_neg k3];have:=Hq3.out;simp at this;exact ⟨k2,this⟩)
     clear k1 k2 k3
     rcases hcase with ⟨hpos,hdne⟩ | hpos
     all_goals
      go_enter Tryz.func137,Tryz.ntmps137
      go_wp2_with fail
      refine HKid.out.mono ?_
      rintro e w2 ⟨rfl,rfl⟩
      have HK2:=HK
      have hbw2:=hbw
      have C4:=c4
      have HB2:=Lib.hid (Below.refl w.heap.size w)
      go_wp2
      clear HKid HV hev c0 c1 c2 c3 c4 hpos
      go_loopg [96] x.kids.length (fun g iv wr=>∃ i:Nat,i ≤ x.kids.length ∧ g=x.kids.length - i ∧ iv=.int .i64 i ∧ Below w.heap.size w wr ∧ ∀ j (hj:j < x.kids.length),j < i → ExOk width (deep - 1) x.kids[j])
      case atStart=>exact ⟨0,by omega,by omega,rfl,Below.refl _ _,fun j hj hn=>absurd hn (by omega)⟩
      case round=>
       obtain ⟨i,hi,rfl,rfl,hb,hall⟩:=hrel
       have HB:=Lib.hid hb
       have HA:=Lib.hid hall
       have c4:wr.cell? ⟨b,o + 4,none⟩=some (.slice f.sv.A x.kids.length f.sv.c):=(hb.cell (p:=⟨b,o + 4,none⟩) hbw2).trans C4
       clear hb hall
       by_cases hlt:i < x.kids.length
       ·obtain ⟨b1,o1,g,hA,hB1,hat,hg⟩:=(HK2.out.on HB.out).at_ hlt
        obtain ⟨rk,hrk⟩:=bool_of (P:=ExOk width (deep - 1) x.kids[i])
        have HX:=Lib.hid (HI.out _ (List.getElem_mem hlt) g b1 _ width (deep - 1) wr rk hB1 hat hg hw1 hw6 (by have:=Hdz.out (by omega);omega) (by omega) hrk)
        have Hrk:=Lib.hid hrk
        have hil:(i:Int) < (x.kids.length:Int):=by omega
        rw [hA] at c4
        clear hrk hg hA hat
        go_wp2_with fail
        refine HX.out.mono ?_
        rintro e w3 ⟨rfl,hb3⟩
        cases rk
        ·go_wp2
         go_ret
         exact ⟨ret_bool (bool_no HR.out fun ho=>by have:=Hrk.out.2 ((exOk_iff.1 ho).2.2.1 _ (List.getElem_mem hlt));cases this).symm,bch (bch HB2.out HB.out) hb3⟩
        ·go_wp2
         go_roundg (x.kids.length - (i + 1))
         case measure=>omega
         case rel=>
          refine ⟨i + 1,by omega,rfl,by go_num,bch HB.out hb3,fun j hj hn=>?_⟩
          by_cases hji:j < i
          ·exact HA.out j hj hji
          ·have:j=i:=by omega
           subst this
           exact (by simpa using Hrk.out)
       ·have Hall:=Lib.hid (show ∀ y ∈ x.kids,ExOk width (deep - 1) y from fun y hy=>by
         obtain ⟨j,hj,rfl⟩:=List.getElem_of_mem hy
         exact HA.out j hj (by omega))
        have hrt:r=true:=HR.out.2 (exOk_iff.2 ⟨Hk.out,Hdz.out,Hall.out,Hyes.out⟩)
        go_wp2
        go_ret
        exact ⟨ret_bool hrt.symm,bch HB2.out HB.out⟩
    ·have Hno:=Lib.hid (show ¬ LocOk width x by unfold LocOk;rw [if_neg k1,if_neg k3];have:=Hq3.out;simp at this;exact fun h=>this h.2)
     clear k1 k2 k3
     rcases hcase with ⟨hpos,hdne⟩ | hpos
     all_goals
      go_enter Tryz.func137,Tryz.ntmps137
      go_wp2_with fail
      refine HKid.out.mono ?_
      rintro e w2 ⟨rfl,rfl⟩
      go_wp2
      go_ret
      exact ⟨ret_bool (bool_no HR.out fun ho=>Hno.out (exOk_iff.1 ho).2.2.2).symm,Below.refl _ _⟩

set_option maxHeartbeats 1000000 in
theorem implValidExpr_ok (x:Ex) (f:FE) (width:Int) (w:World) (r:Bool) (h:ExIn w w.heap.size f x) (hr:r=true ↔ (1 ≤ width ∧ width ≤ 6) ∧ ExOk width 8 x) :
 Calls Tryz.prog 127 #[feV f,.int .i64 width] w fun e w'=>e=.returned (.bool r) ∧ Below w.heap.size w w':=by
 obtain ⟨W1,hW1⟩:∃ z,w.alloc (.cells #[.int .i64 f.kind,.int .i64 f.col,.bool f.val.1,.int .i64 f.val.2,.slice f.sv.A f.sv.n f.sv.c] 87)=z:=⟨_,rfl⟩
 have B1:Below w.heap.size w W1:=by rw [← hW1];exact balloc (Below.refl _ _) _
 have r1:Row W1 w.heap.size 87 [.int .i64 f.kind,.int .i64 f.col,.bool f.val.1,.int .i64 f.val.2,.slice f.sv.A f.sv.n f.sv.c]:=by rw [← hW1];exact Row.new _ _ _
 obtain ⟨q,hq⟩:∃ q,(decide (1 ≤ width) && decide (width ≤ 6))=q:=⟨_,rfl⟩
 have HIn:=Lib.hid (validWidth_ok width W1 q hq)
 have HB1:=Lib.hid B1
 have HW1:=Lib.hid hW1
 have HH:=Lib.hid (h.on B1)
 have HR:=Lib.hid hr
 have Hq:=Lib.hid hq
 have c0:W1.cell? ⟨w.heap.size,0,none⟩=some (.int .i64 f.kind):=r1.cell 0
 have c1:W1.cell? ⟨w.heap.size,1,none⟩=some (.int .i64 f.col):=r1.cell 1
 have c2:W1.cell? ⟨w.heap.size,2,none⟩=some (.bool f.val.1):=r1.cell 2
 have c3:W1.cell? ⟨w.heap.size,3,none⟩=some (.int .i64 f.val.2):=r1.cell 3
 have c4:W1.cell? ⟨w.heap.size,4,none⟩=some (.slice f.sv.A f.sv.n f.sv.c):=r1.cell 4
 have hat:=Lib.hid (show FeAt W1 w.heap.size 0 f from ⟨c0,c1,c2,c3,c4⟩)
 have hlt:=r1.lt
 unfold feV
 clear h hr hq B1 r1 hW1 c0 c1 c2 c3 c4
 cases q
 ·go_enter Tryz.func127,Tryz.ntmps127
  go_upto_region 1 with fail
  rw [HW1.out]
  go_wp2_with fail
  refine HIn.out.mono ?_
  rintro e w3 ⟨rfl,rfl⟩
  go_wp2
  go_ret
  refine ⟨ret_bool ?_,HB1.out⟩
  refine (bool_no HR.out fun ho=>?_).symm
  have:=Hq.out
  simp at this
  omega
 ·have hw:1 ≤ width ∧ width ≤ 6:=by have:=Hq.out;simpa using this
  have HV:=Lib.hid (validBelow_ok x f w.heap.size 0 width 8 W1 r hlt hat.out HH.out hw.1 hw.2 (by omega) (by omega) (HR.out.trans (and_iff_right hw)))
  clear hw
  go_enter Tryz.func127,Tryz.ntmps127
  go_upto_region 1 with fail
  rw [HW1.out]
  go_wp2_with fail
  refine HIn.out.mono ?_
  rintro e w3 ⟨rfl,rfl⟩
  go_wp2_with fail
  refine HV.out.mono ?_
  rintro e w4 ⟨rfl,hb4⟩
  go_wp2
  go_ret
  exact ⟨ret_bool (by simp),bch HB1.out hb4⟩
end Go.Proofs.YtcbfbgngkdiijaaGreat

namespace Go.Qo
set_option linter.unusedVariables false
set_option linter.unusedSimpArgs false

def nkids (k:Int):Int:=if k=1 then 0 else if k=4 ∨ k=5 ∨ k=6 then 2 else 1
def nexprs (k n:Int):Int:=if k=2 ∨ k=4 ∨ k=5 then 1 else if k=3 then n else 0
def OnlyF (p:Pl):Prop:=(1 ≤ p.kind ∧ p.kind ≤ 8) ∧ (p.kids.length:Int)=nkids p.kind ∧ (p.exprs.length:Int)=nexprs p.kind p.exprs.length ∧ (p.table=0 ∨ p.kind=1) ∧ (p.cols.length=0 ∨ p.kind=8)
def EOk (width:Int) (e:Ex):Prop:=(1 ≤ width ∧ width ≤ 6) ∧ ExOk width 8 e
def ColsOk (cols:List Int) (width:Int):Prop:=∀ (i:Nat) (c:Int),cols[i]? = some c → (0 ≤ c ∧ c ≤ width - 1) ∧ ∀ c',0 < i → cols[i - 1]? = some c' → c' < c
open Classical in
noncomputable def topW (ws:List Int) (p:Pl) (a b:Int):Int:=
 if p.kind=1 then (if 0 ≤ p.table ∧ p.table < ws.length then ws.getD p.table.toNat 0 else 0)
 else if p.kind=2 then (if ∀ e ∈ p.exprs,EOk a e then a else 0)
 else if p.kind=3 then (if (∀ e ∈ p.exprs,EOk a e) ∧ p.exprs.length ≤ 6 then p.exprs.length else 0)
 else if p.kind=4 ∨ p.kind=5 then (if a + b ≤ 6 ∧ ∀ e ∈ p.exprs,EOk (a + b) e then a + b else 0)
 else if p.kind=6 then (if a=b then a else 0)
 else if p.kind=7 then a
 else if ColsOk p.cols a ∧ p.cols.length < 6 then p.cols.length + 1 else 0
def kidW (g:Pl → Int) (p:Pl) (i:Nat):Int:=match p.kids[i]? with | some x=>g x | none=>0
open Classical in
noncomputable def plW (ws:List Int):Nat → Pl → Int
 | 0,p=>if OnlyF p ∧ p.kids.length=0 then topW ws p 0 0 else 0
 | d + 1,p=>if OnlyF p ∧ ∀ x ∈ p.kids,plW ws d x ≠ 0 then topW ws p (kidW (plW ws d) p 0) (kidW (plW ws d) p 1) else 0
theorem OnlyF.kids_le {p:Pl} (h:OnlyF p):p.kids.length ≤ 2:=by
 have:=h.2.1
 unfold nkids at this
 split at this
 ·omega
 ·split at this <;> omega
theorem topW_range {ws:List Int} (hws:∀ x ∈ ws,1 ≤ x ∧ x ≤ 6) (p:Pl) {a b:Int} (ha:0 ≤ a ∧ a ≤ 6) (hb:0 ≤ b ∧ b ≤ 6):0 ≤ topW ws p a b ∧ topW ws p a b ≤ 6:=by
 unfold topW
 split
 ·split
  ·have hl:p.table.toNat < ws.length:=by omega
   rw [List.getD_eq_getElem?_getD,List.getElem?_eq_getElem hl]
   have:=hws _ (List.getElem_mem hl)
   simp
   omega
  ·omega
 all_goals (repeat' split) <;> omega
theorem kidW_range {g:Pl → Int} (hg:∀ x,0 ≤ g x ∧ g x ≤ 6) (p:Pl) (i:Nat):0 ≤ kidW g p i ∧ kidW g p i ≤ 6:=by
 unfold kidW
 split
 ·exact hg _
 ·omega
theorem plW_range {ws:List Int} (hws:∀ x ∈ ws,1 ≤ x ∧ x ≤ 6):∀ (d:Nat) (p:Pl),0 ≤ plW ws d p ∧ plW ws d p ≤ 6
 | 0,p=>by
   unfold plW
   split
   ·exact topW_range hws p (by omega) (by omega)
   ·omega
 | d + 1,p=>by
   unfold plW
   split
   ·exact topW_range hws p (kidW_range (fun x=>plW_range hws d x) p 0) (kidW_range (fun x=>plW_range hws d x) p 1)
   ·omega
theorem plW_no {ws:List Int} {d:Nat} {p:Pl} (h:¬ OnlyF p):plW ws d p=0:=by
 cases d <;> unfold plW <;> rw [if_neg fun k=>h k.1]
theorem plW_deep {ws:List Int} {p:Pl} (h:0 < p.kids.length):plW ws 0 p=0:=by
 unfold plW;rw [if_neg fun k=>by omega]
theorem plW_kid {ws:List Int} {d:Nat} {p x:Pl} (hx:x ∈ p.kids) (h:plW ws d x=0):plW ws (d + 1) p=0:=by
 unfold plW;rw [if_neg fun k=>k.2 x hx h]
theorem plW_top {ws:List Int} {d:Nat} {p:Pl} (h:OnlyF p) (hd:0 < p.kids.length → 0 < d) (hk:∀ x ∈ p.kids,plW ws (d - 1) x ≠ 0) :
 plW ws d p=topW ws p (kidW (plW ws (d - 1)) p 0) (kidW (plW ws (d - 1)) p 1):=by
 cases d with
 | zero=>
   have h0:p.kids.length=0:=by omega
   have e:p.kids=[]:=List.eq_nil_of_length_eq_zero h0
   unfold plW kidW
   rw [if_pos ⟨h,h0⟩,e]
   rfl
 | succ d=>
   rw [plW,if_pos ⟨h,hk⟩]
   rfl
theorem plW_kids {ws:List Int} {d:Nat} {p x:Pl} (h:plW ws d p ≠ 0) (hx:x ∈ p.kids):OnlyF p ∧ ∃ k,d=k + 1 ∧ plW ws k x ≠ 0:=by
 cases d with
 | zero=>
   exfalso
   apply h
   exact plW_deep (List.length_pos_of_mem hx)
 | succ d=>
   have ho:OnlyF p:=Classical.byContradiction fun hn=>h (plW_no hn)
   exact ⟨ho,d,rfl,fun h0=>h (plW_kid hx h0)⟩
end Go.Qo

namespace Go.Proofs.YtcbfbgngkdiijaaGreat
open Go.RowKit Go.Qo
set_option linter.unusedVariables false
set_option linter.unusedSimpArgs false

def WsOk (ws:List Int):Prop:=(1 ≤ ws.length ∧ ws.length ≤ 4) ∧ ∀ x ∈ ws,1 ≤ x ∧ x ≤ 6

set_option maxHeartbeats 1000000 in
theorem specValidWidths_ok (ws:List Int) (A:Option Addr) (c:Nat) (w:World) (r:Bool) (hn:ws.length ≤ maxLen) (h:Sl 1 intC w w.heap.size A ws) (hr:r=true ↔ WsOk ws) :
 Calls Tryz.prog 44 #[.slice A ws.length c] w fun e w'=>e=.returned (.bool r) ∧ Below w.heap.size w w':=by
 unfold maxLen at hn
 have HR:=Lib.hid hr
 have HH:=Lib.hid h
 clear hr h
 go_enter Tryz.func44,Tryz.ntmps44
 go_wp2
 go_loopg [3] ws.length (fun g iv wr=>∃ i:Nat,i ≤ ws.length ∧ g=ws.length - i ∧ iv=.int .i64 i ∧ w=wr ∧ ∀ j (hj:j < ws.length),j < i → 1 ≤ ws[j] ∧ ws[j] ≤ 6)
 case atStart=>exact ⟨0,by omega,by omega,rfl,rfl,fun j hj hn=>absurd hn (by omega)⟩
 case round=>
  obtain ⟨i,hi,rfl,rfl,rfl,hall⟩:=hrel
  have HA:=Lib.hid hall
  clear hall
  by_cases hlt:i < ws.length
  ·obtain ⟨b1,o1,hA,hB1,c1⟩:=HH.out.at1 hlt
   subst hA
   obtain ⟨q,hq⟩:∃ q,(decide (1 ≤ ws[i]) && decide (ws[i] ≤ 6))=q:=⟨_,rfl⟩
   have HI:=Lib.hid (inRange_ok ws[i] 1 6 w q hq)
   have Hq:=Lib.hid hq
   have hil:(i:Int) < (ws.length:Int):=by omega
   clear hq
   go_wp2_with fail
   refine HI.out.mono ?_
   rintro e w3 ⟨rfl,rfl⟩
   cases q
   ·go_wp2
    go_ret
    refine ⟨ret_bool (bool_no HR.out fun ho=>?_).symm,Below.refl _ _⟩
    have h1:=Hq.out
    have:=ho.2 _ (List.getElem_mem hlt)
    simp at h1
    omega
   ·go_wp2
    go_roundg (ws.length - (i + 1))
    case measure=>omega
    case rel=>
     refine ⟨i + 1,by omega,rfl,by go_num,rfl,fun j hj hn=>?_⟩
     by_cases hji:j < i
     ·exact HA.out j hj hji
     ·have:j=i:=by omega
      subst this
      have h1:=Hq.out
      simpa using h1
  ·have Hall:=Lib.hid (show ∀ x ∈ ws,1 ≤ x ∧ x ≤ 6 from fun y hy=>by
    obtain ⟨j,hj,rfl⟩:=List.getElem_of_mem hy
    exact HA.out j hj (by omega))
   have HI:=Lib.hid (inRange_ok ws.length 1 4 w r (by
    have h1:=HR.out
    have h2:=Hall.out
    cases r
    ·have h3:¬ WsOk ws:=fun ho=>by have:=h1.2 ho;cases this
     simp
     intro h4
     apply Classical.byContradiction
     intro h5
     exact h3 ⟨⟨by omega,by omega⟩,h2⟩
    ·have:=(h1.1 rfl).1
     simp
     omega))
   go_wp2_with fail
   refine HI.out.mono ?_
   rintro e w3 ⟨rfl,rfl⟩
   go_wp2
   go_ret
   exact ⟨rfl,Below.refl _ _⟩

set_option maxHeartbeats 1000000 in
theorem validCols_ok (cs:List Int) (A:Option Addr) (c:Nat) (width:Int) (w:World) (r:Bool) (hw0:0 ≤ width) (hw1:width ≤ 100) (hn:cs.length ≤ maxLen) (h:Sl 1 intC w w.heap.size A cs) (hr:r=true ↔ ColsOk cs width) :
 Calls Tryz.prog 68 #[.slice A cs.length c,.int .i64 width] w fun e w'=>e=.returned (.bool r) ∧ Below w.heap.size w w':=by
 unfold maxLen at hn
 have HR:=Lib.hid hr
 have HH:=Lib.hid h
 clear hr h
 go_enter Tryz.func68,Tryz.ntmps68
 go_wp2
 go_loopg [5] cs.length (fun g iv wr=>∃ i:Nat,i ≤ cs.length ∧ g=cs.length - i ∧ iv=.int .i64 i ∧ Below w.heap.size w wr ∧ ∀ j (hj:j < cs.length),j < i → (0 ≤ cs[j] ∧ cs[j] ≤ width - 1) ∧ ∀ c',0 < j → cs[j - 1]? = some c' → c' < cs[j])
 case atStart=>exact ⟨0,by omega,by omega,rfl,Below.refl _ _,fun j hj hn=>absurd hn (by omega)⟩
 case round=>
  obtain ⟨i,hi,rfl,rfl,hb,hall⟩:=hrel
  have HA:=Lib.hid hall
  have HB:=Lib.hid hb
  clear hall hb
  by_cases hlt:i < cs.length
  ·obtain ⟨b1,o1,hA,hB1,c1⟩:=(HH.out.on HB.out).at1 hlt
   obtain ⟨q,hq⟩:∃ q,(decide (0 ≤ cs[i]) && decide (cs[i] ≤ width - 1))=q:=⟨_,rfl⟩
   have HI:=Lib.hid (fun z:Aft wr.heap.size wr=>(inRange_ok cs[i] 0 (width - 1) z.v q hq).mono fun e w' ⟨he,hw⟩=>(show e=Ending.returned (.bool q) ∧ Below z.v.heap.size z.v w' from ⟨he,hw ▸ Below.refl _ _⟩))
   have Hq:=Lib.hid hq
   have hil:(i:Int) < (cs.length:Int):=by omega
   have Hno:=Lib.hid (show q=false → ¬ ColsOk cs width from fun h0 ho=>by
    have h1:=Hq.out
    rw [h0] at h1
    have:=(ho i cs[i] (List.getElem?_eq_getElem hlt)).1
    simp at h1
    omega)
   by_cases hpos:0 < i
   ·obtain ⟨k,rfl⟩:∃ k,i=k + 1:=⟨i - 1,by omega⟩
    obtain ⟨b2,o2,hA2,hB2,c2⟩:=(HH.out.on HB.out).at1 (i:=k) (by omega)
    rw [hA] at hA2
    cases hA2
    subst hA
    have hki:(0:Int) ≤ (k:Int):=by omega
    have D1:=fun z:Aft wr.heap.size wr=>z.cell hB1 c1
    have D2:=fun z:Aft wr.heap.size wr=>z.cell hB2 c2
    clear hq c1 c2
    cases q
    ·go_wp2
     refine wp_region_aft wr.heap.size (by kernel_rfl) (by kernel_rfl) ?_
     repeat (go_big_quiet_step ((go_at_call 64;exact Calls.aft (Nat.le_refl _) (HI.out _))))
     refine wpQuiet_nil ?_
     intro w2 hw'
     obtain ⟨⟨_,hb2⟩,rfl⟩:=hw'
     go_wp2
     go_ret
     exact ⟨ret_bool (bool_no HR.out (Hno.out (by trivial))).symm,bch HB.out hb2⟩
    ·by_cases hle:cs[k + 1] ≤ cs[k]
     ·have Hle:=Lib.hid hle
      go_wp2
      refine wp_region_aft wr.heap.size (by kernel_rfl) (by kernel_rfl) ?_
      repeat (go_big_quiet_step ((go_at_call 64;exact Calls.aft (Nat.le_refl _) (HI.out _))))
      refine wpQuiet_nil ?_
      intro w2 hw'
      obtain ⟨⟨_,hb2⟩,rfl⟩:=hw'
      go_wp2
      go_ret
      refine ⟨ret_bool (bool_no HR.out fun ho=>?_).symm,bch HB.out hb2⟩
      have:=(ho (k + 1) cs[k + 1] (List.getElem?_eq_getElem hlt)).2 cs[k] (by omega) (List.getElem?_eq_getElem (by omega))
      have:=Hle.out
      omega
     ·have Hyes:=Lib.hid (show (0 ≤ cs[k + 1] ∧ cs[k + 1] ≤ width - 1) ∧ ∀ c',0 < k + 1 → cs[k + 1 - 1]? = some c' → c' < cs[k + 1] from ⟨by have:=Hq.out;simpa using this,fun c' _ hc=>by
       rw [show k + 1 - 1=k from rfl,List.getElem?_eq_getElem (show k < cs.length by omega)] at hc
       cases hc
       omega⟩)
      go_wp2
      refine wp_region_aft wr.heap.size (by kernel_rfl) (by kernel_rfl) ?_
      repeat (go_big_quiet_step ((go_at_call 64;exact Calls.aft (Nat.le_refl _) (HI.out _))))
      refine wpQuiet_nil ?_
      intro w2 hw'
      obtain ⟨⟨_,hb2⟩,rfl⟩:=hw'
      go_wp2
      go_roundg (cs.length - ((k + 1) + 1))
      case measure=>omega
      case rel=>
       refine ⟨(k + 1) + 1,by omega,rfl,by go_num,bch HB.out hb2,fun j hj hn=>?_⟩
       by_cases hji:j < (k + 1)
       ·exact HA.out j hj hji
       ·have:j=(k + 1):=by omega
        subst this
        exact Hyes.out
   ·have hi0:i=0:=by omega
    subst hi0
    subst hA
    have c1':wr.cell? ⟨b1,o1,none⟩=some (.int .i64 cs[0]):=by simpa using c1
    have D1:=fun z:Aft wr.heap.size wr=>z.cell hB1 c1'
    clear hq c1 c1'
    cases q
    ·go_wp2
     refine wp_region_aft wr.heap.size (by kernel_rfl) (by kernel_rfl) ?_
     repeat (go_big_quiet_step ((go_at_call 64;exact Calls.aft (Nat.le_refl _) (HI.out _))))
     refine wpQuiet_nil ?_
     intro w2 hw'
     obtain ⟨⟨_,hb2⟩,rfl⟩:=hw'
     go_wp2
     go_ret
     exact ⟨ret_bool (bool_no HR.out (Hno.out (by trivial))).symm,bch HB.out hb2⟩
    ·have Hyes:=Lib.hid (show (0 ≤ cs[0] ∧ cs[0] ≤ width - 1) ∧ ∀ c',0 < 0 → cs[0 - 1]? = some c' → c' < cs[0] from ⟨by have:=Hq.out;simpa using this,fun c' h0 _=>absurd h0 (by omega)⟩)
     go_wp2
     refine wp_region_aft wr.heap.size (by kernel_rfl) (by kernel_rfl) ?_
     repeat (go_big_quiet_step ((go_at_call 64;exact Calls.aft (Nat.le_refl _) (HI.out _))))
     refine wpQuiet_nil ?_
     intro w2 hw'
     obtain ⟨⟨_,hb2⟩,rfl⟩:=hw'
     go_wp2
     go_roundg (cs.length - (0 + 1))
     case measure=>omega
     case rel=>
      refine ⟨0 + 1,by omega,rfl,by go_num,bch HB.out hb2,fun j hj hn=>?_⟩
      by_cases hji:j < 0
      ·exact HA.out j hj hji
      ·have:j=0:=by omega
       subst this
       exact Hyes.out
  ·have hrt:r=true:=HR.out.2 fun i c hc=>by
    obtain ⟨hj,rfl⟩:=List.getElem?_eq_some_iff.1 hc
    exact HA.out i hj (by omega)
   go_wp2
   go_ret
   exact ⟨ret_bool hrt.symm,HB.out⟩

open Classical in
noncomputable def projW (es:List Ex) (a:Int):Int:=if (∀ e ∈ es,EOk a e) ∧ es.length ≤ 6 then es.length else 0
theorem projW_no {es:List Ex} {a:Int} {e:Ex} (h:e ∈ es) (hn:¬ EOk a e):projW es a=0:=by
 unfold projW;rw [if_neg fun k=>hn (k.1 e h)]

set_option maxRecDepth 20000 in
set_option maxHeartbeats 1000000 in
theorem projectWidth_ok (es:List Ex) (A:Option Addr) (c:Nat) (width:Int) (w:World) (R:Int) (hn:es.length ≤ maxLen) (h:ExsIn w w.heap.size A es) (hr:projW es width=R) :
 Calls Tryz.prog 67 #[.slice A es.length c,.int .i64 width] w fun e w'=>e=.returned (.int .i64 R) ∧ Below w.heap.size w w':=by
 unfold maxLen at hn
 have HR:=Lib.hid hr
 have HH:=Lib.hid h
 clear hr h
 go_enter Tryz.func67,Tryz.ntmps67
 go_wp2
 go_loopg [5] es.length (fun g iv wr=>∃ i:Nat,i ≤ es.length ∧ g=es.length - i ∧ iv=.int .i64 i ∧ Below w.heap.size w wr ∧ ∀ j (hj:j < es.length),j < i → EOk width es[j])
 case atStart=>exact ⟨0,by omega,by omega,rfl,Below.refl _ _,fun j hj hn=>absurd hn (by omega)⟩
 case round=>
  obtain ⟨i,hi,rfl,rfl,hb,hall⟩:=hrel
  have HA:=Lib.hid hall
  have HB:=Lib.hid hb
  clear hall hb
  by_cases hlt:i < es.length
  ·obtain ⟨b1,o1,g,hA,hB1,⟨d0,d1,d2,d3,d4⟩,hg⟩:=(HH.out.on HB.out).at_ hlt
   obtain ⟨q,hq⟩:=bool_of (P:=EOk width es[i])
   have HV:=Lib.hid (specValidExpr_ok es[i] g width wr q hg hq)
   unfold feV at HV
   have Hq:=Lib.hid hq
   have hil:(i:Int) < (es.length:Int):=by omega
   subst hA
   clear hq hg
   go_wp2_with fail
   refine HV.out.mono ?_
   rintro e w3 ⟨rfl,hb3⟩
   cases q
   ·have hz:R=0:=by
     rw [← HR.out]
     exact projW_no (List.getElem_mem hlt) fun ho=>by have:=Hq.out.2 ho;cases this
    go_wp2
    go_ret
    exact ⟨ret_int hz.symm,bch HB.out hb3⟩
   ·go_wp2
    go_roundg (es.length - (i + 1))
    case measure=>omega
    case rel=>
     refine ⟨i + 1,by omega,rfl,by go_num,bch HB.out hb3,fun j hj hn=>?_⟩
     by_cases hji:j < i
     ·exact HA.out j hj hji
     ·have:j=i:=by omega
      subst this
      exact (by simpa using Hq.out)
  ·have Hall:=Lib.hid (show ∀ x ∈ es,EOk width x from fun y hy=>by
    obtain ⟨j,hj,rfl⟩:=List.getElem_of_mem hy
    exact HA.out j hj (by omega))
   by_cases h6:6 < es.length
   ·have hz:R=0:=by
     rw [← HR.out];unfold projW;rw [if_neg fun k=>by omega]
    go_wp2
    go_ret
    exact ⟨ret_int hz.symm,HB.out⟩
   ·have hz:R=es.length:=by
     rw [← HR.out];unfold projW;rw [if_pos ⟨Hall.out,by omega⟩]
    go_wp2
    go_ret
    exact ⟨ret_int hz.symm,HB.out⟩

set_option maxRecDepth 20000 in
set_option maxHeartbeats 2000000 in
theorem onlyFields_ok (p:Pl) (f:FP) (w:World) (r:Bool) (h:PlIn w w.heap.size f p) (hr:r=true ↔ OnlyF p) :
 Calls Tryz.prog 65 #[fpV f] w fun e w'=>e=.returned (.bool r) ∧ Below w.heap.size w w':=by
 obtain ⟨a1,a2,⟨a3,a3',a3''⟩,⟨a4,a4',a4''⟩,⟨a5,a5',a5''⟩,a6,a7⟩:=h.flat
 obtain ⟨W1,hW1⟩:∃ z,w.alloc (.cells #[.int .i64 p.kind,.int .i64 p.table,.slice f.es.A p.exprs.length f.es.c,.slice f.cs.A p.cols.length f.cs.c,.slice f.ks.A p.kids.length f.ks.c] 38)=z:=⟨_,rfl⟩
 have B1:Below w.heap.size w W1:=by rw [← hW1];exact balloc (Below.refl _ _) _
 have r1:Row W1 w.heap.size 38 [.int .i64 p.kind,.int .i64 p.table,.slice f.es.A p.exprs.length f.es.c,.slice f.cs.A p.cols.length f.cs.c,.slice f.ks.A p.kids.length f.ks.c]:=by rw [← hW1];exact Row.new _ _ _
 have c0:W1.cell? ⟨w.heap.size,0,none⟩=some (.int .i64 p.kind):=r1.cell 0
 have c1:W1.cell? ⟨w.heap.size,1,none⟩=some (.int .i64 p.table):=r1.cell 1
 have c2:W1.cell? ⟨w.heap.size,2,none⟩=some (.slice f.es.A p.exprs.length f.es.c):=r1.cell 2
 have c3:W1.cell? ⟨w.heap.size,3,none⟩=some (.slice f.cs.A p.cols.length f.cs.c):=r1.cell 3
 have c4:W1.cell? ⟨w.heap.size,4,none⟩=some (.slice f.ks.A p.kids.length f.ks.c):=r1.cell 4
 have HB1:=Lib.hid B1
 have HW1:=Lib.hid hW1
 have HR:=Lib.hid hr
 unfold OnlyF at HR
 obtain ⟨k,hk⟩:∃ k,p.kind=k:=⟨_,rfl⟩
 obtain ⟨ne,hne⟩:∃ n,p.exprs.length=n:=⟨_,rfl⟩
 obtain ⟨nk,hnk⟩:∃ n,p.kids.length=n:=⟨_,rfl⟩
 obtain ⟨nc,hnc⟩:∃ n,p.cols.length=n:=⟨_,rfl⟩
 obtain ⟨tb,htb⟩:∃ n,p.table=n:=⟨_,rfl⟩
 unfold fpV
 rw [a1,a2,a3,a4,a5]
 have hx:ne ≤ maxLen ∧ nk ≤ maxLen ∧ nc ≤ maxLen:=by omega
 unfold maxLen at hx
 obtain ⟨hx1,hx2,hx3⟩:=hx
 clear h hr a1 a2 a3 a4 a5 a3' a3'' a4' a4'' a5' a5'' a6 a7 B1 r1 hW1
 rw [hk] at c0 HR HW1 ⊢
 rw [hne] at c2 HR HW1 ⊢
 rw [hnk] at c4 HR HW1 ⊢
 rw [hnc] at c3 HR HW1 ⊢
 rw [htb] at c1 HR HW1 ⊢
 clear hk hne hnk hnc htb
 go_enter Tryz.func65,Tryz.ntmps65
 go_upto_region 1 with fail
 rw [HW1.out]
 go_upto_block 0 with fail
 go_cut [3,4] (fun s3 s4 wx=>s3=.int .i64 (nkids k) ∧ s4=.int .i64 (nexprs k ne) ∧ W1=wx)
 case first=>
  have hk:k=1 ∨ k=2 ∨ k=3 ∨ k=4 ∨ k=5 ∨ k=6 ∨ (¬ k=1 ∧ ¬ k=2 ∧ ¬ k=3 ∧ ¬ k=4 ∧ ¬ k=5 ∧ ¬ k=6):=by omega
  rcases hk with rfl | rfl | rfl | rfl | rfl | rfl | h
  case inr.inr.inr.inr.inr.inr=>
   have e1:nkids k=1:=by unfold nkids;rw [if_neg (by omega),if_neg (by omega)]
   have e2:nexprs k ne=0:=by unfold nexprs;rw [if_neg (by omega),if_neg (by omega)]
   have E:=Lib.hid (And.intro e1 e2)
   clear e1 e2
   obtain ⟨h1,h2,h3,h4,h5,h6⟩:=h
   go_wp2
   go_meet
   exact ⟨by rw [E.out.1],by rw [E.out.2],rfl⟩
  all_goals
   go_wp2
   go_meet
   exact ⟨rfl,rfl,rfl⟩
 case rest=>
  obtain ⟨rfl,rfl,rfl⟩:=hcut
  obtain ⟨q,hq⟩:∃ q,(decide (1 ≤ k) && decide (k ≤ 8))=q:=⟨_,rfl⟩
  have HI:=Lib.hid (inRange_ok k 1 8 W1 q hq)
  have Hq:=Lib.hid hq
  clear hq
  cases q
  ·have Hno:=Lib.hid (show ¬ ((1 ≤ k ∧ k ≤ 8) ∧ (nk:Int)=nkids k ∧ (ne:Int)=nexprs k ne ∧ (tb=0 ∨ k=1) ∧ (nc=0 ∨ k=8)) from fun ho=>by have h1:=Hq.out;simp at h1;omega)
   go_wp2_with fail
   refine HI.out.mono ?_
   rintro e w3 ⟨rfl,rfl⟩
   go_wp2
   go_ret
   exact ⟨ret_bool (bool_no HR.out fun ho=>Hno.out ho).symm,HB1.out⟩
  ·have hkr:1 ≤ k ∧ k ≤ 8:=by have h1:=Hq.out;simpa using h1
   by_cases hB:(nk:Int)=nkids k
   case neg=>
    have Hno:=Lib.hid (show ¬ ((1 ≤ k ∧ k ≤ 8) ∧ (nk:Int)=nkids k ∧ (ne:Int)=nexprs k ne ∧ (tb=0 ∨ k=1) ∧ (nc=0 ∨ k=8)) from fun ho=>hB ho.2.1)
    have hB':((nk:Int) == nkids k)=false:=by simpa using hB
    clear hB
    go_wp2_with fail
    refine HI.out.mono ?_
    rintro e w3 ⟨rfl,rfl⟩
    go_wp2
    go_ret
    exact ⟨ret_bool (bool_no HR.out fun ho=>Hno.out ho).symm,HB1.out⟩
   case pos=>
    have HBe:=Lib.hid hB
    have hB':((nk:Int) == nkids k)=true:=by simpa using hB
    clear hB
    by_cases hC:(ne:Int)=nexprs k ne
    case neg=>
     have Hno:=Lib.hid (show ¬ ((1 ≤ k ∧ k ≤ 8) ∧ (nk:Int)=nkids k ∧ (ne:Int)=nexprs k ne ∧ (tb=0 ∨ k=1) ∧ (nc=0 ∨ k=8)) from fun ho=>hC ho.2.2.1)
     have hC':((ne:Int) == nexprs k ne)=false:=by simpa using hC
     clear hC
     go_wp2_with fail
     refine HI.out.mono ?_
     rintro e w3 ⟨rfl,rfl⟩
     go_wp2
     go_ret
     exact ⟨ret_bool (bool_no HR.out fun ho=>Hno.out ho).symm,HB1.out⟩
    case pos=>
     have HCe:=Lib.hid hC
     have hC':((ne:Int) == nexprs k ne)=true:=by simpa using hC
     clear hC
     have hcs:(¬ tb=0 ∧ ¬ k=1) ∨ ((tb=0 ∨ (¬ tb=0 ∧ k=1)) ∧ ((¬ nc=0 ∧ ¬ k=8) ∨ nc=0 ∨ (¬ nc=0 ∧ k=8))):=by omega
     rcases hcs with ⟨h1,h2⟩ | ⟨h1,h2⟩
     ·have Hno:=Lib.hid (show ¬ ((1 ≤ k ∧ k ≤ 8) ∧ (nk:Int)=nkids k ∧ (ne:Int)=nexprs k ne ∧ (tb=0 ∨ k=1) ∧ (nc=0 ∨ k=8)) from fun ho=>by omega)
      have h1':(tb == 0)=false:=by simpa using h1
      have h2':(k == 1)=false:=by simpa using h2
      clear h1 h2
      go_wp2_with fail
      refine HI.out.mono ?_
      rintro e w3 ⟨rfl,rfl⟩
      go_wp2
      go_ret
      exact ⟨ret_bool (bool_no HR.out fun ho=>Hno.out ho).symm,HB1.out⟩
     ·have Ht:=Lib.hid (show tb=0 ∨ k=1 by omega)
      rcases h2 with ⟨h2,h3⟩ | h2
      ·have Hno:=Lib.hid (show ¬ ((1 ≤ k ∧ k ≤ 8) ∧ (nk:Int)=nkids k ∧ (ne:Int)=nexprs k ne ∧ (tb=0 ∨ k=1) ∧ (nc=0 ∨ k=8)) from fun ho=>by omega)
       have h2':((nc:Int) == 0)=false:=by simpa using h2
       have h2n:(nc == 0)=false:=by simpa using h2
       have h3':(k == 8)=false:=by simpa using h3
       clear h2 h3
       rcases h1 with rfl | ⟨h1,rfl⟩
       ·go_wp2_with fail
        refine HI.out.mono ?_
        rintro e w3 ⟨rfl,rfl⟩
        go_wp2
        go_ret
        exact ⟨ret_bool (bool_no HR.out fun ho=>Hno.out ho).symm,HB1.out⟩
       ·have h1':(tb == 0)=false:=by simpa using h1
        clear h1
        go_wp2_with fail
        refine HI.out.mono ?_
        rintro e w3 ⟨rfl,rfl⟩
        go_wp2
        go_ret
        exact ⟨ret_bool (bool_no HR.out fun ho=>Hno.out ho).symm,HB1.out⟩
      ·have Hyes:=Lib.hid (show ((1 ≤ k ∧ k ≤ 8) ∧ (nk:Int)=nkids k ∧ (ne:Int)=nexprs k ne ∧ (tb=0 ∨ k=1) ∧ (nc=0 ∨ k=8)) from ⟨hkr,HBe.out,HCe.out,Ht.out,by omega⟩)
       rcases h2 with rfl | ⟨h2,rfl⟩
       ·rcases h1 with rfl | ⟨h1,rfl⟩
        ·go_wp2_with fail
         refine HI.out.mono ?_
         rintro e w3 ⟨rfl,rfl⟩
         go_wp2
         go_ret
         exact ⟨ret_bool (HR.out.2 Hyes.out).symm,HB1.out⟩
        ·have h1':(tb == 0)=false:=by simpa using h1
         clear h1
         go_wp2_with fail
         refine HI.out.mono ?_
         rintro e w3 ⟨rfl,rfl⟩
         go_wp2
         go_ret
         exact ⟨ret_bool (HR.out.2 Hyes.out).symm,HB1.out⟩
       ·have h2':((nc:Int) == 0)=false:=by simpa using h2
        have h2n:(nc == 0)=false:=by simpa using h2
        clear h2
        rcases h1 with rfl | ⟨h1,h3⟩
        ·go_wp2_with fail
         refine HI.out.mono ?_
         rintro e w3 ⟨rfl,rfl⟩
         go_wp2
         go_ret
         exact ⟨ret_bool (HR.out.2 Hyes.out).symm,HB1.out⟩
        ·exact absurd h3 (by decide)
end Go.Proofs.YtcbfbgngkdiijaaGreat

namespace Go.Proofs.YtcbfbgngkdiijaaGreat
open Go.RowKit Go.Qo
set_option linter.unusedVariables false
set_option linter.unusedSimpArgs false

section
variable {ws:List Int} {p:Pl} {a b:Int}
open Classical
theorem topW1 (h:p.kind=1):topW ws p a b=if 0 ≤ p.table ∧ p.table < ws.length then ws.getD p.table.toNat 0 else 0:=by unfold topW;rw [if_pos h]
theorem topW2 (h:p.kind=2):topW ws p a b=if ∀ e ∈ p.exprs,EOk a e then a else 0:=by unfold topW;rw [if_neg (by omega),if_pos h]
theorem topW3 (h:p.kind=3):topW ws p a b=projW p.exprs a:=by unfold topW projW;rw [if_neg (by omega),if_neg (by omega),if_pos h]
theorem topW45 (h:p.kind=4 ∨ p.kind=5):topW ws p a b=if a + b ≤ 6 ∧ ∀ e ∈ p.exprs,EOk (a + b) e then a + b else 0:=by unfold topW;rw [if_neg (by omega),if_neg (by omega),if_neg (by omega),if_pos h]
theorem topW6 (h:p.kind=6):topW ws p a b=if a=b then a else 0:=by unfold topW;rw [if_neg (by omega),if_neg (by omega),if_neg (by omega),if_neg (by omega),if_pos h]
theorem topW7 (h:p.kind=7):topW ws p a b=a:=by unfold topW;rw [if_neg (by omega),if_neg (by omega),if_neg (by omega),if_neg (by omega),if_neg (by omega),if_pos h]
theorem topW8 (h:p.kind=8):topW ws p a b=if ColsOk p.cols a ∧ p.cols.length < 6 then (p.cols.length:Int) + 1 else 0:=by unfold topW;rw [if_neg (by omega),if_neg (by omega),if_neg (by omega),if_neg (by omega),if_neg (by omega),if_neg (by omega)]
end

theorem zeroIntT:(Tryz.prog.info? 3).map (fun i=>(i.zero,i.size,i.bytes))=some (some (.int .i64 0),1,8):=by kernel_rfl
def PwS (p:Pl):Prop:=∀ (f:FP) (ws:List Int) (A:Option Addr) (c d:Nat) (w:World) (R:Int),PlIn w w.heap.size f p → (∀ x ∈ ws,1 ≤ x ∧ x ≤ 6) → ws.length ≤ maxLen → Sl 1 intC w w.heap.size A ws → d ≤ 100 → plW ws d p=R →
 Calls Tryz.prog 45 #[fpV f,.slice A ws.length c,.int .i64 d] w fun e w'=>e=.returned (.int .i64 R) ∧ Below w.heap.size w w'

set_option maxRecDepth 20000 in
set_option maxHeartbeats 4000000 in
theorem planWidth_ok:∀ p:Pl,PwS p:=Pl.ind fun p ih f ws A c d w R h hws hwl hsl hd hr=>by
 obtain ⟨a1,a2,⟨a3,a3',a3''⟩,⟨a4,a4',a4''⟩,⟨a5,a5',a5''⟩,a6,a7⟩:=h.flat
 obtain ⟨W1,hW1⟩:∃ z,w.alloc (.cells #[.int .i64 p.kind,.int .i64 p.table,.slice f.es.A p.exprs.length f.es.c,.slice f.cs.A p.cols.length f.cs.c,.slice f.ks.A p.kids.length f.ks.c] 38)=z:=⟨_,rfl⟩
 have B1:Below w.heap.size w W1:=by rw [← hW1];exact balloc (Below.refl _ _) _
 have r1:Row W1 w.heap.size 38 [.int .i64 p.kind,.int .i64 p.table,.slice f.es.A p.exprs.length f.es.c,.slice f.cs.A p.cols.length f.cs.c,.slice f.ks.A p.kids.length f.ks.c]:=by rw [← hW1];exact Row.new _ _ _
 obtain ⟨W2,hW2⟩:∃ z,W1.alloc (.cells #[] 3)=z:=⟨_,rfl⟩
 have B2:Below W1.heap.size W1 W2:=by rw [← hW2];exact balloc (Below.refl _ _) _
 have O2:=Lib.hid (show Ow W1.heap.size 3 1 intC W2 (.slice (some ⟨W1.heap.size,0,none⟩) 0 0) ([]:List Int) by rw [← hW2];exact Ow.lit (xs:=([]:List Int)) rfl rfl (Nat.le_refl _) (by decide))
 have BX:=Lib.hid (fun (z:World) (hz:Below W1.heap.size W1 z)=>show z.cell? ⟨w.heap.size,0,none⟩=some (.int .i64 p.kind) ∧ z.cell? ⟨w.heap.size,1,none⟩=some (.int .i64 p.table) ∧ z.cell? ⟨w.heap.size,2,none⟩=some (.slice f.es.A p.exprs.length f.es.c) ∧ z.cell? ⟨w.heap.size,3,none⟩=some (.slice f.cs.A p.cols.length f.cs.c) ∧ z.cell? ⟨w.heap.size,4,none⟩=some (.slice f.ks.A p.kids.length f.ks.c)
  from ⟨(r1.on hz).cell 0,(r1.on hz).cell 1,(r1.on hz).cell 2,(r1.on hz).cell 3,(r1.on hz).cell 4⟩)
 have hlt1:=r1.lt
 have HP:=Lib.hid (fun (z:World) (hz:Below W1.heap.size W1 z)=>h.on (bch B1 hz))
 have HS:=Lib.hid (fun (z:World) (hz:Below W1.heap.size W1 z)=>hsl.on (bch B1 hz))
 have HE:=Lib.hid (fun (z:World) (hz:Below W1.heap.size W1 z)=>a6.on (bch B1 hz))
 have HC:=Lib.hid (fun (z:World) (hz:Below W1.heap.size W1 z)=>a7.on (bch B1 hz))
 have IH:=Lib.hid ih
 have HR:=Lib.hid hr
 have HWS:=Lib.hid hws
 have HB1:=Lib.hid B1
 have HB2:=Lib.hid B2
 have HW1:=Lib.hid hW1
 have HW2:=Lib.hid hW2
 have hx:p.exprs.length ≤ maxLen ∧ p.kids.length ≤ maxLen ∧ p.cols.length ≤ maxLen:=by omega
 unfold maxLen at hx hwl
 obtain ⟨hx1,hx2,hx3⟩:=hx
 obtain ⟨q,hq⟩:=bool_of (P:=OnlyF p)
 have HO:=Lib.hid (onlyFields_ok p ⟨p.kind,p.table,⟨f.es.A,p.exprs.length,f.es.c⟩,⟨f.cs.A,p.cols.length,f.cs.c⟩,⟨f.ks.A,p.kids.length,f.ks.c⟩⟩ W2 q (by
  have h2:=h.on (bch B1 B2)
  obtain ⟨fk,ft,⟨e1,e2,e3⟩,⟨g1,g2,g3⟩,⟨k1,k2,k3⟩⟩:=f
  simp only at a1 a2 a3 a4 a5
  subst a1 a2 a3 a4 a5
  exact h2) hq)
 unfold fpV at HO
 have Hq:=Lib.hid hq
 unfold fpV
 rw [a1,a2,a3,a4,a5]
 have z2:=BX.out W2 B2
 obtain ⟨c0,c1,c2,c3,c4⟩:=z2
 clear h hr hws hsl ih hq a1 a2 a3 a4 a5 a3' a3'' a4' a4'' a5' a5'' a6 a7 B1 r1 B2 hW1 hW2
 cases q with
 | false=>
   have hz:R=0:=by
    rw [← HR.out]
    exact plW_no fun ho=>by have:=Hq.out.2 ho;cases this
   have Hz:=Lib.hid hz
   clear hz
   go_enter Tryz.func45,Tryz.ntmps45
   go_upto_region 1 with fail
   rw [HW1.out]
   go_upto_region 2 with fail
   rw [HW2.out]
   go_wp2_with fail
   refine HO.out.mono ?_
   rintro e w3 ⟨rfl,hb3⟩
   go_wp2
   go_ret
   exact ⟨ret_int Hz.out.symm,bch (bch HB1.out HB2.out) hb3⟩
 | true=>
   have Hof:=Lib.hid (Hq.out.1 rfl)
   by_cases hdz:0 < p.kids.length ∧ d=0
   ·obtain ⟨hpos,rfl⟩:=hdz
    have Hz:=Lib.hid (show R=0 by rw [← HR.out];exact plW_deep hpos)
    have hposI:(0:Int) < (p.kids.length:Int):=by omega
    go_enter Tryz.func45,Tryz.ntmps45
    go_upto_region 1 with fail
    rw [HW1.out]
    go_upto_region 2 with fail
    rw [HW2.out]
    go_wp2_with fail
    refine HO.out.mono ?_
    rintro e w3 ⟨rfl,hb3⟩
    have z3:=BX.out _ (bch HB2.out hb3)
    obtain ⟨d0,d1,d2,d3,d4⟩:=z3
    go_wp2
    go_ret
    exact ⟨ret_int Hz.out.symm,bch (bch HB1.out HB2.out) hb3⟩
   ·have Hdz:=Lib.hid (show 0 < p.kids.length → 0 < d from fun h1=>by omega)
    have hcase:(0 < p.kids.length ∧ ((d:Int) == 0)=false) ∨ ¬ 0 < p.kids.length:=by
     by_cases h0:0 < p.kids.length
     ·refine .inl ⟨h0,?_⟩
      have:d ≠ 0:=by omega
      simpa using this
     ·exact .inr h0
    clear hdz
    rcases hcase with ⟨hpos,hdne⟩ | hpos
    all_goals
     go_enter Tryz.func45,Tryz.ntmps45
     go_upto_region 1 with fail
     rw [HW1.out]
     go_upto_region 2 with fail
     rw [HW2.out]
     go_wp2_with fail
     refine HO.out.mono ?_
     rintro e w3 ⟨rfl,hb3⟩
     have z3:=BX.out _ (bch HB2.out hb3)
     obtain ⟨d0,d1,d2,d3,d4⟩:=z3
     have HB3:=Lib.hid (bch HB2.out hb3)
     have O3:=Lib.hid (O2.out.on hb3)
     clear hb3
     go_wp2
     clear c0 c1 c2 c3 c4 d0 d1 d2 d3 d4 hpos
     go_loopg [7,8,9] p.kids.length (fun g v iv nv wr=>∃ xs:List Int,xs.length ≤ p.kids.length ∧ g=p.kids.length - xs.length ∧ iv=.int .i64 xs.length ∧ (∀ j (hj:j < p.kids.length),j < xs.length → plW ws (d - 1) p.kids[j] ≠ 0 ∧ xs[j]? = some (plW ws (d - 1) p.kids[j])) ∧ Ow W1.heap.size 3 1 intC wr v xs ∧ Below W1.heap.size W1 wr)
     case atStart=>exact ⟨[],by simp,by simp,rfl,fun j hj hn=>absurd hn (by simp),O3.out,HB3.out⟩
     case round=>
      obtain ⟨xs,hxl,rfl,rfl,hall,how,hb⟩:=hrel
      have HA:=Lib.hid hall
      have HOw:=Lib.hid how
      have HB:=Lib.hid hb
      have z4:=BX.out _ hb
      obtain ⟨c0,c1,c2,c3,c4⟩:=z4
      have hsz:=hb.size
      have hk2:p.kids.length ≤ 2:=Hof.out.kids_le
      clear hall how hb
      by_cases hlt:xs.length < p.kids.length
      ·obtain ⟨b1,o1,g,hA,hBl,⟨d0,d1,d2,d3,d4⟩,hg⟩:=(HP.out wr HB.out).kid hlt
       obtain ⟨rk,hrk⟩:∃ rk,plW ws (d - 1) p.kids[xs.length]=rk:=⟨_,rfl⟩
       have hd1:=Hdz.out (by omega)
       have HX:=Lib.hid (IH.out _ (List.getElem_mem hlt) g ws A c (d - 1) wr rk hg HWS.out (by unfold maxLen;exact hwl) (HS.out wr HB.out) (by omega) hrk)
       have ed:((d - 1:Nat):Int)=(d:Int) - 1:=by omega
       unfold fpV at HX
       rw [ed] at HX
       have Hrk:=Lib.hid hrk
       have hil:(xs.length:Int) < (p.kids.length:Int):=by omega
       rw [hA] at c4
       clear hrk hg hA ed
       by_cases hz:rk=0
       ·have Hz:=Lib.hid (show R=0 by
         rw [← HR.out,show d=(d - 1) + 1 by omega]
         exact plW_kid (List.getElem_mem hlt) (Hrk.out.trans hz))
        subst hz
        go_wp2_with fail
        refine HX.out.mono ?_
        rintro e w4 ⟨rfl,hb4⟩
        go_wp2
        go_ret
        exact ⟨ret_int Hz.out.symm,bch (bch HB1.out HB.out) hb4⟩
       ·have Hz:=Lib.hid hz
        have hz':(rk == 0)=false:=by simpa using hz
        clear hz
        go_wp2_with fail
        refine HX.out.mono ?_
        rintro e w4 ⟨rfl,hb4⟩
        have HB4:=Lib.hid (bch HB.out hb4)
        have HO4:=Lib.hid ((HOw.out.on hb4).on (balloc (Below.refl _ _) (.cells #[.int .i64 rk] 3)))
        have HS4:=Lib.hid (Row.sl' (w:=w4.alloc (.cells #[.int .i64 rk] 3)) (t:=3) (xs:=[rk]) intC_length ((Row.new w4 _ _).of rfl))
        have hsz4:W1.heap.size ≤ (w4.alloc (.cells #[.int .i64 rk] 3)).heap.size:=by have:=HB4.out.size;simp;omega
        clear hb4
        go_wp2_with (at_builtin;refine wpList_app rfl (.tmp 42) (.tmp 44) 23 rfl W1.heap.size 3 _ 1 8 intC Tryz.underlying23 zeroIntT rfl (by decide) (by decide) intC_length intC_one _ xs rfl HO4.out (some ⟨w4.heap.size,0,none⟩) 1 1 [rk] rfl rfl HS4.out (by simp;omega) hsz4 ?_;intro v' w' hown hgr)
        go_roundg (p.kids.length - (xs.length + 1))
        case measure=>omega
        case rel=>
         refine ⟨xs ++ [rk],by simp;omega,by simp,by simp,fun j hj hn=>?_,hown,?_⟩
         ·by_cases hji:j < xs.length
          ·have h1:=HA.out j hj hji
           exact ⟨h1.1,by rw [List.getElem?_append_left hji];exact h1.2⟩
          ·have hje:j=xs.length:=by simp at hn;omega
           subst hje
           rw [Hrk.out]
           exact ⟨Hz.out,by simp⟩
         ·exact (balloc HB4.out _).grown hgr hsz4 fun k hk=>(HO4.out.ty k hk).1
      ·have hxe:xs.length=p.kids.length:=by omega
       have Hall:=Lib.hid (show ∀ y ∈ p.kids,plW ws (d - 1) y ≠ 0 from fun y hy=>by
        obtain ⟨j,hj,rfl⟩:=List.getElem_of_mem hy
        exact (HA.out j hj (by omega)).1)
       have Hkw:=Lib.hid (show ∀ i,kidW (plW ws (d - 1)) p i=xs.getD i 0 from fun i=>by
        unfold kidW
        split
        ·rename_i y hy
         obtain ⟨hj,rfl⟩:=List.getElem?_eq_some_iff.1 hy
         rw [List.getD_eq_getElem?_getD,(HA.out i hj (by omega)).2]
         rfl
        ·rename_i hy
         have:=List.getElem?_eq_none_iff.1 hy
         rw [List.getD_eq_getElem?_getD,List.getElem?_eq_none (by omega)]
         rfl)
       have HT:=Lib.hid (show topW ws p (xs.getD 0 0) (xs.getD 1 0)=R by
        rw [← HR.out,plW_top Hof.out Hdz.out Hall.out,Hkw.out,Hkw.out])
       have Hrg:=Lib.hid (show ∀ x ∈ xs,0 ≤ x ∧ x ≤ 6 from fun x hx=>by
        obtain ⟨j,hj,rfl⟩:=List.getElem_of_mem hx
        have h1:=(HA.out j (by omega) hj).2
        rw [List.getElem?_eq_getElem hj] at h1
        have h2:=Option.some.inj h1
        rw [h2]
        exact plW_range HWS.out _ _)
       have HBr:=Lib.hid (bch HB1.out HB.out)
       obtain ⟨Av,cv,rfl,hc1,hc2,hsv⟩:=HOw.out.shape intC_length
       have hk8:p.kind=1 ∨ p.kind=2 ∨ p.kind=3 ∨ p.kind=4 ∨ p.kind=5 ∨ p.kind=6 ∨ p.kind=7 ∨ p.kind=8:=by have:=Hof.out.1;omega
       rcases hk8 with hk | hk | hk | hk | hk | hk | hk | hk
       ·have hT:=HT.out
        rw [topW1 hk] at hT
        rw [hk] at c0
        have HTb:=Lib.hid hT
        obtain ⟨tb,htb⟩:∃ t,p.table=t:=⟨_,rfl⟩
        rw [htb] at c1 HTb
        obtain ⟨q,hq⟩:∃ q,(decide (0 ≤ tb) && decide (tb ≤ (ws.length:Int) - 1))=q:=⟨_,rfl⟩
        have HI:=Lib.hid (inRange_ok tb 0 ((ws.length:Int) - 1) wr q hq)
        have Hq:=Lib.hid hq
        clear hq hT hk htb
        cases q
        ·have Hz:=Lib.hid (show R=0 by rw [← HTb.out,if_neg];have:=Hq.out;simp at this;omega)
         go_wp2_with fail
         refine HI.out.mono ?_
         rintro e w5 ⟨rfl,rfl⟩
         go_wp2
         go_ret
         exact ⟨ret_int Hz.out.symm,HBr.out⟩
        ·have htr:0 ≤ tb ∧ tb ≤ (ws.length:Int) - 1:=by have:=Hq.out;simpa using this
         obtain ⟨j,rfl⟩:=Int.eq_ofNat_of_zero_le htr.1
         have hjl:j < ws.length:=by omega
         have hjI:(j:Int) < (ws.length:Int):=by omega
         have Hz:=Lib.hid (show R=ws[j] by rw [← HTb.out,if_pos (by omega)];simp [List.getD_eq_getElem?_getD,hjl])
         obtain ⟨bs,os,hAs,hBs,cs⟩:=(HS.out wr HB.out).at1 hjl
         subst hAs
         clear htr
         go_wp2_with fail
         refine HI.out.mono ?_
         rintro e w5 ⟨rfl,rfl⟩
         go_wp2
         go_ret
         exact ⟨ret_int Hz.out.symm,HBr.out⟩
       ·have hn1:xs.length=1:=by have:=Hof.out.2.1;rw [hk] at this;simp [nkids] at this;omega
        rw [hn1]
        have hnlt:¬ 1 < p.kids.length:=by omega
        have hnltI:¬ (1:Int) < (p.kids.length:Int):=by omega
        obtain ⟨a,rfl⟩:∃ a,xs=[a]:=List.length_eq_one_iff.1 hn1
        clear hn1
        have ha:=Hrg.out a (by simp)
        obtain ⟨bv,ov,hAv,hBv,cv0⟩:=hsv.sl.at1 (i:=0) (by simp)
        subst hAv
        have cv0':wr.cell? ⟨bv,ov,none⟩=some (.int .i64 a):=by simpa using cv0
        have V0:=fun z:Aft wr.heap.size wr=>z.cell hBv cv0'
        clear cv0
        have hel:p.exprs.length=1:=by have:=Hof.out.2.2.1;rw [hk] at this;simp [nexprs] at this;omega
        have HEl:=Lib.hid hel
        obtain ⟨e0,he0⟩:∃ e0,p.exprs=[e0]:=List.length_eq_one_iff.1 hel
        have hE:=HE.out wr HB.out
        rw [he0] at hE
        obtain ⟨be,oe,ge,hAe,hBe,⟨g0,g1,g2,g3,g4⟩,hge⟩:=hE.at_ (i:=0) (by simp)
        simp only [Nat.zero_mul,Nat.add_zero,List.getElem_cons_zero] at g0 g1 g2 g3 g4 hge
        have P2:=fun z:Aft wr.heap.size wr=>(BX.out z.v (bch HB.out z.h)).2.2.1
        rw [hAe,he0] at c2 P2
        simp only [List.length_singleton] at c2 P2
        have G0:=fun z:Aft wr.heap.size wr=>z.cell hBe g0
        have G1:=fun z:Aft wr.heap.size wr=>z.cell hBe g1
        have G2:=fun z:Aft wr.heap.size wr=>z.cell hBe g2
        have G3:=fun z:Aft wr.heap.size wr=>z.cell hBe g3
        have G4:=fun z:Aft wr.heap.size wr=>z.cell hBe g4
        have hT:=HT.out
        rw [topW2 hk,he0] at hT
        rw [hk] at c0
        obtain ⟨q,hq⟩:=bool_of (P:=EOk a e0)
        have HV:=Lib.hid (fun z:Aft wr.heap.size wr=>specValidExpr_ok e0 ge a z.v q (hge.on z.h) hq)
        unfold feV at HV
        have Hz:=Lib.hid (show R=if q=true then a else 0 by
         rw [← hT]
         by_cases h0:EOk a e0
         ·rw [if_pos (by simpa using h0),if_pos (hq.2 h0)]
          rfl
         ·rw [if_neg (by simpa using h0),if_neg (fun h1=>h0 (hq.1 h1))])
        clear hq hT hk he0 hE hel hge hAe g0 g1 g2 g3 g4 hsv
        go_wp2
        refine wp_region_aft wr.heap.size (by kernel_rfl) (by kernel_rfl) ?_
        repeat (go_big_quiet_step ((go_at_call 66;exact Calls.aft (Nat.le_refl _) (HV.out _))))
        refine wpQuiet_nil ?_
        intro w5 hw'
        obtain ⟨⟨_,hb5⟩,rfl⟩:=hw'
        have V5:=V0 ⟨w5,hb5⟩
        cases q
        ·go_wp2
         go_ret
         exact ⟨ret_int (by simpa using Hz.out.symm),bch HBr.out hb5⟩
        ·go_wp2
         go_ret
         exact ⟨ret_int (by simpa using Hz.out.symm),bch HBr.out hb5⟩
       ·have hn1:xs.length=1:=by have:=Hof.out.2.1;rw [hk] at this;simp [nkids] at this;omega
        rw [hn1]
        have hnlt:¬ 1 < p.kids.length:=by omega
        have hnltI:¬ (1:Int) < (p.kids.length:Int):=by omega
        obtain ⟨a,rfl⟩:∃ a,xs=[a]:=List.length_eq_one_iff.1 hn1
        clear hn1
        have ha:=Hrg.out a (by simp)
        obtain ⟨bv,ov,hAv,hBv,cv0⟩:=hsv.sl.at1 (i:=0) (by simp)
        subst hAv
        have cv0':wr.cell? ⟨bv,ov,none⟩=some (.int .i64 a):=by simpa using cv0
        have V0:=fun z:Aft wr.heap.size wr=>z.cell hBv cv0'
        clear cv0
        have P2:=fun z:Aft wr.heap.size wr=>(BX.out z.v (bch HB.out z.h)).2.2.1
        have hT:=HT.out
        rw [topW3 hk] at hT
        rw [hk] at c0
        have HV:=Lib.hid (fun z:Aft wr.heap.size wr=>projectWidth_ok p.exprs f.es.A f.es.c a z.v R (by unfold maxLen;exact hx1) ((HE.out wr HB.out).on z.h) hT)
        clear hT hk hsv
        go_wp2
        refine wp_region_aft wr.heap.size (by kernel_rfl) (by kernel_rfl) ?_
        repeat (go_big_quiet_step ((go_at_call 67;exact Calls.aft (Nat.le_refl _) (HV.out _))))
        refine wpQuiet_nil ?_
        intro w5 hw'
        obtain ⟨⟨_,hb5⟩,rfl⟩:=hw'
        go_wp2
        go_ret
        exact ⟨rfl,bch HBr.out hb5⟩
       ·have hn2:xs.length=2:=by have:=Hof.out.2.1;rw [hk] at this;simp [nkids] at this;omega
        rw [hn2]
        have hnlt:¬ 2 < p.kids.length:=by omega
        have hnltI:¬ (2:Int) < (p.kids.length:Int):=by omega
        obtain ⟨a,b,rfl⟩:∃ a b,xs=[a,b]:=by
         match xs,hn2 with
         | [a,b],_=>exact ⟨a,b,rfl⟩
        clear hn2
        have ha:=Hrg.out a (by simp)
        have hb:=Hrg.out b (by simp)
        obtain ⟨bv,ov,hAv,hBv,cv0⟩:=hsv.sl.at1 (i:=0) (by simp)
        obtain ⟨bv',ov',hAv',hBv',cv1⟩:=hsv.sl.at1 (i:=1) (by simp)
        rw [hAv] at hAv'
        cases hAv'
        subst hAv
        have cv0':wr.cell? ⟨bv,ov,none⟩=some (.int .i64 a):=by simpa using cv0
        have cv1':wr.cell? ⟨bv,ov + 1,none⟩=some (.int .i64 b):=by simpa using cv1
        have V0:=fun z:Aft wr.heap.size wr=>z.cell hBv cv0'
        have V1:=fun z:Aft wr.heap.size wr=>z.cell hBv cv1'
        clear cv0 cv1
        have hel:p.exprs.length=1:=by have:=Hof.out.2.2.1;rw [hk] at this;simp [nexprs] at this;omega
        have HEl:=Lib.hid hel
        obtain ⟨e0,he0⟩:∃ e0,p.exprs=[e0]:=List.length_eq_one_iff.1 hel
        have hE:=HE.out wr HB.out
        rw [he0] at hE
        obtain ⟨be,oe,ge,hAe,hBe,⟨g0,g1,g2,g3,g4⟩,hge⟩:=hE.at_ (i:=0) (by simp)
        simp only [Nat.zero_mul,Nat.add_zero,List.getElem_cons_zero] at g0 g1 g2 g3 g4 hge
        have P2:=fun z:Aft wr.heap.size wr=>(BX.out z.v (bch HB.out z.h)).2.2.1
        rw [hAe,he0] at c2 P2
        simp only [List.length_singleton] at c2 P2
        have G0:=fun z:Aft wr.heap.size wr=>z.cell hBe g0
        have G1:=fun z:Aft wr.heap.size wr=>z.cell hBe g1
        have G2:=fun z:Aft wr.heap.size wr=>z.cell hBe g2
        have G3:=fun z:Aft wr.heap.size wr=>z.cell hBe g3
        have G4:=fun z:Aft wr.heap.size wr=>z.cell hBe g4
        have hT:=HT.out
        rw [topW45 (.inl hk),he0] at hT
        rw [hk] at c0
        obtain ⟨q,hq⟩:=bool_of (P:=EOk (a + b) e0)
        have HV:=Lib.hid (fun z:Aft wr.heap.size wr=>specValidExpr_ok e0 ge (a + b) z.v q (hge.on z.h) hq)
        unfold feV at HV
        have hsum:(a + b:Int) ≤ 12 ∧ 0 ≤ a + b:=by omega
        by_cases h6:a + b ≤ 6
        ·have Hz:=Lib.hid (show R=if q=true then a + b else 0 by
          rw [← hT]
          by_cases h0:EOk (a + b) e0
          ·rw [if_pos ⟨h6,by simpa using h0⟩,if_pos (hq.2 h0)]
           rfl
          ·rw [if_neg (fun h1=>h0 (by simpa using h1.2)),if_neg (fun h1=>h0 (hq.1 h1))])
         clear hq hT hk he0 hE hel hge hAe g0 g1 g2 g3 g4 hsv
         go_wp2
         refine wp_region_aft wr.heap.size (by kernel_rfl) (by kernel_rfl) ?_
         repeat (go_big_quiet_step ((go_at_call 66;exact Calls.aft (Nat.le_refl _) (HV.out _))))
         refine wpQuiet_nil ?_
         intro w5 hw'
         obtain ⟨⟨_,hb5⟩,rfl⟩:=hw'
         have V5:=V0 ⟨w5,hb5⟩
         have V6:=V1 ⟨w5,hb5⟩
         cases q
         ·go_wp2
          go_ret
          exact ⟨ret_int (by simpa using Hz.out.symm),bch HBr.out hb5⟩
         ·have hs5:=hb5.size
          have V50:=fun z:Aft w5.heap.size w5=>z.cell (by omega) V5
          have V60:=fun z:Aft w5.heap.size w5=>z.cell (by omega) V6
          have HB5:=Lib.hid (bch HBr.out hb5)
          clear hb5 V5 V6
          go_wp2
          refine wp_region_aft w5.heap.size (by kernel_rfl) (by kernel_rfl) ?_
          repeat (go_big_quiet_step ((go_at_call 66;exact Calls.aft (Nat.le_refl _) (HV.out _))))
          refine wpQuiet_nil ?_
          intro w6 hw'
          obtain ⟨⟨_,hb6⟩,rfl⟩:=hw'
          go_wp2
          go_ret
          exact ⟨ret_int (by simpa using Hz.out.symm),bch HB5.out hb6⟩
        ·have Hz:=Lib.hid (show R=0 by rw [← hT,if_neg (fun h1=>h6 h1.1)])
         clear hq hT hk he0 hE hel hge hAe g0 g1 g2 g3 g4 hsv HV
         have h6':(decide (a + b ≤ 6))=false:=by simpa using h6
         go_wp2
         refine wp_region_aft wr.heap.size (by kernel_rfl) (by kernel_rfl) ?_
         repeat (go_big_quiet_step ((go_at_call 66;exact Calls.aft (Nat.le_refl _) (nothing))))
         refine wpQuiet_nil ?_
         intro w5 hw'
         obtain ⟨⟨_,hb5⟩,rfl⟩:=hw'
         go_wp2
         go_ret
         exact ⟨ret_int Hz.out.symm,bch HBr.out hb5⟩
       ·have hn2:xs.length=2:=by have:=Hof.out.2.1;rw [hk] at this;simp [nkids] at this;omega
        rw [hn2]
        have hnlt:¬ 2 < p.kids.length:=by omega
        have hnltI:¬ (2:Int) < (p.kids.length:Int):=by omega
        obtain ⟨a,b,rfl⟩:∃ a b,xs=[a,b]:=by
         match xs,hn2 with
         | [a,b],_=>exact ⟨a,b,rfl⟩
        clear hn2
        have ha:=Hrg.out a (by simp)
        have hb:=Hrg.out b (by simp)
        obtain ⟨bv,ov,hAv,hBv,cv0⟩:=hsv.sl.at1 (i:=0) (by simp)
        obtain ⟨bv',ov',hAv',hBv',cv1⟩:=hsv.sl.at1 (i:=1) (by simp)
        rw [hAv] at hAv'
        cases hAv'
        subst hAv
        have cv0':wr.cell? ⟨bv,ov,none⟩=some (.int .i64 a):=by simpa using cv0
        have cv1':wr.cell? ⟨bv,ov + 1,none⟩=some (.int .i64 b):=by simpa using cv1
        have V0:=fun z:Aft wr.heap.size wr=>z.cell hBv cv0'
        have V1:=fun z:Aft wr.heap.size wr=>z.cell hBv cv1'
        clear cv0 cv1
        have hel:p.exprs.length=1:=by have:=Hof.out.2.2.1;rw [hk] at this;simp [nexprs] at this;omega
        have HEl:=Lib.hid hel
        obtain ⟨e0,he0⟩:∃ e0,p.exprs=[e0]:=List.length_eq_one_iff.1 hel
        have hE:=HE.out wr HB.out
        rw [he0] at hE
        obtain ⟨be,oe,ge,hAe,hBe,⟨g0,g1,g2,g3,g4⟩,hge⟩:=hE.at_ (i:=0) (by simp)
        simp only [Nat.zero_mul,Nat.add_zero,List.getElem_cons_zero] at g0 g1 g2 g3 g4 hge
        have P2:=fun z:Aft wr.heap.size wr=>(BX.out z.v (bch HB.out z.h)).2.2.1
        rw [hAe,he0] at c2 P2
        simp only [List.length_singleton] at c2 P2
        have G0:=fun z:Aft wr.heap.size wr=>z.cell hBe g0
        have G1:=fun z:Aft wr.heap.size wr=>z.cell hBe g1
        have G2:=fun z:Aft wr.heap.size wr=>z.cell hBe g2
        have G3:=fun z:Aft wr.heap.size wr=>z.cell hBe g3
        have G4:=fun z:Aft wr.heap.size wr=>z.cell hBe g4
        have hT:=HT.out
        rw [topW45 (.inr hk),he0] at hT
        rw [hk] at c0
        obtain ⟨q,hq⟩:=bool_of (P:=EOk (a + b) e0)
        have HV:=Lib.hid (fun z:Aft wr.heap.size wr=>specValidExpr_ok e0 ge (a + b) z.v q (hge.on z.h) hq)
        unfold feV at HV
        have hsum:(a + b:Int) ≤ 12 ∧ 0 ≤ a + b:=by omega
        by_cases h6:a + b ≤ 6
        ·have Hz:=Lib.hid (show R=if q=true then a + b else 0 by
          rw [← hT]
          by_cases h0:EOk (a + b) e0
          ·rw [if_pos ⟨h6,by simpa using h0⟩,if_pos (hq.2 h0)]
           rfl
          ·rw [if_neg (fun h1=>h0 (by simpa using h1.2)),if_neg (fun h1=>h0 (hq.1 h1))])
         clear hq hT hk he0 hE hel hge hAe g0 g1 g2 g3 g4 hsv
         go_wp2
         refine wp_region_aft wr.heap.size (by kernel_rfl) (by kernel_rfl) ?_
         repeat (go_big_quiet_step ((go_at_call 66;exact Calls.aft (Nat.le_refl _) (HV.out _))))
         refine wpQuiet_nil ?_
         intro w5 hw'
         obtain ⟨⟨_,hb5⟩,rfl⟩:=hw'
         have V5:=V0 ⟨w5,hb5⟩
         have V6:=V1 ⟨w5,hb5⟩
         cases q
         ·go_wp2
          go_ret
          exact ⟨ret_int (by simpa using Hz.out.symm),bch HBr.out hb5⟩
         ·have hs5:=hb5.size
          have V50:=fun z:Aft w5.heap.size w5=>z.cell (by omega) V5
          have V60:=fun z:Aft w5.heap.size w5=>z.cell (by omega) V6
          have HB5:=Lib.hid (bch HBr.out hb5)
          clear hb5 V5 V6
          go_wp2
          refine wp_region_aft w5.heap.size (by kernel_rfl) (by kernel_rfl) ?_
          repeat (go_big_quiet_step ((go_at_call 66;exact Calls.aft (Nat.le_refl _) (HV.out _))))
          refine wpQuiet_nil ?_
          intro w6 hw'
          obtain ⟨⟨_,hb6⟩,rfl⟩:=hw'
          go_wp2
          go_ret
          exact ⟨ret_int (by simpa using Hz.out.symm),bch HB5.out hb6⟩
        ·have Hz:=Lib.hid (show R=0 by rw [← hT,if_neg (fun h1=>h6 h1.1)])
         clear hq hT hk he0 hE hel hge hAe g0 g1 g2 g3 g4 hsv HV
         have h6':(decide (a + b ≤ 6))=false:=by simpa using h6
         go_wp2
         refine wp_region_aft wr.heap.size (by kernel_rfl) (by kernel_rfl) ?_
         repeat (go_big_quiet_step ((go_at_call 66;exact Calls.aft (Nat.le_refl _) (nothing))))
         refine wpQuiet_nil ?_
         intro w5 hw'
         obtain ⟨⟨_,hb5⟩,rfl⟩:=hw'
         go_wp2
         go_ret
         exact ⟨ret_int Hz.out.symm,bch HBr.out hb5⟩
       ·have hn2:xs.length=2:=by have:=Hof.out.2.1;rw [hk] at this;simp [nkids] at this;omega
        rw [hn2]
        have hnlt:¬ 2 < p.kids.length:=by omega
        have hnltI:¬ (2:Int) < (p.kids.length:Int):=by omega
        obtain ⟨a,b,rfl⟩:∃ a b,xs=[a,b]:=by
         match xs,hn2 with
         | [a,b],_=>exact ⟨a,b,rfl⟩
        clear hn2
        have ha:=Hrg.out a (by simp)
        have hb:=Hrg.out b (by simp)
        obtain ⟨bv,ov,hAv,hBv,cv0⟩:=hsv.sl.at1 (i:=0) (by simp)
        obtain ⟨bv',ov',hAv',hBv',cv1⟩:=hsv.sl.at1 (i:=1) (by simp)
        rw [hAv] at hAv'
        cases hAv'
        subst hAv
        have cv0':wr.cell? ⟨bv,ov,none⟩=some (.int .i64 a):=by simpa using cv0
        have cv1':wr.cell? ⟨bv,ov + 1,none⟩=some (.int .i64 b):=by simpa using cv1
        have V0:=fun z:Aft wr.heap.size wr=>z.cell hBv cv0'
        have V1:=fun z:Aft wr.heap.size wr=>z.cell hBv cv1'
        clear cv0 cv1
        have hT:=HT.out
        rw [topW6 hk] at hT
        rw [hk] at c0
        by_cases hab:a=b
        ·have Hz:=Lib.hid (show R=a by rw [← hT,if_pos (by simpa using hab)];rfl)
         have hab':(a == b)=true:=by simpa using hab
         clear hT hk hsv hab
         go_wp2
         refine wp_region_aft wr.heap.size (by kernel_rfl) (by kernel_rfl) ?_
         repeat (go_big_quiet_step ((go_at_call 66;exact Calls.aft (Nat.le_refl _) (HV.out _))))
         refine wpQuiet_nil ?_
         intro w5 hw'
         obtain ⟨⟨_,hb5⟩,rfl⟩:=hw'
         have V5:=V0 ⟨w5,hb5⟩
         go_wp2
         go_ret
         exact ⟨ret_int Hz.out.symm,bch HBr.out hb5⟩
        ·have Hz:=Lib.hid (show R=0 by rw [← hT,if_neg (by simpa using hab)])
         have hab':(a == b)=false:=by simpa using hab
         clear hT hk hsv hab
         go_wp2
         refine wp_region_aft wr.heap.size (by kernel_rfl) (by kernel_rfl) ?_
         repeat (go_big_quiet_step ((go_at_call 66;exact Calls.aft (Nat.le_refl _) (HV.out _))))
         refine wpQuiet_nil ?_
         intro w5 hw'
         obtain ⟨⟨_,hb5⟩,rfl⟩:=hw'
         go_wp2
         go_ret
         exact ⟨ret_int Hz.out.symm,bch HBr.out hb5⟩
       ·have hn1:xs.length=1:=by have:=Hof.out.2.1;rw [hk] at this;simp [nkids] at this;omega
        rw [hn1]
        have hnlt:¬ 1 < p.kids.length:=by omega
        have hnltI:¬ (1:Int) < (p.kids.length:Int):=by omega
        obtain ⟨a,rfl⟩:∃ a,xs=[a]:=List.length_eq_one_iff.1 hn1
        clear hn1
        have ha:=Hrg.out a (by simp)
        obtain ⟨bv,ov,hAv,hBv,cv0⟩:=hsv.sl.at1 (i:=0) (by simp)
        subst hAv
        have cv0':wr.cell? ⟨bv,ov,none⟩=some (.int .i64 a):=by simpa using cv0
        have V0:=fun z:Aft wr.heap.size wr=>z.cell hBv cv0'
        clear cv0
        have hT:=HT.out
        rw [topW7 hk] at hT
        rw [hk] at c0
        have Hz:=Lib.hid (show R=a from hT.symm)
        clear hT hk hsv
        go_wp2
        go_ret
        exact ⟨ret_int Hz.out.symm,HBr.out⟩
       ·have hn1:xs.length=1:=by have:=Hof.out.2.1;rw [hk] at this;simp [nkids] at this;omega
        rw [hn1]
        have hnlt:¬ 1 < p.kids.length:=by omega
        have hnltI:¬ (1:Int) < (p.kids.length:Int):=by omega
        obtain ⟨a,rfl⟩:∃ a,xs=[a]:=List.length_eq_one_iff.1 hn1
        clear hn1
        have ha:=Hrg.out a (by simp)
        obtain ⟨bv,ov,hAv,hBv,cv0⟩:=hsv.sl.at1 (i:=0) (by simp)
        subst hAv
        have cv0':wr.cell? ⟨bv,ov,none⟩=some (.int .i64 a):=by simpa using cv0
        have V0:=fun z:Aft wr.heap.size wr=>z.cell hBv cv0'
        clear cv0
        have P3:=fun z:Aft wr.heap.size wr=>(BX.out z.v (bch HB.out z.h)).2.2.2.1
        have hT:=HT.out
        rw [topW8 hk] at hT
        rw [hk] at c0
        obtain ⟨q,hq⟩:=bool_of (P:=ColsOk p.cols a)
        have HV:=Lib.hid (fun z:Aft wr.heap.size wr=>validCols_ok p.cols f.cs.A f.cs.c a z.v q (by omega) (by omega) (by unfold maxLen;exact hx3) ((HC.out wr HB.out).on z.h) hq)
        have Hz:=Lib.hid (show R=if q=true ∧ p.cols.length < 6 then (p.cols.length:Int) + 1 else 0 by
         rw [← hT]
         by_cases h0:ColsOk p.cols a ∧ p.cols.length < 6
         ·rw [if_pos (by exact h0),if_pos ⟨hq.2 h0.1,h0.2⟩]
         ·rw [if_neg (by exact h0),if_neg (fun h1=>h0 ⟨hq.1 h1.1,h1.2⟩)])
        clear hq hT hk hsv
        cases q
        ·go_wp2
         refine wp_region_aft wr.heap.size (by kernel_rfl) (by kernel_rfl) ?_
         repeat (go_big_quiet_step ((go_at_call 68;exact Calls.aft (Nat.le_refl _) (HV.out _))))
         refine wpQuiet_nil ?_
         intro w5 hw'
         obtain ⟨⟨_,hb5⟩,rfl⟩:=hw'
         go_wp2
         go_ret
         exact ⟨ret_int (by simpa using Hz.out.symm),bch HBr.out hb5⟩
        ·by_cases h6:p.cols.length < 6
         ·have Hz6:=Lib.hid (show R=(p.cols.length:Int) + 1 by rw [Hz.out,if_pos ⟨by rfl,h6⟩])
          have h6I:(p.cols.length:Int) < 6:=by omega
          go_wp2
          refine wp_region_aft wr.heap.size (by kernel_rfl) (by kernel_rfl) ?_
          repeat (go_big_quiet_step ((go_at_call 68;exact Calls.aft (Nat.le_refl _) (HV.out _))))
          refine wpQuiet_nil ?_
          intro w5 hw'
          obtain ⟨⟨_,hb5⟩,rfl⟩:=hw'
          have P5:=P3 ⟨w5,hb5⟩
          go_wp2
          go_ret
          exact ⟨ret_int Hz6.out.symm,bch HBr.out hb5⟩
         ·have Hz6:=Lib.hid (show R=0 by rw [Hz.out,if_neg fun h1=>h6 h1.2])
          have h6I:¬ (p.cols.length:Int) < 6:=by omega
          go_wp2
          refine wp_region_aft wr.heap.size (by kernel_rfl) (by kernel_rfl) ?_
          repeat (go_big_quiet_step ((go_at_call 68;exact Calls.aft (Nat.le_refl _) (HV.out _))))
          refine wpQuiet_nil ?_
          intro w5 hw'
          obtain ⟨⟨_,hb5⟩,rfl⟩:=hw'
          go_wp2
          go_ret
          exact ⟨ret_int Hz6.out.symm,bch HBr.out hb5⟩

open Classical in
noncomputable def widthP (ws:List Int) (p:Pl):Int:=if WsOk ws then plW ws 8 p else 0

set_option maxRecDepth 20000 in
set_option maxHeartbeats 1000000 in
theorem widthOf_ok (p:Pl) (f:FP) (ws:List Int) (A:Option Addr) (c:Nat) (w:World) (R:Int) (h:PlIn w w.heap.size f p) (hwl:ws.length ≤ maxLen) (hsl:Sl 1 intC w w.heap.size A ws) (hr:widthP ws p=R) :
 Calls Tryz.prog 24 #[fpV f,.slice A ws.length c] w fun e w'=>e=.returned (.int .i64 R) ∧ Below w.heap.size w w':=by
 obtain ⟨W1,hW1⟩:∃ z,w.alloc (.cells #[.int .i64 f.kind,.int .i64 f.table,.slice f.es.A f.es.n f.es.c,.slice f.cs.A f.cs.n f.cs.c,.slice f.ks.A f.ks.n f.ks.c] 38)=z:=⟨_,rfl⟩
 have B1:Below w.heap.size w W1:=by rw [← hW1];exact balloc (Below.refl _ _) _
 have r1:Row W1 w.heap.size 38 [.int .i64 f.kind,.int .i64 f.table,.slice f.es.A f.es.n f.es.c,.slice f.cs.A f.cs.n f.cs.c,.slice f.ks.A f.ks.n f.ks.c]:=by rw [← hW1];exact Row.new _ _ _
 obtain ⟨q,hq⟩:=bool_of (P:=WsOk ws)
 have HV:=Lib.hid (specValidWidths_ok ws A c W1 q hwl (hsl.on B1) hq)
 have Hq:=Lib.hid hq
 have HW1:=Lib.hid hW1
 have HB1:=Lib.hid B1
 have HR:=Lib.hid hr
 have Hrow:=Lib.hid r1
 have HP:=Lib.hid (fun (z:World) (hz:Below w.heap.size w z)=>And.intro (h.on hz) (hsl.on hz))
 have Hwl:=Lib.hid hwl
 unfold fpV
 clear hq hW1 B1 hr r1 h hsl hwl
 cases q
 ·have Hz:=Lib.hid (show R=0 by rw [← HR.out];unfold widthP;rw [if_neg fun ho=>by have:=Hq.out.2 ho;cases this])
  go_enter Tryz.func24,Tryz.ntmps24
  go_upto_region 1 with fail
  rw [HW1.out]
  go_wp2_with fail
  refine HV.out.mono ?_
  rintro e w3 ⟨rfl,hb3⟩
  go_wp2
  go_ret
  exact ⟨ret_int Hz.out.symm,bch HB1.out hb3⟩
 ·have hws:WsOk ws:=Hq.out.1 rfl
  have HX:=Lib.hid (fun (z:World) (hz:Below w.heap.size w z)=>planWidth_ok p f ws A c 8 z R (HP.out z hz).1 hws.2 Hwl.out (HP.out z hz).2 (by omega) (by rw [← HR.out];unfold widthP;rw [if_pos hws]))
  unfold fpV at HX
  clear hws
  go_enter Tryz.func24,Tryz.ntmps24
  go_upto_region 1 with fail
  rw [HW1.out]
  go_wp2_with fail
  refine HV.out.mono ?_
  rintro e w3 ⟨rfl,hb3⟩
  have HB3:=Lib.hid (bch HB1.out hb3)
  have hrow:=Hrow.out.on hb3
  have c0:w3.cell? ⟨w.heap.size,0,none⟩=some (.int .i64 f.kind):=hrow.cell 0
  have c1:w3.cell? ⟨w.heap.size,1,none⟩=some (.int .i64 f.table):=hrow.cell 1
  have c2:w3.cell? ⟨w.heap.size,2,none⟩=some (.slice f.es.A f.es.n f.es.c):=hrow.cell 2
  have c3:w3.cell? ⟨w.heap.size,3,none⟩=some (.slice f.cs.A f.cs.n f.cs.c):=hrow.cell 3
  have c4:w3.cell? ⟨w.heap.size,4,none⟩=some (.slice f.ks.A f.ks.n f.ks.c):=hrow.cell 4
  clear hb3 hrow
  go_wp2_with fail
  refine (HX.out w3 HB3.out).mono ?_
  rintro e w4 ⟨rfl,hb4⟩
  go_wp2
  go_ret
  exact ⟨rfl,bch HB3.out hb4⟩
end Go.Proofs.YtcbfbgngkdiijaaGreat

namespace Go.Proofs.YtcbfbgngkdiijaaGreat
open Go.RowKit Go.Qo
set_option linter.unusedVariables false
set_option linter.unusedSimpArgs false

def ipE (k:Int):Int:=if k=2 ∨ k=3 ∨ k=4 ∨ k=5 then 1 else 0
def ipK (k:Int):Int:=if k=1 then 0 else if k=4 ∨ k=5 ∨ k=6 then 2 else if 2 ≤ k ∧ k ≤ 8 then 1 else -1
set_option maxHeartbeats 1000000 in
theorem partsOfKind_ok (k:Int) (w:World):Calls Tryz.prog 103 #[.int .i64 k] w fun e w'=>e=.returned (.tuple #[.int .i64 (ipE k),.int .i64 (ipK k)]) ∧ w=w':=by
 have hk:k=1 ∨ k=2 ∨ k=3 ∨ k=4 ∨ k=5 ∨ k=6 ∨ k=7 ∨ k=8 ∨ (¬ k=1 ∧ ¬ k=2 ∧ ¬ k=3 ∧ ¬ k=4 ∧ ¬ k=5 ∧ ¬ k=6 ∧ ¬ k=7 ∧ ¬ k=8):=by omega
 rcases hk with rfl | rfl | rfl | rfl | rfl | rfl | rfl | rfl | h
 case inr.inr.inr.inr.inr.inr.inr.inr=>
  have E:=Lib.hid (show ipE k=0 ∧ ipK k=-1 by unfold ipE ipK;rw [if_neg (by omega),if_neg (by omega),if_neg (by omega),if_neg (by omega)];exact ⟨rfl,rfl⟩)
  rw [E.out.1,E.out.2]
  obtain ⟨h1,h2,h3,h4,h5,h6,h7,h8⟩:=h
  go_enter Tryz.func103,Tryz.ntmps103
  go_wp2
  go_ret2
  exact ⟨rfl,rfl⟩
 all_goals
  go_enter Tryz.func103,Tryz.ntmps103
  go_wp2
  go_ret2
  exact ⟨rfl,rfl⟩

set_option maxHeartbeats 1000000 in
theorem validGroup_ok (cs:List Int) (A:Option Addr) (c:Nat) (width:Int) (w:World) (r:Bool) (hn:cs.length ≤ maxLen) (h:Sl 1 intC w w.heap.size A cs) (hr:r=true ↔ ColsOk cs width ∧ cs.length < 6) :
 Calls Tryz.prog 126 #[.slice A cs.length c,.int .i64 width] w fun e w'=>e=.returned (.bool r) ∧ Below w.heap.size w w':=by
 unfold maxLen at hn
 have HR:=Lib.hid hr
 have HH:=Lib.hid h
 clear hr h
 by_cases h6:6 ≤ cs.length
 ·have Hz:=Lib.hid (show r=false from bool_no HR.out fun ho=>by omega)
  have h6I:(6:Int) ≤ (cs.length:Int):=by omega
  go_enter Tryz.func126,Tryz.ntmps126
  go_wp2
  go_ret
  exact ⟨ret_bool Hz.out.symm,Below.refl _ _⟩
 ·have h6I:¬ (6:Int) ≤ (cs.length:Int):=by omega
  go_enter Tryz.func126,Tryz.ntmps126
  go_wp2
  go_loopg [5,7,13] cs.length (fun g lv cv iv wr=>∃ (i:Nat) (la:Int),i ≤ cs.length ∧ g=cs.length - i ∧ iv=.int .i64 i ∧ lv=.int .i64 la ∧ w=wr ∧ (i=0 ∧ la=-1 ∨ 0 < i ∧ cs[i - 1]? = some la ∧ 0 ≤ la) ∧ ∀ j (hj:j < cs.length),j < i → (0 ≤ cs[j] ∧ cs[j] ≤ width - 1) ∧ ∀ c',0 < j → cs[j - 1]? = some c' → c' < cs[j])
  case atStart=>exact ⟨0,-1,by omega,by omega,rfl,rfl,rfl,.inl ⟨rfl,rfl⟩,fun j hj hn=>absurd hn (by omega)⟩
  case round=>
   obtain ⟨i,la,hi,rfl,rfl,rfl,rfl,hla,hall⟩:=hrel
   have HA:=Lib.hid hall
   have HL:=Lib.hid hla
   have hl1:=Lib.hid (show -1 ≤ la by rcases hla with ⟨_,h⟩ | ⟨_,_,h⟩ <;> omega)
   clear hall hla
   by_cases hlt:i < cs.length
   ·obtain ⟨b1,o1,hA,hB1,c1⟩:=HH.out.at1 hlt
    subst hA
    have hil:(i:Int) < (cs.length:Int):=by omega
    have Hc:=Lib.hid (List.getElem?_eq_getElem hlt)
    have Hno:=Lib.hid (show ColsOk cs width → la < cs[i] ∧ cs[i] < width from fun ho=>by
     have h1:=ho i cs[i] Hc.out
     rcases HL.out with ⟨h2,h3⟩ | ⟨h2,h3,h4⟩
     ·omega
     ·have:=h1.2 la h2 h3;omega)
    by_cases hle:cs[i] ≤ la
    ·have Hle:=Lib.hid hle
     go_wp2
     go_ret
     exact ⟨ret_bool (bool_no HR.out fun ho=>by have:=Hno.out ho.1;have:=Hle.out;omega).symm,Below.refl _ _⟩
    ·by_cases hge:width ≤ cs[i]
     ·have Hge:=Lib.hid hge
      go_wp2
      go_ret
      exact ⟨ret_bool (bool_no HR.out fun ho=>by have:=Hno.out ho.1;have:=Hge.out;omega).symm,Below.refl _ _⟩
     ·have Hyes:=Lib.hid (show (0 ≤ cs[i] ∧ cs[i] ≤ width - 1) ∧ ∀ c',0 < i → cs[i - 1]? = some c' → c' < cs[i] from by
       have:=hl1.out
       refine ⟨by omega,fun c' h0 hc=>?_⟩
       rcases HL.out with ⟨h2,h3⟩ | ⟨h2,h3,h4⟩
       ·omega
       ·rw [h3] at hc
        cases hc
        omega)
      go_wp2
      go_roundg (cs.length - (i + 1))
      case measure=>omega
      case rel=>
       refine ⟨i + 1,cs[i],by omega,rfl,by go_num,rfl,rfl,.inr ⟨by omega,Hc.out,Hyes.out.1.1⟩,fun j hj hn=>?_⟩
       by_cases hji:j < i
       ·exact HA.out j hj hji
       ·have:j=i:=by omega
        subst this
        exact Hyes.out
   ·have hrt:r=true:=HR.out.2 ⟨fun i c hc=>by
     obtain ⟨hj,rfl⟩:=List.getElem?_eq_some_iff.1 hc
     exact HA.out i hj (by omega),by omega⟩
    go_wp2
    go_ret
    exact ⟨ret_bool hrt.symm,Below.refl _ _⟩

set_option maxHeartbeats 1000000 in
theorem implValidWidths_ok (ws:List Int) (A:Option Addr) (c:Nat) (w:World) (r:Bool) (hn:ws.length ≤ maxLen) (h:Sl 1 intC w w.heap.size A ws) (hr:r=true ↔ WsOk ws) :
 Calls Tryz.prog 81 #[.slice A ws.length c] w fun e w'=>e=.returned (.bool r) ∧ Below w.heap.size w w':=by
 unfold maxLen at hn
 have HR:=Lib.hid hr
 have HH:=Lib.hid h
 clear hr h
 by_cases h1:ws.length < 1
 ·have h1I:(ws.length:Int) < 1:=by omega
  have Hz:=Lib.hid (show r=false from bool_no HR.out fun ho=>by have:=ho.1;omega)
  go_enter Tryz.func81,Tryz.ntmps81
  go_wp2
  go_ret
  exact ⟨ret_bool Hz.out.symm,Below.refl _ _⟩
 ·have h1I:¬ (ws.length:Int) < 1:=by omega
  by_cases h4:4 < ws.length
  ·have h4I:(4:Int) < (ws.length:Int):=by omega
   have Hz:=Lib.hid (show r=false from bool_no HR.out fun ho=>by have:=ho.1;omega)
   go_enter Tryz.func81,Tryz.ntmps81
   go_wp2
   go_ret
   exact ⟨ret_bool Hz.out.symm,Below.refl _ _⟩
  ·have h4I:¬ (4:Int) < (ws.length:Int):=by omega
   go_enter Tryz.func81,Tryz.ntmps81
   go_wp2
   go_loopg [4,15] ws.length (fun g cv iv wr=>∃ i:Nat,i ≤ ws.length ∧ g=ws.length - i ∧ iv=.int .i64 i ∧ w=wr ∧ ∀ j (hj:j < ws.length),j < i → 1 ≤ ws[j] ∧ ws[j] ≤ 6)
   case atStart=>exact ⟨0,by omega,by omega,rfl,rfl,fun j hj hn=>absurd hn (by omega)⟩
   case round=>
    obtain ⟨i,hi,rfl,rfl,rfl,hall⟩:=hrel
    have HA:=Lib.hid hall
    clear hall
    by_cases hlt:i < ws.length
    ·obtain ⟨b1,o1,hA,hB1,c1⟩:=HH.out.at1 hlt
     subst hA
     obtain ⟨q,hq⟩:∃ q,(decide (1 ≤ ws[i]) && decide (ws[i] ≤ 6))=q:=⟨_,rfl⟩
     have HI:=Lib.hid (validWidth_ok ws[i] w q hq)
     have Hq:=Lib.hid hq
     have hil:(i:Int) < (ws.length:Int):=by omega
     clear hq
     go_wp2_with fail
     refine HI.out.mono ?_
     rintro e w3 ⟨rfl,rfl⟩
     cases q
     ·go_wp2
      go_ret
      refine ⟨ret_bool (bool_no HR.out fun ho=>?_).symm,Below.refl _ _⟩
      have h1:=Hq.out
      have:=ho.2 _ (List.getElem_mem hlt)
      simp at h1
      omega
     ·go_wp2
      go_roundg (ws.length - (i + 1))
      case measure=>omega
      case rel=>
       refine ⟨i + 1,by omega,rfl,by go_num,rfl,fun j hj hn=>?_⟩
       by_cases hji:j < i
       ·exact HA.out j hj hji
       ·have:j=i:=by omega
        subst this
        have h1:=Hq.out
        simpa using h1
    ·have hrt:r=true:=HR.out.2 ⟨by omega,fun y hy=>by
      obtain ⟨j,hj,rfl⟩:=List.getElem_of_mem hy
      exact HA.out j hj (by omega)⟩
     go_wp2
     go_ret
     exact ⟨ret_bool hrt.symm,Below.refl _ _⟩

def WoI (p:Pl):Prop:=∀ (f:FP) (ws:List Int) (b o:Nat) (x y:Int) (w:World) (R:Int),b < w.heap.size → FpAt w b o f → PlIn w w.heap.size f p → OnlyF p → p.kind ≠ 1 → (p.kind=3 → p.exprs.length ≤ 6) → (0 ≤ x ∧ x ≤ 6) → (0 ≤ y ∧ y ≤ 6) → topW ws p x y=R →
 Calls Tryz.prog 104 #[.pointer (some ⟨b,o,none⟩),.int .i64 x,.int .i64 y] w fun e w'=>e=.returned (.int .i64 R) ∧ Below w.heap.size w w'
theorem topW3' {ws:List Int} {p:Pl} {a b:Int} (h:p.kind=3) (h6:p.exprs.length ≤ 6):(topW ws p a b=p.exprs.length ∧ ∀ e ∈ p.exprs,EOk a e) ∨ (topW ws p a b=0 ∧ ∃ e ∈ p.exprs,¬ EOk a e):=by
 rw [topW3 h]
 unfold projW
 by_cases hh:∀ e ∈ p.exprs,EOk a e
 ·exact .inl ⟨by rw [if_pos ⟨hh,h6⟩],hh⟩
 ·refine .inr ⟨by rw [if_neg fun k=>hh k.1],?_⟩
  apply Classical.byContradiction
  intro hn
  exact hh fun e he=>Classical.byContradiction fun h1=>hn ⟨e,he,h1⟩

set_option maxRecDepth 20000 in
set_option maxHeartbeats 4000000 in
theorem widthOver_ok (p:Pl):WoI p:=fun f ws b o x y w R hb hat h hof hk1 hk3 hx hy hr=>by
 obtain ⟨a1,a2,⟨a3,a3',a3''⟩,⟨a4,a4',a4''⟩,⟨a5,a5',a5''⟩,a6,a7⟩:=h.flat
 obtain ⟨c0,c1,c2,c3,c4⟩:=hat
 rw [a1] at c0
 rw [a3] at c2
 rw [a4] at c3
 have BX:=Lib.hid (fun (z:World) (hz:Below w.heap.size w z)=>show z.cell? ⟨b,o,none⟩=some (.int .i64 p.kind) ∧ z.cell? ⟨b,o + 2,none⟩=some (.slice f.es.A p.exprs.length f.es.c)
  from ⟨(hz.cell (p:=⟨b,o,none⟩) hb).trans c0,(hz.cell (p:=⟨b,o + 2,none⟩) hb).trans c2⟩)
 have HE:=Lib.hid a6
 have HC:=Lib.hid a7
 have Hof:=Lib.hid hof
 have HR:=Lib.hid hr
 have H3:=Lib.hid hk3
 have hxl:p.exprs.length ≤ maxLen ∧ p.cols.length ≤ maxLen:=by omega
 unfold maxLen at hxl
 obtain ⟨hx1,hx3⟩:=hxl
 clear h hof hr hk3 a1 a2 a3 a4 a5 a3' a3'' a4' a4'' a5' a5'' a6 a7 c1 c4
 have hk8:p.kind=2 ∨ p.kind=3 ∨ p.kind=4 ∨ p.kind=5 ∨ p.kind=6 ∨ p.kind=7 ∨ p.kind=8:=by have:=Hof.out.1;omega
 rcases hk8 with hk | hk | hk | hk | hk | hk | hk
 ·rw [hk] at c0
  have Hno:=Lib.hid (show (∃ e ∈ p.exprs,¬ EOk x e) → R=0 from fun ⟨e,he,hn⟩=>by rw [← HR.out,topW2 hk,if_neg fun k=>hn (k e he)])
  have Hyes:=Lib.hid (show (∀ e ∈ p.exprs,EOk x e) → R=x from fun hh=>by rw [← HR.out,topW2 hk,if_pos hh])
  go_enter Tryz.func104,Tryz.ntmps104
  go_wp2
  go_loopg [8,47] p.exprs.length (fun g iv cv wr=>∃ i:Nat,i ≤ p.exprs.length ∧ g=p.exprs.length - i ∧ cv=.int .i64 i ∧ Below w.heap.size w wr ∧ ∀ j (hj:j < p.exprs.length),j < i → EOk (x) p.exprs[j])
  case atStart=>exact ⟨0,by omega,by omega,rfl,Below.refl _ _,fun j hj hn=>absurd hn (by omega)⟩
  case round=>
   obtain ⟨i,hi,rfl,rfl,hbb,hall⟩:=hrel
   have HB:=Lib.hid hbb
   have HA:=Lib.hid hall
   have c0:=(BX.out wr hbb).1
   have c2:=(BX.out wr hbb).2
   rw [hk] at c0
   clear hbb hall
   by_cases hlt:i < p.exprs.length
   ·obtain ⟨b1,o1,g,hA,hB1,⟨d0,d1,d2,d3,d4⟩,hg⟩:=(HE.out.on HB.out).at_ hlt
    obtain ⟨q,hq⟩:=bool_of (P:=EOk (x) p.exprs[i])
    have HV:=Lib.hid (implValidExpr_ok p.exprs[i] g (x) wr q hg hq)
    unfold feV at HV
    have Hq:=Lib.hid hq
    have hil:(i:Int) < (p.exprs.length:Int):=by omega
    rw [hA] at c2
    clear hq hg hA
    go_wp2_with fail
    refine HV.out.mono ?_
    rintro e w3 ⟨rfl,hb3⟩
    cases q
    ·have Hz:=Lib.hid (Hno.out ⟨_,List.getElem_mem hlt,fun ho=>by have:=Hq.out.2 ho;cases this⟩)
     go_wp2
     go_ret
     exact ⟨ret_int Hz.out.symm,bch HB.out hb3⟩
    ·go_wp2
     go_roundg (p.exprs.length - (i + 1))
     case measure=>omega
     case rel=>
      refine ⟨i + 1,by omega,rfl,by go_num,bch HB.out hb3,fun j hj hn=>?_⟩
      by_cases hji:j < i
      ·exact HA.out j hj hji
      ·have:j=i:=by omega
       subst this
       exact (by simpa using Hq.out)
   ·have Hz:=Lib.hid (Hyes.out (fun e he=>by
     obtain ⟨j,hj,rfl⟩:=List.getElem_of_mem he
     exact HA.out j hj (by omega)))
    go_wp2
    go_ret
    exact ⟨ret_int Hz.out.symm,HB.out⟩
 ·rw [hk] at c0
  have h6:=H3.out hk
  have Hno:=Lib.hid (show (∃ e ∈ p.exprs,¬ EOk x e) → R=0 from fun ⟨e,he,hn⟩=>by
   rcases topW3' (ws:=ws) (a:=x) (b:=y) hk h6 with h1 | h1
   ·exact absurd (h1.2 e he) hn
   ·exact HR.out.symm.trans h1.1)
  have Hyes:=Lib.hid (show (∀ e ∈ p.exprs,EOk x e) → R=(p.exprs.length:Int) from fun hh=>by
   rcases topW3' (ws:=ws) (a:=x) (b:=y) hk h6 with h1 | ⟨h1,e,he,hn⟩
   ·exact HR.out.symm.trans h1.1
   ·exact absurd (hh e he) hn)
  go_enter Tryz.func104,Tryz.ntmps104
  go_wp2
  go_loopg [8,47] p.exprs.length (fun g iv cv wr=>∃ i:Nat,i ≤ p.exprs.length ∧ g=p.exprs.length - i ∧ cv=.int .i64 i ∧ Below w.heap.size w wr ∧ ∀ j (hj:j < p.exprs.length),j < i → EOk (x) p.exprs[j])
  case atStart=>exact ⟨0,by omega,by omega,rfl,Below.refl _ _,fun j hj hn=>absurd hn (by omega)⟩
  case round=>
   obtain ⟨i,hi,rfl,rfl,hbb,hall⟩:=hrel
   have HB:=Lib.hid hbb
   have HA:=Lib.hid hall
   have c0:=(BX.out wr hbb).1
   have c2:=(BX.out wr hbb).2
   rw [hk] at c0
   clear hbb hall
   by_cases hlt:i < p.exprs.length
   ·obtain ⟨b1,o1,g,hA,hB1,⟨d0,d1,d2,d3,d4⟩,hg⟩:=(HE.out.on HB.out).at_ hlt
    obtain ⟨q,hq⟩:=bool_of (P:=EOk (x) p.exprs[i])
    have HV:=Lib.hid (implValidExpr_ok p.exprs[i] g (x) wr q hg hq)
    unfold feV at HV
    have Hq:=Lib.hid hq
    have hil:(i:Int) < (p.exprs.length:Int):=by omega
    rw [hA] at c2
    clear hq hg hA
    go_wp2_with fail
    refine HV.out.mono ?_
    rintro e w3 ⟨rfl,hb3⟩
    cases q
    ·have Hz:=Lib.hid (Hno.out ⟨_,List.getElem_mem hlt,fun ho=>by have:=Hq.out.2 ho;cases this⟩)
     go_wp2
     go_ret
     exact ⟨ret_int Hz.out.symm,bch HB.out hb3⟩
    ·go_wp2
     go_roundg (p.exprs.length - (i + 1))
     case measure=>omega
     case rel=>
      refine ⟨i + 1,by omega,rfl,by go_num,bch HB.out hb3,fun j hj hn=>?_⟩
      by_cases hji:j < i
      ·exact HA.out j hj hji
      ·have:j=i:=by omega
       subst this
       exact (by simpa using Hq.out)
   ·have Hz:=Lib.hid (Hyes.out (fun e he=>by
     obtain ⟨j,hj,rfl⟩:=List.getElem_of_mem he
     exact HA.out j hj (by omega)))
    go_wp2
    go_ret
    exact ⟨ret_int Hz.out.symm,HB.out⟩
 ·rw [hk] at c0
  by_cases h6:6 < x + y
  ·have Hz:=Lib.hid (show R=0 by rw [← HR.out,topW45 (.inl hk),if_neg fun k=>by omega])
   go_enter Tryz.func104,Tryz.ntmps104
   go_wp2
   go_ret
   exact ⟨ret_int Hz.out.symm,Below.refl _ _⟩
  ·have Hno:=Lib.hid (show (∃ e ∈ p.exprs,¬ EOk (x + y) e) → R=0 from fun ⟨e,he,hn⟩=>by rw [← HR.out,topW45 (.inl hk),if_neg fun k=>hn (k.2 e he)])
   have Hyes:=Lib.hid (show (∀ e ∈ p.exprs,EOk (x + y) e) → R=x + y from fun hh=>by rw [← HR.out,topW45 (.inl hk),if_pos ⟨by omega,hh⟩])
   go_enter Tryz.func104,Tryz.ntmps104
   go_wp2
   go_loopg [8,47] p.exprs.length (fun g iv cv wr=>∃ i:Nat,i ≤ p.exprs.length ∧ g=p.exprs.length - i ∧ cv=.int .i64 i ∧ Below w.heap.size w wr ∧ ∀ j (hj:j < p.exprs.length),j < i → EOk (x + y) p.exprs[j])
   case atStart=>exact ⟨0,by omega,by omega,rfl,Below.refl _ _,fun j hj hn=>absurd hn (by omega)⟩
   case round=>
    obtain ⟨i,hi,rfl,rfl,hbb,hall⟩:=hrel
    have HB:=Lib.hid hbb
    have HA:=Lib.hid hall
    have c0:=(BX.out wr hbb).1
    have c2:=(BX.out wr hbb).2
    rw [hk] at c0
    clear hbb hall
    by_cases hlt:i < p.exprs.length
    ·obtain ⟨b1,o1,g,hA,hB1,⟨d0,d1,d2,d3,d4⟩,hg⟩:=(HE.out.on HB.out).at_ hlt
     obtain ⟨q,hq⟩:=bool_of (P:=EOk (x + y) p.exprs[i])
     have HV:=Lib.hid (implValidExpr_ok p.exprs[i] g (x + y) wr q hg hq)
     unfold feV at HV
     have Hq:=Lib.hid hq
     have hil:(i:Int) < (p.exprs.length:Int):=by omega
     rw [hA] at c2
     clear hq hg hA
     go_wp2_with fail
     refine HV.out.mono ?_
     rintro e w3 ⟨rfl,hb3⟩
     cases q
     ·have Hz:=Lib.hid (Hno.out ⟨_,List.getElem_mem hlt,fun ho=>by have:=Hq.out.2 ho;cases this⟩)
      go_wp2
      go_ret
      exact ⟨ret_int Hz.out.symm,bch HB.out hb3⟩
     ·go_wp2
      go_roundg (p.exprs.length - (i + 1))
      case measure=>omega
      case rel=>
       refine ⟨i + 1,by omega,rfl,by go_num,bch HB.out hb3,fun j hj hn=>?_⟩
       by_cases hji:j < i
       ·exact HA.out j hj hji
       ·have:j=i:=by omega
        subst this
        exact (by simpa using Hq.out)
    ·have Hz:=Lib.hid (Hyes.out (fun e he=>by
      obtain ⟨j,hj,rfl⟩:=List.getElem_of_mem he
      exact HA.out j hj (by omega)))
     go_wp2
     go_ret
     exact ⟨ret_int Hz.out.symm,HB.out⟩
 ·rw [hk] at c0
  by_cases h6:6 < x + y
  ·have Hz:=Lib.hid (show R=0 by rw [← HR.out,topW45 (.inr hk),if_neg fun k=>by omega])
   go_enter Tryz.func104,Tryz.ntmps104
   go_wp2
   go_ret
   exact ⟨ret_int Hz.out.symm,Below.refl _ _⟩
  ·have Hno:=Lib.hid (show (∃ e ∈ p.exprs,¬ EOk (x + y) e) → R=0 from fun ⟨e,he,hn⟩=>by rw [← HR.out,topW45 (.inr hk),if_neg fun k=>hn (k.2 e he)])
   have Hyes:=Lib.hid (show (∀ e ∈ p.exprs,EOk (x + y) e) → R=x + y from fun hh=>by rw [← HR.out,topW45 (.inr hk),if_pos ⟨by omega,hh⟩])
   go_enter Tryz.func104,Tryz.ntmps104
   go_wp2
   go_loopg [8,47] p.exprs.length (fun g iv cv wr=>∃ i:Nat,i ≤ p.exprs.length ∧ g=p.exprs.length - i ∧ cv=.int .i64 i ∧ Below w.heap.size w wr ∧ ∀ j (hj:j < p.exprs.length),j < i → EOk (x + y) p.exprs[j])
   case atStart=>exact ⟨0,by omega,by omega,rfl,Below.refl _ _,fun j hj hn=>absurd hn (by omega)⟩
   case round=>
    obtain ⟨i,hi,rfl,rfl,hbb,hall⟩:=hrel
    have HB:=Lib.hid hbb
    have HA:=Lib.hid hall
    have c0:=(BX.out wr hbb).1
    have c2:=(BX.out wr hbb).2
    rw [hk] at c0
    clear hbb hall
    by_cases hlt:i < p.exprs.length
    ·obtain ⟨b1,o1,g,hA,hB1,⟨d0,d1,d2,d3,d4⟩,hg⟩:=(HE.out.on HB.out).at_ hlt
     obtain ⟨q,hq⟩:=bool_of (P:=EOk (x + y) p.exprs[i])
     have HV:=Lib.hid (implValidExpr_ok p.exprs[i] g (x + y) wr q hg hq)
     unfold feV at HV
     have Hq:=Lib.hid hq
     have hil:(i:Int) < (p.exprs.length:Int):=by omega
     rw [hA] at c2
     clear hq hg hA
     go_wp2_with fail
     refine HV.out.mono ?_
     rintro e w3 ⟨rfl,hb3⟩
     cases q
     ·have Hz:=Lib.hid (Hno.out ⟨_,List.getElem_mem hlt,fun ho=>by have:=Hq.out.2 ho;cases this⟩)
      go_wp2
      go_ret
      exact ⟨ret_int Hz.out.symm,bch HB.out hb3⟩
     ·go_wp2
      go_roundg (p.exprs.length - (i + 1))
      case measure=>omega
      case rel=>
       refine ⟨i + 1,by omega,rfl,by go_num,bch HB.out hb3,fun j hj hn=>?_⟩
       by_cases hji:j < i
       ·exact HA.out j hj hji
       ·have:j=i:=by omega
        subst this
        exact (by simpa using Hq.out)
    ·have Hz:=Lib.hid (Hyes.out (fun e he=>by
      obtain ⟨j,hj,rfl⟩:=List.getElem_of_mem he
      exact HA.out j hj (by omega)))
     go_wp2
     go_ret
     exact ⟨ret_int Hz.out.symm,HB.out⟩
 ·rw [hk] at c0
  have hel:p.exprs.length=0:=by have:=Hof.out.2.2.1;rw [hk] at this;simp [nexprs] at this;simpa using this
  have hpe:p.exprs=[]:=List.eq_nil_of_length_eq_zero hel
  by_cases hxy:x=y
  ·have hxy':(x != y)=false:=by simpa using hxy
   have Hno:=Lib.hid (show (∃ e ∈ p.exprs,¬ EOk x e) → R=0 from fun ⟨e,he,hn⟩=>by rw [hpe] at he;cases he)
   have Hyes:=Lib.hid (show (∀ e ∈ p.exprs,EOk x e) → R=x from fun _=>by rw [← HR.out,topW6 hk,if_pos hxy])
   clear hel hpe hxy
   go_enter Tryz.func104,Tryz.ntmps104
   go_wp2
   go_loopg [8,47] p.exprs.length (fun g iv cv wr=>∃ i:Nat,i ≤ p.exprs.length ∧ g=p.exprs.length - i ∧ cv=.int .i64 i ∧ Below w.heap.size w wr ∧ ∀ j (hj:j < p.exprs.length),j < i → EOk (x) p.exprs[j])
   case atStart=>exact ⟨0,by omega,by omega,rfl,Below.refl _ _,fun j hj hn=>absurd hn (by omega)⟩
   case round=>
    obtain ⟨i,hi,rfl,rfl,hbb,hall⟩:=hrel
    have HB:=Lib.hid hbb
    have HA:=Lib.hid hall
    have c0:=(BX.out wr hbb).1
    have c2:=(BX.out wr hbb).2
    rw [hk] at c0
    clear hbb hall
    by_cases hlt:i < p.exprs.length
    ·obtain ⟨b1,o1,g,hA,hB1,⟨d0,d1,d2,d3,d4⟩,hg⟩:=(HE.out.on HB.out).at_ hlt
     obtain ⟨q,hq⟩:=bool_of (P:=EOk (x) p.exprs[i])
     have HV:=Lib.hid (implValidExpr_ok p.exprs[i] g (x) wr q hg hq)
     unfold feV at HV
     have Hq:=Lib.hid hq
     have hil:(i:Int) < (p.exprs.length:Int):=by omega
     rw [hA] at c2
     clear hq hg hA
     go_wp2_with fail
     refine HV.out.mono ?_
     rintro e w3 ⟨rfl,hb3⟩
     cases q
     ·have Hz:=Lib.hid (Hno.out ⟨_,List.getElem_mem hlt,fun ho=>by have:=Hq.out.2 ho;cases this⟩)
      go_wp2
      go_ret
      exact ⟨ret_int Hz.out.symm,bch HB.out hb3⟩
     ·go_wp2
      go_roundg (p.exprs.length - (i + 1))
      case measure=>omega
      case rel=>
       refine ⟨i + 1,by omega,rfl,by go_num,bch HB.out hb3,fun j hj hn=>?_⟩
       by_cases hji:j < i
       ·exact HA.out j hj hji
       ·have:j=i:=by omega
        subst this
        exact (by simpa using Hq.out)
    ·have Hz:=Lib.hid (Hyes.out (fun e he=>by
      obtain ⟨j,hj,rfl⟩:=List.getElem_of_mem he
      exact HA.out j hj (by omega)))
     go_wp2
     go_ret
     exact ⟨ret_int Hz.out.symm,HB.out⟩
  ·have hxy':(x != y)=true:=by simpa using hxy
   have Hz:=Lib.hid (show R=0 by rw [← HR.out,topW6 hk,if_neg hxy])
   clear hel hpe hxy
   go_enter Tryz.func104,Tryz.ntmps104
   go_wp2
   go_ret
   exact ⟨ret_int Hz.out.symm,Below.refl _ _⟩
 ·rw [hk] at c0
  have hel:p.exprs.length=0:=by have:=Hof.out.2.2.1;rw [hk] at this;simp [nexprs] at this;simpa using this
  have hpe:p.exprs=[]:=List.eq_nil_of_length_eq_zero hel
  have Hno:=Lib.hid (show (∃ e ∈ p.exprs,¬ EOk x e) → R=0 from fun ⟨e,he,hn⟩=>by rw [hpe] at he;cases he)
  have Hyes:=Lib.hid (show (∀ e ∈ p.exprs,EOk x e) → R=x from fun _=>by rw [← HR.out,topW7 hk])
  clear hel hpe
  go_enter Tryz.func104,Tryz.ntmps104
  go_wp2
  go_loopg [8,47] p.exprs.length (fun g iv cv wr=>∃ i:Nat,i ≤ p.exprs.length ∧ g=p.exprs.length - i ∧ cv=.int .i64 i ∧ Below w.heap.size w wr ∧ ∀ j (hj:j < p.exprs.length),j < i → EOk (x) p.exprs[j])
  case atStart=>exact ⟨0,by omega,by omega,rfl,Below.refl _ _,fun j hj hn=>absurd hn (by omega)⟩
  case round=>
   obtain ⟨i,hi,rfl,rfl,hbb,hall⟩:=hrel
   have HB:=Lib.hid hbb
   have HA:=Lib.hid hall
   have c0:=(BX.out wr hbb).1
   have c2:=(BX.out wr hbb).2
   rw [hk] at c0
   clear hbb hall
   by_cases hlt:i < p.exprs.length
   ·obtain ⟨b1,o1,g,hA,hB1,⟨d0,d1,d2,d3,d4⟩,hg⟩:=(HE.out.on HB.out).at_ hlt
    obtain ⟨q,hq⟩:=bool_of (P:=EOk (x) p.exprs[i])
    have HV:=Lib.hid (implValidExpr_ok p.exprs[i] g (x) wr q hg hq)
    unfold feV at HV
    have Hq:=Lib.hid hq
    have hil:(i:Int) < (p.exprs.length:Int):=by omega
    rw [hA] at c2
    clear hq hg hA
    go_wp2_with fail
    refine HV.out.mono ?_
    rintro e w3 ⟨rfl,hb3⟩
    cases q
    ·have Hz:=Lib.hid (Hno.out ⟨_,List.getElem_mem hlt,fun ho=>by have:=Hq.out.2 ho;cases this⟩)
     go_wp2
     go_ret
     exact ⟨ret_int Hz.out.symm,bch HB.out hb3⟩
    ·go_wp2
     go_roundg (p.exprs.length - (i + 1))
     case measure=>omega
     case rel=>
      refine ⟨i + 1,by omega,rfl,by go_num,bch HB.out hb3,fun j hj hn=>?_⟩
      by_cases hji:j < i
      ·exact HA.out j hj hji
      ·have:j=i:=by omega
       subst this
       exact (by simpa using Hq.out)
   ·have Hz:=Lib.hid (Hyes.out (fun e he=>by
     obtain ⟨j,hj,rfl⟩:=List.getElem_of_mem he
     exact HA.out j hj (by omega)))
    go_wp2
    go_ret
    exact ⟨ret_int Hz.out.symm,HB.out⟩
 ·obtain ⟨q,hq⟩:=bool_of (P:=ColsOk p.cols x ∧ p.cols.length < 6)
  have HV:=Lib.hid (validGroup_ok p.cols f.cs.A f.cs.c x w q (by unfold maxLen;exact hx3) HC.out hq)
  have Hz:=Lib.hid (show R=if q=true then (p.cols.length:Int) + 1 else 0 by
   rw [← HR.out,topW8 hk]
   by_cases h0:ColsOk p.cols x ∧ p.cols.length < 6
   ·rw [if_pos h0,if_pos (hq.2 h0)]
   ·rw [if_neg h0,if_neg (fun h1=>h0 (hq.1 h1))])
  have Hl:=Lib.hid (show q=true → p.cols.length < 6 from fun h=>(hq.1 h).2)
  rw [hk] at c0
  clear hq hk
  cases q
  ·go_enter Tryz.func104,Tryz.ntmps104
   go_wp2_with fail
   refine HV.out.mono ?_
   rintro e w3 ⟨rfl,hb3⟩
   go_wp2
   go_ret
   exact ⟨ret_int (by simpa using Hz.out.symm),hb3⟩
  ·have h6:p.cols.length < 6:=Hl.out (by trivial)
   have h6I:(p.cols.length:Int) < 6:=by omega
   go_enter Tryz.func104,Tryz.ntmps104
   go_wp2_with fail
   refine HV.out.mono ?_
   rintro e w3 ⟨rfl,hb3⟩
   have C3:w3.cell? ⟨b,o + 3,none⟩=some (.slice f.cs.A p.cols.length f.cs.c):=(hb3.cell (p:=⟨b,o + 3,none⟩) hb).trans c3
   go_wp2
   go_ret
   exact ⟨ret_int (by simpa using Hz.out.symm),hb3⟩

def PwI (p:Pl):Prop:=∀ (f:FP) (b o:Nat) (ws:List Int) (A:Option Addr) (c d:Nat) (w:World) (R:Int),b < w.heap.size → FpAt w b o f → PlIn w w.heap.size f p → (∀ x ∈ ws,1 ≤ x ∧ x ≤ 6) → ws.length ≤ maxLen → Sl 1 intC w w.heap.size A ws → d ≤ 100 → plW ws d p=R →
 Calls Tryz.prog 82 #[.pointer (some ⟨b,o,none⟩),.slice A ws.length c,.int .i64 d] w fun e w'=>e=.returned (.int .i64 R) ∧ Below w.heap.size w w'
theorem plW_bad3 {ws:List Int} {d:Nat} {p:Pl} (hk:p.kind=3) (hn:¬ (1 ≤ p.exprs.length ∧ p.exprs.length ≤ 6)):plW ws d p=0:=by
 have hz:∀ a b,topW ws p a b=0:=fun a b=>by
  rw [topW3 hk]
  unfold projW
  split
  ·omega
  ·rfl
 cases d <;> unfold plW <;> split
 ·exact hz _ _
 ·rfl
 ·exact hz _ _
 ·rfl

set_option maxRecDepth 20000 in
set_option maxHeartbeats 8000000 in
theorem widthBelow_ok:∀ p:Pl,PwI p:=Pl.ind fun p ih f b o ws A c d w R hb hat h hws hwl hsl hd hr=>by
 obtain ⟨a1,a2,⟨a3,a3',a3''⟩,⟨a4,a4',a4''⟩,⟨a5,a5',a5''⟩,a6,a7⟩:=h.flat
 have Hat:=Lib.hid hat
 obtain ⟨c0,c1,c2,c3,c4⟩:=hat
 rw [a1] at c0
 rw [a2] at c1
 rw [a3] at c2
 rw [a4] at c3
 rw [a5] at c4
 have BX:=Lib.hid (fun (z:World) (hz:Below w.heap.size w z)=>show FpAt z b o f ∧ z.cell? ⟨b,o + 4,none⟩=some (.slice f.ks.A p.kids.length f.ks.c)
  from ⟨⟨(hz.cell (p:=⟨b,o,none⟩) hb).trans Hat.out.1,(hz.cell (p:=⟨b,o + 1,none⟩) hb).trans Hat.out.2.1,(hz.cell (p:=⟨b,o + 2,none⟩) hb).trans Hat.out.2.2.1,(hz.cell (p:=⟨b,o + 3,none⟩) hb).trans Hat.out.2.2.2.1,(hz.cell (p:=⟨b,o + 4,none⟩) hb).trans Hat.out.2.2.2.2⟩,(hz.cell (p:=⟨b,o + 4,none⟩) hb).trans c4⟩)
 have HP:=Lib.hid (fun (z:World) (hz:Below w.heap.size w z)=>h.on hz)
 have HS:=Lib.hid (fun (z:World) (hz:Below w.heap.size w z)=>hsl.on hz)
 have IH:=Lib.hid ih
 have HR:=Lib.hid hr
 have HWS:=Lib.hid hws
 have hx:p.exprs.length ≤ maxLen ∧ p.kids.length ≤ maxLen ∧ p.cols.length ≤ maxLen:=by omega
 unfold maxLen at hx hwl
 obtain ⟨hx1,hx2,hx3⟩:=hx
 clear h hws hsl ih hr a1 a2 a3 a4 a5 a3' a3'' a4' a4'' a5' a5'' a6 a7
 obtain ⟨K,hK⟩:∃ K,ipK p.kind=K:=⟨_,rfl⟩
 obtain ⟨E0,hE⟩:∃ E,ipE p.kind=E:=⟨_,rfl⟩
 have HPK:=Lib.hid (partsOfKind_ok p.kind w)
 rw [hK,hE] at HPK
 have HVW:=Lib.hid (fun (r:Bool) hr=>validWidth_ok p.exprs.length w r hr)
 have Hno:=Lib.hid (show ¬ OnlyF p → R=0 from fun hn=>by rw [← HR.out];exact plW_no hn)
 have HKE:=Lib.hid (And.intro hK hE)
 clear hK hE
 by_cases hk3:p.kind=3
 ·have HK3:=Lib.hid hk3
  have hk3':(p.kind == 3)=true:=by simpa using hk3
  by_cases hne:1 ≤ p.exprs.length ∧ p.exprs.length ≤ 6
  ·obtain ⟨hne1,hne6⟩:=hne
   clear hk3
   by_cases hn:(p.kids.length:Int)=K
   ·have Hn:=Lib.hid hn
    have hnB:((p.kids.length:Int) != K)=false:=by simpa using hn
    clear hn

    have HEx:=Lib.hid (show (p.exprs.length:Int)=nexprs p.kind p.exprs.length by unfold nexprs;rw [if_neg (by have:=HK3.out;omega),if_pos HK3.out])
    by_cases hKd:0 < K ∧ d=0
    ·obtain ⟨hKp,rfl⟩:=hKd
     have Hz:=Lib.hid (show R=0 by rw [← HR.out];exact plW_deep (by have:=Hn.out;omega))
     go_enter Tryz.func82,Tryz.ntmps82
     go_wp2_with fail
     refine HPK.out.mono ?_
     rintro e w2 ⟨rfl,rfl⟩

     go_wp2_with fail
     refine (HVW.out true (by simp;omega)).mono ?_
     rintro e w2 ⟨rfl,rfl⟩

     go_wp2
     go_ret
     exact ⟨ret_int Hz.out.symm,Below.refl _ _⟩

    ·have hcase:(0 < K ∧ ((d:Int) == 0)=false) ∨ ¬ 0 < K:=by
      by_cases h0:0 < K
      ·refine .inl ⟨h0,?_⟩
       have:d ≠ 0:=by omega
       simpa using this
      ·exact .inr h0
     have Hdz:=Lib.hid (show 0 < p.kids.length → 0 < d from fun h1=>by have:=Hn.out;omega)
     clear hKd
     have hcs:(¬ p.table=0 ∧ ¬ p.kind=1) ∨ ((p.table=0 ∨ (¬ p.table=0 ∧ p.kind=1)) ∧ ((¬ p.cols.length=0 ∧ ¬ p.kind=8) ∨ (p.cols.length=0 ∨ (¬ p.cols.length=0 ∧ p.kind=8)))):=by omega
     rcases hcs with ⟨h1,h2⟩ | ⟨h1,h2 | h2⟩
     ·have Hz:=Lib.hid (Hno.out fun ho=>by have:=ho.2.2.2.1;omega)
      have h1':(p.table != 0)=true:=by simpa using h1
      have h2':(p.kind != 1)=true:=by simpa using h2
      clear h1 h2
      rcases hcase with ⟨hKp,hdB⟩ | hKp
      all_goals
       go_enter Tryz.func82,Tryz.ntmps82
       go_wp2_with fail
       refine HPK.out.mono ?_
       rintro e w2 ⟨rfl,rfl⟩

       go_wp2_with fail
       refine (HVW.out true (by simp;omega)).mono ?_
       rintro e w2 ⟨rfl,rfl⟩

       go_wp2
       go_ret
       exact ⟨ret_int Hz.out.symm,Below.refl _ _⟩

     ·have Hz:=Lib.hid (Hno.out fun ho=>by have:=ho.2.2.2.2;omega)
      have h3':(p.cols.length != 0)=true:=by simpa using h2.1
      have h3'':((p.cols.length:Int) != 0)=true:=by simpa using h2.1
      have h2':(p.kind != 8)=true:=by simpa using h2.2
      clear h2
      rcases h1 with h1 | ⟨h1,h4⟩
      ·have h1':(p.table != 0)=false:=by simpa using h1
       by_cases h5:p.kind=1
       ·have h5':(p.kind != 1)=false:=by simpa using h5
        clear h1 h5
        rcases hcase with ⟨hKp,hdB⟩ | hKp
        all_goals
         go_enter Tryz.func82,Tryz.ntmps82
         go_wp2_with fail
         refine HPK.out.mono ?_
         rintro e w2 ⟨rfl,rfl⟩

         go_wp2_with fail
         refine (HVW.out true (by simp;omega)).mono ?_
         rintro e w2 ⟨rfl,rfl⟩

         go_wp2
         go_ret
         exact ⟨ret_int Hz.out.symm,Below.refl _ _⟩

       ·have h5':(p.kind != 1)=true:=by simpa using h5
        clear h1 h5
        rcases hcase with ⟨hKp,hdB⟩ | hKp
        all_goals
         go_enter Tryz.func82,Tryz.ntmps82
         go_wp2_with fail
         refine HPK.out.mono ?_
         rintro e w2 ⟨rfl,rfl⟩

         go_wp2_with fail
         refine (HVW.out true (by simp;omega)).mono ?_
         rintro e w2 ⟨rfl,rfl⟩

         go_wp2
         go_ret
         exact ⟨ret_int Hz.out.symm,Below.refl _ _⟩

      ·have h4':(p.kind != 1)=false:=by simpa using h4
       clear h1 h4
       rcases hcase with ⟨hKp,hdB⟩ | hKp
       all_goals
        go_enter Tryz.func82,Tryz.ntmps82
        go_wp2_with fail
        refine HPK.out.mono ?_
        rintro e w2 ⟨rfl,rfl⟩

        go_wp2_with fail
        refine (HVW.out true (by simp;omega)).mono ?_
        rintro e w2 ⟨rfl,rfl⟩

        go_wp2
        go_ret
        exact ⟨ret_int Hz.out.symm,Below.refl _ _⟩

     ·have HKr:=Lib.hid (show 1 ≤ p.kind ∧ p.kind ≤ 8 ∧ K=nkids p.kind by
       have h5:=HKE.out.1
       have h6:=Hn.out
       rw [← h5] at h6
       unfold ipK at h5 h6
       unfold nkids
       split at h5
       ·rename_i h7
        rw [if_pos h7]
        omega
       ·rename_i h7
        rw [if_neg h7]
        split at h5
        ·rename_i h8
         rw [if_pos h8]
         omega
        ·rename_i h8
         rw [if_neg h8]
         split at h5
         ·omega
         ·rename_i h9
          rw [if_neg h7,if_neg h8,if_neg h9] at h6
          omega)
      have Hof:=Lib.hid (show OnlyF p from ⟨⟨HKr.out.1,HKr.out.2.1⟩,Hn.out.trans HKr.out.2.2,HEx.out,by omega,by omega⟩)
      have hkl:=Hof.out.kids_le
      by_cases hk1:p.kind=1
      ·exact absurd hk1 (by have:=HK3.out;omega)

      ·have h4':(p.table != 0)=false:=by have:p.table=0:=by omega
                                         simpa using this
       have h5':(p.kind != 1)=true:=by simpa using hk1
       have h6':(p.kind == 1)=false:=by simpa using hk1
       have Hk1:=Lib.hid hk1
       have H36:=Lib.hid (show p.kind=3 → p.exprs.length ≤ 6 from fun _=>by omega)
       have hk8b:(p.kind != 8)=true ∨ (p.kind != 8)=false:=by cases (p.kind != 8) <;> simp
       have hcl:((p.cols.length != 0)=false ∧ ((p.cols.length:Int) != 0)=false ∧ ((p.kind != 8)=true ∨ (p.kind != 8)=false)) ∨ ((p.cols.length != 0)=true ∧ ((p.cols.length:Int) != 0)=true ∧ (p.kind != 8)=false):=by
        rcases h2 with h2 | ⟨h2,h3⟩
        ·exact .inl ⟨by simpa using h2,by simpa using h2,hk8b⟩
        ·exact .inr ⟨by simpa using h2,by simpa using h2,by simpa using h3⟩
       have hKp:0 < K:=by
        have h7:=HKr.out.2.2
        unfold nkids at h7
        rw [if_neg hk1] at h7
        split at h7 <;> omega
       have hdB:((d:Int) == 0)=false:=by
        rcases hcase with h7 | h7
        ·exact h7.2
        ·exact absurd hKp h7
       have HRg:=Lib.hid (show ∀ x,0 ≤ plW ws (d - 1) x ∧ plW ws (d - 1) x ≤ 6 from fun x=>plW_range HWS.out _ _)
       have hd0:0 < d:=by have:=Hn.out;have:=Hdz.out;omega
       clear h1 h2 hk1 hcase
       obtain ⟨Wi,hWi⟩:∃ z,w.alloc (.cells #[.int .i64 0,.int .i64 0] 140)=z:=⟨_,rfl⟩
       have Bi:Below w.heap.size w Wi:=by rw [← hWi];exact balloc (Below.refl _ _) _
       have Ri:Row Wi w.heap.size 140 [.int .i64 0,.int .i64 0]:=by rw [← hWi];exact Row.new _ _ _
       have HWi:=Lib.hid hWi
       have HBi:=Lib.hid Bi
       have HRi:=Lib.hid Ri
       clear hWi Bi Ri
       clear hk8b
       rcases hcl with ⟨h7,h8,h9 | h9⟩ | ⟨h7,h8,h9⟩
       all_goals
        go_enter Tryz.func82,Tryz.ntmps82
        go_wp2_with fail
        refine HPK.out.mono ?_
        rintro e w2 ⟨rfl,rfl⟩

        go_wp2_with fail
        refine (HVW.out true (by simp;omega)).mono ?_
        rintro e w2 ⟨rfl,rfl⟩

        go_upto_region 13 with fail
        rw [HWi.out]
        have c4:=(BX.out Wi HBi.out).2
        go_wp2
        clear c0 c1 c2 c3 c4 h4' h5' h6' h7 h8 h9 HPK HVW
        go_loopg [10,119] p.kids.length (fun g iv nv wr=>∃ i:Nat,i ≤ p.kids.length ∧ g=p.kids.length - i ∧ nv=.int .i64 i ∧ Below w.heap.size w wr ∧ (∀ j (hj:j < p.kids.length),j < i → plW ws (d - 1) p.kids[j] ≠ 0) ∧ Row wr w.heap.size 140 [.int .i64 (if 0 < i then kidW (plW ws (d - 1)) p 0 else 0),.int .i64 (if 1 < i then kidW (plW ws (d - 1)) p 1 else 0)])
        case atStart=>exact ⟨0,by omega,by omega,rfl,HBi.out,fun j hj hn=>absurd hn (by omega),HRi.out⟩
        case round=>
         obtain ⟨i,hi,rfl,rfl,hbb,hall,hrow⟩:=hrel
         have HA:=Lib.hid hall
         have HB:=Lib.hid hbb
         have Hrow:=Lib.hid hrow
         have c4:=(BX.out wr hbb).2
         have hsz:=hrow.lt
         clear hbb hall hrow
         by_cases hlt:i < p.kids.length
         ·obtain ⟨b1,o1,g,hA,hBl,hgat,hg⟩:=(HP.out wr HB.out).kid hlt
          obtain ⟨rk,hrk⟩:∃ rk,plW ws (d - 1) p.kids[i]=rk:=⟨_,rfl⟩
          have HX:=Lib.hid (IH.out _ (List.getElem_mem hlt) g b1 _ ws A c (d - 1) wr rk hBl hgat hg HWS.out (by unfold maxLen;exact hwl) (HS.out wr HB.out) (by omega) hrk)
          have ed:((d - 1:Nat):Int)=(d:Int) - 1:=by omega
          rw [ed] at HX
          have Hrk:=Lib.hid hrk
          have Hkw:=Lib.hid (show kidW (plW ws (d - 1)) p i=rk by unfold kidW;rw [List.getElem?_eq_getElem hlt];exact hrk)
          have hil:(i:Int) < (p.kids.length:Int):=by omega
          rw [hA] at c4
          clear hrk hg hA ed hgat
          have hi2:i=0 ∨ i=1:=by omega
          rcases hi2 with rfl | rfl
          all_goals
           have Hrow0:=Hrow
           go_wp2_with fail
           refine HX.out.mono ?_
           rintro e w4 ⟨rfl,hb4⟩
           have HB4:=Lib.hid (bch HB.out hb4)
           have Hr4:=Lib.hid (Hrow.out.on hb4)
           have e0:=Hr4.out.cell 0
           have e1:=Hr4.out.cell 1
           have f0:=Hr4.out.frozen 0
           have f1:=Hr4.out.frozen 1
           clear hb4
           by_cases hz:rk=0
           ·have Hz:=Lib.hid (show R=0 by
             rw [← HR.out,show d=(d - 1) + 1 by omega]
             exact plW_kid (List.getElem_mem hlt) (Hrk.out.trans hz))
            subst hz
            go_wp2
            go_ret
            exact ⟨ret_int Hz.out.symm,HB4.out.setCell (p:=⟨_,_,none⟩) (Nat.le_refl _) _⟩
           ·have Hz:=Lib.hid hz
            have hz':(rk == 0)=false:=by simpa using hz
            clear hz
            go_wp2
            first
            | go_roundg (p.kids.length - (0 + 1))
              case measure=>omega
              case rel=>
               refine ⟨1,by omega,by omega,by go_num,HB4.out.setCell (p:=⟨_,_,none⟩) (Nat.le_refl _) _,fun j hj hn=>?_,?_⟩
               ·have:j=0:=by omega
                subst this
                rw [Hrk.out]
                exact Hz.out
               ·rw [Hkw.out]
                exact Hr4.out.set 0 _
            | go_roundg (p.kids.length - (1 + 1))
              case measure=>omega
              case rel=>
               refine ⟨2,by omega,by omega,by go_num,HB4.out.setCell (p:=⟨_,_,none⟩) (Nat.le_refl _) _,fun j hj hn=>?_,?_⟩
               ·by_cases hji:j < 1
                ·exact HA.out j hj hji
                ·have:j=1:=by omega
                 subst this
                 rw [Hrk.out]
                 exact Hz.out
               ·rw [Hkw.out]
                exact Hr4.out.set 1 _
         ·have hie:i=p.kids.length:=by omega
          have Hall:=Lib.hid (show ∀ y ∈ p.kids,plW ws (d - 1) y ≠ 0 from fun y hy=>by
           obtain ⟨j,hj,rfl⟩:=List.getElem_of_mem hy
           exact HA.out j hj (by omega))
          have HT:=Lib.hid (show topW ws p (kidW (plW ws (d - 1)) p 0) (kidW (plW ws (d - 1)) p 1)=R by
           rw [← HR.out,plW_top Hof.out Hdz.out Hall.out])
          have r0:=kidW_range HRg.out p 0
          have r1:=kidW_range HRg.out p 1
          have hkw:∀ j,(if j < i then kidW (plW ws (d - 1)) p j else 0)=kidW (plW ws (d - 1)) p j:=fun j=>by
           split
           ·rfl
           ·unfold kidW
            rw [List.getElem?_eq_none (by omega)]
          have hrow:=Hrow.out
          rw [hkw 0,hkw 1] at hrow
          obtain ⟨x0,hx0⟩:∃ x,kidW (plW ws (d - 1)) p 0=x:=⟨_,rfl⟩
          obtain ⟨x1,hx1'⟩:∃ x,kidW (plW ws (d - 1)) p 1=x:=⟨_,rfl⟩
          rw [hx0] at r0 HT hrow
          rw [hx1'] at r1 HT hrow
          have e0:=hrow.cell 0
          have e1:=hrow.cell 1
          have bw:b < wr.heap.size:=by have:=HB.out.size;omega
          have HO:=Lib.hid (widthOver_ok p f ws b o x0 x1 wr R bw (BX.out wr HB.out).1 (HP.out wr HB.out) Hof.out Hk1.out H36.out r0 r1 HT.out)
          clear hkw hrow hx0 hx1' hie r0 r1
          go_wp2_with fail
          refine HO.out.mono ?_
          rintro e w5 ⟨rfl,hb5⟩
          go_wp2
          go_ret
          exact ⟨rfl,bch HB.out hb5⟩
   ·have Hz:=Lib.hid (Hno.out fun ho=>hn (by
     rw [ho.2.1,← HKE.out.1]
     unfold nkids ipK
     have:=ho.1
     by_cases h1:p.kind=1
     ·rw [if_pos h1,if_pos h1]
     ·rw [if_neg h1,if_neg h1]
      by_cases h2:p.kind=4 ∨ p.kind=5 ∨ p.kind=6
      ·rw [if_pos h2,if_pos h2]
      ·rw [if_neg h2,if_neg h2,if_pos (by omega)]))
    have hnB:((p.kids.length:Int) != K)=true:=by simpa using hn
    clear hn

    go_enter Tryz.func82,Tryz.ntmps82
    go_wp2_with fail
    refine HPK.out.mono ?_
    rintro e w2 ⟨rfl,rfl⟩

    go_wp2_with fail
    refine (HVW.out true (by simp;omega)).mono ?_
    rintro e w2 ⟨rfl,rfl⟩

    go_wp2
    go_ret
    exact ⟨ret_int Hz.out.symm,Below.refl _ _⟩
  ·have Hz:=Lib.hid (show R=0 by rw [← HR.out];exact plW_bad3 hk3 hne)
   have hE1:E0=1:=by rw [← HKE.out.2,hk3];rfl
   subst hE1
   have he1:((p.exprs.length:Int) != 1)=true:=by have:(p.exprs.length:Int) ≠ 1:=by omega
                                                 simpa using this
   have hcn:((p.kids.length:Int) != K)=true ∨ ((p.kids.length:Int) != K)=false:=by cases ((p.kids.length:Int) != K) <;> simp
   have hq:(decide ((1:Int) ≤ (p.exprs.length:Int)) && decide ((p.exprs.length:Int) ≤ 6))=false:=by
    rw [Bool.eq_false_iff]
    intro h9
    simp at h9
    omega
   have HV0:=Lib.hid (HVW.out false hq)
   clear hk3 hne hq
   rcases hcn with hcn | hcn
   all_goals
    go_enter Tryz.func82,Tryz.ntmps82
    go_wp2_with fail
    refine HPK.out.mono ?_
    rintro e w2 ⟨rfl,rfl⟩

    go_wp2_with fail
    refine HV0.out.mono ?_
    rintro e w2 ⟨rfl,rfl⟩

    go_wp2
    go_ret
    exact ⟨ret_int Hz.out.symm,Below.refl _ _⟩
 ·have HK3:=Lib.hid hk3
  have hk3':(p.kind == 3)=false:=by simpa using hk3
  clear hk3
  by_cases hn:(p.kids.length:Int)=K
  ·have Hn:=Lib.hid hn
   have hnB:((p.kids.length:Int) != K)=false:=by simpa using hn
   clear hn

   by_cases he:(p.exprs.length:Int)=E0
   ·have HEx:=Lib.hid (show (p.exprs.length:Int)=nexprs p.kind p.exprs.length by
     rw [he,← HKE.out.2]
     unfold nexprs ipE
     have:=HK3.out
     by_cases h1:p.kind=2 ∨ p.kind=4 ∨ p.kind=5
     ·rw [if_pos (by omega),if_pos h1]
     ·rw [if_neg (by omega),if_neg h1,if_neg this])
    have heB:((p.exprs.length:Int) != E0)=false:=by simpa using he
    clear he

    by_cases hKd:0 < K ∧ d=0
    ·obtain ⟨hKp,rfl⟩:=hKd
     have Hz:=Lib.hid (show R=0 by rw [← HR.out];exact plW_deep (by have:=Hn.out;omega))
     go_enter Tryz.func82,Tryz.ntmps82
     go_wp2_with fail
     refine HPK.out.mono ?_
     rintro e w2 ⟨rfl,rfl⟩

     go_wp2
     go_ret
     exact ⟨ret_int Hz.out.symm,Below.refl _ _⟩

    ·have hcase:(0 < K ∧ ((d:Int) == 0)=false) ∨ ¬ 0 < K:=by
      by_cases h0:0 < K
      ·refine .inl ⟨h0,?_⟩
       have:d ≠ 0:=by omega
       simpa using this
      ·exact .inr h0
     have Hdz:=Lib.hid (show 0 < p.kids.length → 0 < d from fun h1=>by have:=Hn.out;omega)
     clear hKd
     have hcs:(¬ p.table=0 ∧ ¬ p.kind=1) ∨ ((p.table=0 ∨ (¬ p.table=0 ∧ p.kind=1)) ∧ ((¬ p.cols.length=0 ∧ ¬ p.kind=8) ∨ (p.cols.length=0 ∨ (¬ p.cols.length=0 ∧ p.kind=8)))):=by omega
     rcases hcs with ⟨h1,h2⟩ | ⟨h1,h2 | h2⟩
     ·have Hz:=Lib.hid (Hno.out fun ho=>by have:=ho.2.2.2.1;omega)
      have h1':(p.table != 0)=true:=by simpa using h1
      have h2':(p.kind != 1)=true:=by simpa using h2
      clear h1 h2
      rcases hcase with ⟨hKp,hdB⟩ | hKp
      all_goals
       go_enter Tryz.func82,Tryz.ntmps82
       go_wp2_with fail
       refine HPK.out.mono ?_
       rintro e w2 ⟨rfl,rfl⟩

       go_wp2
       go_ret
       exact ⟨ret_int Hz.out.symm,Below.refl _ _⟩

     ·have Hz:=Lib.hid (Hno.out fun ho=>by have:=ho.2.2.2.2;omega)
      have h3':(p.cols.length != 0)=true:=by simpa using h2.1
      have h3'':((p.cols.length:Int) != 0)=true:=by simpa using h2.1
      have h2':(p.kind != 8)=true:=by simpa using h2.2
      clear h2
      rcases h1 with h1 | ⟨h1,h4⟩
      ·have h1':(p.table != 0)=false:=by simpa using h1
       by_cases h5:p.kind=1
       ·have h5':(p.kind != 1)=false:=by simpa using h5
        clear h1 h5
        rcases hcase with ⟨hKp,hdB⟩ | hKp
        all_goals
         go_enter Tryz.func82,Tryz.ntmps82
         go_wp2_with fail
         refine HPK.out.mono ?_
         rintro e w2 ⟨rfl,rfl⟩

         go_wp2
         go_ret
         exact ⟨ret_int Hz.out.symm,Below.refl _ _⟩

       ·have h5':(p.kind != 1)=true:=by simpa using h5
        clear h1 h5
        rcases hcase with ⟨hKp,hdB⟩ | hKp
        all_goals
         go_enter Tryz.func82,Tryz.ntmps82
         go_wp2_with fail
         refine HPK.out.mono ?_
         rintro e w2 ⟨rfl,rfl⟩

         go_wp2
         go_ret
         exact ⟨ret_int Hz.out.symm,Below.refl _ _⟩

      ·have h4':(p.kind != 1)=false:=by simpa using h4
       clear h1 h4
       rcases hcase with ⟨hKp,hdB⟩ | hKp
       all_goals
        go_enter Tryz.func82,Tryz.ntmps82
        go_wp2_with fail
        refine HPK.out.mono ?_
        rintro e w2 ⟨rfl,rfl⟩

        go_wp2
        go_ret
        exact ⟨ret_int Hz.out.symm,Below.refl _ _⟩

     ·have HKr:=Lib.hid (show 1 ≤ p.kind ∧ p.kind ≤ 8 ∧ K=nkids p.kind by
       have h5:=HKE.out.1
       have h6:=Hn.out
       rw [← h5] at h6
       unfold ipK at h5 h6
       unfold nkids
       split at h5
       ·rename_i h7
        rw [if_pos h7]
        omega
       ·rename_i h7
        rw [if_neg h7]
        split at h5
        ·rename_i h8
         rw [if_pos h8]
         omega
        ·rename_i h8
         rw [if_neg h8]
         split at h5
         ·omega
         ·rename_i h9
          rw [if_neg h7,if_neg h8,if_neg h9] at h6
          omega)
      have Hof:=Lib.hid (show OnlyF p from ⟨⟨HKr.out.1,HKr.out.2.1⟩,Hn.out.trans HKr.out.2.2,HEx.out,by omega,by omega⟩)
      have hkl:=Hof.out.kids_le
      by_cases hk1:p.kind=1
      ·have hl0:p.kids.length=0:=by have:=Hof.out.2.1;rw [hk1] at this;simp [nkids] at this;simpa using this
       have HT:=Lib.hid (show topW ws p 0 0=R by
        rw [← HR.out,plW_top Hof.out Hdz.out (fun x hx=>absurd (List.length_pos_of_mem hx) (by omega))]
        have e:p.kids=[]:=List.eq_nil_of_length_eq_zero hl0
        unfold kidW
        rw [e]
        rfl)
       have hT:=HT.out
       rw [topW1 hk1] at hT
       have HTb:=Lib.hid hT
       obtain ⟨tb,htb⟩:∃ t,p.table=t:=⟨_,rfl⟩
       rw [htb] at c1 HTb h1
       have h1x:(tb != 0)=false ∨ (tb != 0)=true:=by cases (tb != 0) <;> simp
       have h8:p.cols.length=0:=by omega
       have h8':(p.cols.length != 0)=false:=by simpa using h8
       have h8'':((p.cols.length:Int) != 0)=false:=by simpa using h8
       have hKp:¬ 0 < K:=by have:=Hn.out;omega
       rw [hk1] at c0 HPK
       clear hT h1 h2 htb hl0 h8 hcase
       by_cases ht0:tb < 0
       ·have Hz:=Lib.hid (show R=0 by rw [← HTb.out,if_neg (by omega)])
        rcases h1x with h1x | h1x
        all_goals
         go_enter Tryz.func82,Tryz.ntmps82
         go_wp2_with fail
         refine HPK.out.mono ?_
         rintro e w2 ⟨rfl,rfl⟩

         go_wp2
         go_ret
         exact ⟨ret_int Hz.out.symm,Below.refl _ _⟩
       ·by_cases htn:(ws.length:Int) ≤ tb
        ·have Hz:=Lib.hid (show R=0 by rw [← HTb.out,if_neg (by omega)])
         rcases h1x with h1x | h1x
         all_goals
          go_enter Tryz.func82,Tryz.ntmps82
          go_wp2_with fail
          refine HPK.out.mono ?_
          rintro e w2 ⟨rfl,rfl⟩

          go_wp2
          go_ret
          exact ⟨ret_int Hz.out.symm,Below.refl _ _⟩
        ·obtain ⟨j,rfl⟩:=Int.eq_ofNat_of_zero_le (show 0 ≤ tb by omega)
         have hjl:j < ws.length:=by omega
         have hjI:(j:Int) < (ws.length:Int):=by omega
         have Hz:=Lib.hid (show R=ws[j] by rw [← HTb.out,if_pos (by omega)];simp [List.getD_eq_getElem?_getD,hjl])
         obtain ⟨bs,os,hAs,hBs,cs⟩:=(HS.out w (Below.refl _ _)).at1 hjl
         subst hAs
         rcases h1x with h1x | h1x
         all_goals
          go_enter Tryz.func82,Tryz.ntmps82
          go_wp2_with fail
          refine HPK.out.mono ?_
          rintro e w2 ⟨rfl,rfl⟩

          go_wp2
          go_ret
          exact ⟨ret_int Hz.out.symm,Below.refl _ _⟩
      ·have h4':(p.table != 0)=false:=by have:p.table=0:=by omega
                                         simpa using this
       have h5':(p.kind != 1)=true:=by simpa using hk1
       have h6':(p.kind == 1)=false:=by simpa using hk1
       have Hk1:=Lib.hid hk1
       have H36:=Lib.hid (show p.kind=3 → p.exprs.length ≤ 6 from fun h0=>absurd h0 HK3.out)
       have hk8b:(p.kind != 8)=true ∨ (p.kind != 8)=false:=by cases (p.kind != 8) <;> simp
       have hcl:((p.cols.length != 0)=false ∧ ((p.cols.length:Int) != 0)=false ∧ ((p.kind != 8)=true ∨ (p.kind != 8)=false)) ∨ ((p.cols.length != 0)=true ∧ ((p.cols.length:Int) != 0)=true ∧ (p.kind != 8)=false):=by
        rcases h2 with h2 | ⟨h2,h3⟩
        ·exact .inl ⟨by simpa using h2,by simpa using h2,hk8b⟩
        ·exact .inr ⟨by simpa using h2,by simpa using h2,by simpa using h3⟩
       have hKp:0 < K:=by
        have h7:=HKr.out.2.2
        unfold nkids at h7
        rw [if_neg hk1] at h7
        split at h7 <;> omega
       have hdB:((d:Int) == 0)=false:=by
        rcases hcase with h7 | h7
        ·exact h7.2
        ·exact absurd hKp h7
       have HRg:=Lib.hid (show ∀ x,0 ≤ plW ws (d - 1) x ∧ plW ws (d - 1) x ≤ 6 from fun x=>plW_range HWS.out _ _)
       have hd0:0 < d:=by have:=Hn.out;have:=Hdz.out;omega
       clear h1 h2 hk1 hcase
       obtain ⟨Wi,hWi⟩:∃ z,w.alloc (.cells #[.int .i64 0,.int .i64 0] 140)=z:=⟨_,rfl⟩
       have Bi:Below w.heap.size w Wi:=by rw [← hWi];exact balloc (Below.refl _ _) _
       have Ri:Row Wi w.heap.size 140 [.int .i64 0,.int .i64 0]:=by rw [← hWi];exact Row.new _ _ _
       have HWi:=Lib.hid hWi
       have HBi:=Lib.hid Bi
       have HRi:=Lib.hid Ri
       clear hWi Bi Ri
       clear hk8b
       rcases hcl with ⟨h7,h8,h9 | h9⟩ | ⟨h7,h8,h9⟩
       all_goals
        go_enter Tryz.func82,Tryz.ntmps82
        go_wp2_with fail
        refine HPK.out.mono ?_
        rintro e w2 ⟨rfl,rfl⟩

        go_upto_region 13 with fail
        rw [HWi.out]
        have c4:=(BX.out Wi HBi.out).2
        go_wp2
        clear c0 c1 c2 c3 c4 h4' h5' h6' h7 h8 h9 HPK HVW
        go_loopg [10,119] p.kids.length (fun g iv nv wr=>∃ i:Nat,i ≤ p.kids.length ∧ g=p.kids.length - i ∧ nv=.int .i64 i ∧ Below w.heap.size w wr ∧ (∀ j (hj:j < p.kids.length),j < i → plW ws (d - 1) p.kids[j] ≠ 0) ∧ Row wr w.heap.size 140 [.int .i64 (if 0 < i then kidW (plW ws (d - 1)) p 0 else 0),.int .i64 (if 1 < i then kidW (plW ws (d - 1)) p 1 else 0)])
        case atStart=>exact ⟨0,by omega,by omega,rfl,HBi.out,fun j hj hn=>absurd hn (by omega),HRi.out⟩
        case round=>
         obtain ⟨i,hi,rfl,rfl,hbb,hall,hrow⟩:=hrel
         have HA:=Lib.hid hall
         have HB:=Lib.hid hbb
         have Hrow:=Lib.hid hrow
         have c4:=(BX.out wr hbb).2
         have hsz:=hrow.lt
         clear hbb hall hrow
         by_cases hlt:i < p.kids.length
         ·obtain ⟨b1,o1,g,hA,hBl,hgat,hg⟩:=(HP.out wr HB.out).kid hlt
          obtain ⟨rk,hrk⟩:∃ rk,plW ws (d - 1) p.kids[i]=rk:=⟨_,rfl⟩
          have HX:=Lib.hid (IH.out _ (List.getElem_mem hlt) g b1 _ ws A c (d - 1) wr rk hBl hgat hg HWS.out (by unfold maxLen;exact hwl) (HS.out wr HB.out) (by omega) hrk)
          have ed:((d - 1:Nat):Int)=(d:Int) - 1:=by omega
          rw [ed] at HX
          have Hrk:=Lib.hid hrk
          have Hkw:=Lib.hid (show kidW (plW ws (d - 1)) p i=rk by unfold kidW;rw [List.getElem?_eq_getElem hlt];exact hrk)
          have hil:(i:Int) < (p.kids.length:Int):=by omega
          rw [hA] at c4
          clear hrk hg hA ed hgat
          have hi2:i=0 ∨ i=1:=by omega
          rcases hi2 with rfl | rfl
          all_goals
           have Hrow0:=Hrow
           go_wp2_with fail
           refine HX.out.mono ?_
           rintro e w4 ⟨rfl,hb4⟩
           have HB4:=Lib.hid (bch HB.out hb4)
           have Hr4:=Lib.hid (Hrow.out.on hb4)
           have e0:=Hr4.out.cell 0
           have e1:=Hr4.out.cell 1
           have f0:=Hr4.out.frozen 0
           have f1:=Hr4.out.frozen 1
           clear hb4
           by_cases hz:rk=0
           ·have Hz:=Lib.hid (show R=0 by
             rw [← HR.out,show d=(d - 1) + 1 by omega]
             exact plW_kid (List.getElem_mem hlt) (Hrk.out.trans hz))
            subst hz
            go_wp2
            go_ret
            exact ⟨ret_int Hz.out.symm,HB4.out.setCell (p:=⟨_,_,none⟩) (Nat.le_refl _) _⟩
           ·have Hz:=Lib.hid hz
            have hz':(rk == 0)=false:=by simpa using hz
            clear hz
            go_wp2
            first
            | go_roundg (p.kids.length - (0 + 1))
              case measure=>omega
              case rel=>
               refine ⟨1,by omega,by omega,by go_num,HB4.out.setCell (p:=⟨_,_,none⟩) (Nat.le_refl _) _,fun j hj hn=>?_,?_⟩
               ·have:j=0:=by omega
                subst this
                rw [Hrk.out]
                exact Hz.out
               ·rw [Hkw.out]
                exact Hr4.out.set 0 _
            | go_roundg (p.kids.length - (1 + 1))
              case measure=>omega
              case rel=>
               refine ⟨2,by omega,by omega,by go_num,HB4.out.setCell (p:=⟨_,_,none⟩) (Nat.le_refl _) _,fun j hj hn=>?_,?_⟩
               ·by_cases hji:j < 1
                ·exact HA.out j hj hji
                ·have:j=1:=by omega
                 subst this
                 rw [Hrk.out]
                 exact Hz.out
               ·rw [Hkw.out]
                exact Hr4.out.set 1 _
         ·have hie:i=p.kids.length:=by omega
          have Hall:=Lib.hid (show ∀ y ∈ p.kids,plW ws (d - 1) y ≠ 0 from fun y hy=>by
           obtain ⟨j,hj,rfl⟩:=List.getElem_of_mem hy
           exact HA.out j hj (by omega))
          have HT:=Lib.hid (show topW ws p (kidW (plW ws (d - 1)) p 0) (kidW (plW ws (d - 1)) p 1)=R by
           rw [← HR.out,plW_top Hof.out Hdz.out Hall.out])
          have r0:=kidW_range HRg.out p 0
          have r1:=kidW_range HRg.out p 1
          have hkw:∀ j,(if j < i then kidW (plW ws (d - 1)) p j else 0)=kidW (plW ws (d - 1)) p j:=fun j=>by
           split
           ·rfl
           ·unfold kidW
            rw [List.getElem?_eq_none (by omega)]
          have hrow:=Hrow.out
          rw [hkw 0,hkw 1] at hrow
          obtain ⟨x0,hx0⟩:∃ x,kidW (plW ws (d - 1)) p 0=x:=⟨_,rfl⟩
          obtain ⟨x1,hx1'⟩:∃ x,kidW (plW ws (d - 1)) p 1=x:=⟨_,rfl⟩
          rw [hx0] at r0 HT hrow
          rw [hx1'] at r1 HT hrow
          have e0:=hrow.cell 0
          have e1:=hrow.cell 1
          have bw:b < wr.heap.size:=by have:=HB.out.size;omega
          have HO:=Lib.hid (widthOver_ok p f ws b o x0 x1 wr R bw (BX.out wr HB.out).1 (HP.out wr HB.out) Hof.out Hk1.out H36.out r0 r1 HT.out)
          clear hkw hrow hx0 hx1' hie r0 r1
          go_wp2_with fail
          refine HO.out.mono ?_
          rintro e w5 ⟨rfl,hb5⟩
          go_wp2
          go_ret
          exact ⟨rfl,bch HB.out hb5⟩
   ·have Hz:=Lib.hid (Hno.out fun ho=>he (by
     have h1:=ho.2.2.1
     have h2:=HK3.out
     rw [h1,← HKE.out.2]
     unfold nexprs ipE
     by_cases h3:p.kind=2 ∨ p.kind=4 ∨ p.kind=5
     ·rw [if_pos h3,if_pos (by omega)]
     ·rw [if_neg h3,if_neg h2,if_neg (by omega)]))
    have heB:((p.exprs.length:Int) != E0)=true:=by simpa using he
    clear he

    go_enter Tryz.func82,Tryz.ntmps82
    go_wp2_with fail
    refine HPK.out.mono ?_
    rintro e w2 ⟨rfl,rfl⟩

    go_wp2
    go_ret
    exact ⟨ret_int Hz.out.symm,Below.refl _ _⟩
  ·have Hz:=Lib.hid (Hno.out fun ho=>hn (by
    rw [ho.2.1,← HKE.out.1]
    unfold nkids ipK
    have:=ho.1
    by_cases h1:p.kind=1
    ·rw [if_pos h1,if_pos h1]
    ·rw [if_neg h1,if_neg h1]
     by_cases h2:p.kind=4 ∨ p.kind=5 ∨ p.kind=6
     ·rw [if_pos h2,if_pos h2]
     ·rw [if_neg h2,if_neg h2,if_pos (by omega)]))
   have hnB:((p.kids.length:Int) != K)=true:=by simpa using hn
   clear hn

   go_enter Tryz.func82,Tryz.ntmps82
   go_wp2_with fail
   refine HPK.out.mono ?_
   rintro e w2 ⟨rfl,rfl⟩

   go_wp2
   go_ret
   exact ⟨ret_int Hz.out.symm,Below.refl _ _⟩

set_option maxRecDepth 20000 in
set_option maxHeartbeats 1000000 in
theorem PlanWidth_ok (p:Pl) (f:FP) (ws:List Int) (A:Option Addr) (c:Nat) (w:World) (R:Int) (h:PlIn w w.heap.size f p) (hwl:ws.length ≤ maxLen) (hsl:Sl 1 intC w w.heap.size A ws) (hr:widthP ws p=R) :
 Calls Tryz.prog 57 #[fpV f,.slice A ws.length c] w fun e w'=>e=.returned (.int .i64 R) ∧ Below w.heap.size w w':=by
 obtain ⟨W1,hW1⟩:∃ z,w.alloc (.cells #[.int .i64 f.kind,.int .i64 f.table,.slice f.es.A f.es.n f.es.c,.slice f.cs.A f.cs.n f.cs.c,.slice f.ks.A f.ks.n f.ks.c] 38)=z:=⟨_,rfl⟩
 have B1:Below w.heap.size w W1:=by rw [← hW1];exact balloc (Below.refl _ _) _
 have r1:Row W1 w.heap.size 38 [.int .i64 f.kind,.int .i64 f.table,.slice f.es.A f.es.n f.es.c,.slice f.cs.A f.cs.n f.cs.c,.slice f.ks.A f.ks.n f.ks.c]:=by rw [← hW1];exact Row.new _ _ _
 obtain ⟨q,hq⟩:=bool_of (P:=WsOk ws)
 have HV:=Lib.hid (implValidWidths_ok ws A c W1 q hwl (hsl.on B1) hq)
 have Hq:=Lib.hid hq
 have HW1:=Lib.hid hW1
 have HB1:=Lib.hid B1
 have HR:=Lib.hid hr
 have Hrow:=Lib.hid r1
 have HP:=Lib.hid (fun (z:World) (hz:Below w.heap.size w z)=>And.intro (h.on hz) (hsl.on hz))
 have Hwl:=Lib.hid hwl
 unfold fpV
 clear hq hW1 B1 hr r1 h hsl hwl
 cases q
 ·have Hz:=Lib.hid (show R=0 by rw [← HR.out];unfold widthP;rw [if_neg fun ho=>by have:=Hq.out.2 ho;cases this])
  go_enter Tryz.func57,Tryz.ntmps57
  go_upto_region 1 with fail
  rw [HW1.out]
  go_wp2_with fail
  refine HV.out.mono ?_
  rintro e w3 ⟨rfl,hb3⟩
  go_wp2
  go_ret
  exact ⟨ret_int Hz.out.symm,bch HB1.out hb3⟩
 ·have hws:WsOk ws:=Hq.out.1 rfl
  have HX:=Lib.hid (fun (z:World) (hz:Below w.heap.size w z) (hrow:Row z w.heap.size 38 [.int .i64 f.kind,.int .i64 f.table,.slice f.es.A f.es.n f.es.c,.slice f.cs.A f.cs.n f.cs.c,.slice f.ks.A f.ks.n f.ks.c])=>
   widthBelow_ok p f w.heap.size 0 ws A c 8 z R hrow.lt ⟨hrow.cell 0,hrow.cell 1,hrow.cell 2,hrow.cell 3,hrow.cell 4⟩ (HP.out z hz).1 hws.2 Hwl.out (HP.out z hz).2 (by omega) (by rw [← HR.out];unfold widthP;rw [if_pos hws]))
  clear hws
  go_enter Tryz.func57,Tryz.ntmps57
  go_upto_region 1 with fail
  rw [HW1.out]
  go_wp2_with fail
  refine HV.out.mono ?_
  rintro e w3 ⟨rfl,hb3⟩
  have HB3:=Lib.hid (bch HB1.out hb3)
  have hrow:=Lib.hid (Hrow.out.on hb3)
  clear hb3
  go_wp2_with fail
  refine (HX.out w3 HB3.out hrow.out).mono ?_
  rintro e w4 ⟨rfl,hb4⟩
  go_wp2
  go_ret
  exact ⟨rfl,bch HB3.out hb4⟩
end Go.Proofs.YtcbfbgngkdiijaaGreat
