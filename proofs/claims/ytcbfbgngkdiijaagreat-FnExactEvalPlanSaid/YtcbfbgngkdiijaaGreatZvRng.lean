import Derived.Test.YtcbfbgngkdiijaaGreatZvPln
import Derived.OrdersIn
import Derived.Deep.RegionHeld3
import Derived.RangeFuncNested
import Derived.RangeFuncBound
import Derived.RangeFuncCalls
import Derived.RangeFuncLeaves
namespace Go.Qo
open Go.RowKit
set_option linter.unusedVariables false
set_option linter.unusedSimpArgs false

theorem rowsIn_wide {n:Nat} {P:Program} {row:String} {args:Array Value} {w:World} {R:Value → World → Prop} {l:Nat} (h:Rows P row args w R):RowsIn (Fence.wide.inRound l) n P row args w R:=
 fun c cs _=>let ⟨v,w',r,s⟩:=h c cs;⟨v,w',r,stepsIn_wide.2 s⟩

theorem wpIn_of_wp_op {P:Program} {o:Oper} {a:Act} {w:World} {K:Act → World → Prop} {Q:Exit → Act → World → Prop} {l n:Nat} (hnd:∀ c,o.op ≠ .defer c) (h:o.wp P a w K Q):o.wpIn (Fence.wide.inRound l) n P a w K Q:=by
 refine ⟨fun _ _=>trivial,?_⟩
 rw [Oper.semAt_eq _ _ _ hnd]
 unfold Oper.wp at h
 generalize (execOp a.eval o).run P w=r at *
 cases r with
 | ok x w'=>
   cases x
   case enter f args=>exact ⟨fun h=>(by simp [Fence.inRound,Fence.wide] at h),CallsIn.inRound l (callsIn_wide.2 h)⟩
   case row row args=>exact ⟨fun h=>(by simp [Fence.inRound,Fence.wide] at h),rowsIn_wide h⟩
   case round=>exact h.elim
   all_goals first | exact h | exact h.elim
 | halt x w'=>cases x <;> first | exact h | exact h.elim

theorem wpOpIn_of {P:Program} {ops:Array Oper} {Q:Exit → Act → World → Prop} {i l n:Nat} {K:Act → World → Prop} {a:Act} {w:World} (hnd:∀ (i:Nat) (o:Oper),ops[i]? = some o → ∀ c,o.op ≠ .defer c) (hQ:¬ LetsOut Q) (h:wpOp P ops Q i K a w):wpOpIn (Fence.wide.inRound l) n P ops Q i K a w:=by
 unfold wpOp at h
 unfold wpOpIn
 cases ho:ops[i]? with
 | none=>simpa [ho] using h
 | some o=>
   simp only [ho] at h ⊢
   split
   ·rename_i hw
    simp only [hw,if_true] at h
    exact wpIn_of_wp_op (hnd i o ho) (h.resolve_right fun h=>hQ h.2)
   ·rename_i hw
    simp only [hw] at h
    exact ⟨fun _ _=>trivial,h⟩

theorem wpAnyIn_of {P:Program} {md:Region.Mode} {ops:Array Oper} {Q:Exit → Act → World → Prop} {l n:Nat} (hnd:∀ (i:Nat) (o:Oper),ops[i]? = some o → ∀ c,o.op ≠ .defer c) (hQ:¬ LetsOut Q) :
 ∀ (fuel:Nat) (listed:Array Bool) (a:Act) (w:World),wpAny P md ops Q fuel listed a w → wpAnyIn (Fence.wide.inRound l) n P md ops Q fuel listed a w
 | 0,_,_,_,h=>h
 | fuel + 1,_,_,_,h=>⟨h.1,fun i hi=>wpOpIn_of hnd hQ (wpOp_mono (fun a w h=>wpAnyIn_of hnd hQ fuel _ a w h) (h.2 i hi))⟩

def noDefer (ops:Array Oper):Bool:=ops.all fun o=>match o.op with | .defer _=>false | _=>true
theorem noDefer_spec {ops:Array Oper} (h:noDefer ops=true) (i:Nat) (o:Oper) (ho:ops[i]? = some o) (c:Call):o.op ≠ .defer c:=by
 intro e
 have h1:=Array.all_eq_true.1 h i (Array.getElem?_eq_some_iff.1 ho).1
 rw [(Array.getElem?_eq_some_iff.1 ho).2] at h1
 simp [e] at h1

theorem wpRound_region_any {P:Program} {Q:Exit → Act → World → Prop} {id l n:Nat} {ops:Array Oper} {a:Act} {w:World} (hm:P.follows .mixedOrders=true) (hnd:noDefer ops=true) (hQ:¬ LetsOut Q)
 (h:wpAny P .any ops Q ops.size (Array.replicate ops.size false) a w.drew):(Code.region id ops true).wpIn (Fence.wide.inRound l) n P Q a w:=
 wpIn_region_any hm (wpAnyIn_of (noDefer_spec hnd) hQ _ _ _ _ h)

theorem keepsOthers_below {W W':World} (h:Below W.heap.size W W'):KeepsOthers W W':=⟨h.size,fun k o hk _=>(h.block k (Array.getElem?_eq_some_iff.1 hk).1).trans hk⟩
theorem keepsOthers_grown {W W':World} {row:Option Nat} (h:W.grownBy W' row) (hr:∀ k,row=some k → ∃ t,TyAt W k t):KeepsOthers W W':=
 KeepsOthers.of_grownBy h fun j o hj ho=>by
  obtain ⟨t,cs,r,ht⟩:=hr j hj
  rw [ht] at ho
  cases ho
  rfl

structure Kp2 (n₀:Nat) (t u:TypeId) (W W':World):Prop where
 os:W'.os=W.os
 tape:W'.tape=W.tape
 output:W'.output=W.output
 size:W.heap.size ≤ W'.heap.size
 block:∀ k,k < W.heap.size → (k < n₀ ∨ ∃ s,TyAt W k s ∧ s ≠ t ∧ s ≠ u) → W'.heap[k]? = W.heap[k]?
section
variable {n₀:Nat} {t u:TypeId} {W W' A B C:World}
theorem TyAt.keep {k:Nat} {s:TypeId} (h:TyAt W k s) (e:W'.heap[k]? = W.heap[k]?):TyAt W' k s:=by
 obtain ⟨cs,r,h⟩:=h
 exact ⟨cs,r,e.trans h⟩
theorem TyAt.lt {k:Nat} {s:TypeId} (h:TyAt W k s):k < W.heap.size:=by
 obtain ⟨cs,r,h⟩:=h
 exact (Array.getElem?_eq_some_iff.1 h).1
theorem Kp2.below (h:Below W.heap.size W W'):Kp2 n₀ t u W W':=⟨h.os,h.tape,h.output,h.size,fun k hk _=>h.block k hk⟩
theorem Kp2.refl (W:World):Kp2 n₀ t u W W:=Kp2.below (Below.refl _ _)
theorem Kp2.trans (h:Kp2 n₀ t u A B) (k:Kp2 n₀ t u B C):Kp2 n₀ t u A C:=
 ⟨k.os.trans h.os,k.tape.trans h.tape,k.output.trans h.output,Nat.le_trans h.size k.size,fun i hi hx=>by
   have e:=h.block i hi hx
   refine (k.block i (Nat.lt_of_lt_of_le hi h.size) ?_).trans e
   rcases hx with hx | ⟨s,hs,hx⟩
   ·exact .inl hx
   ·exact .inr ⟨s,hs.keep e,hx⟩⟩
theorem Kp2.put (l:Nat) (o o':Obj) (hl:n₀ ≤ l) (h:W.heap[l]? = some o) (ho:o.isCells=false):Kp2 n₀ t u W (W.putObj l o'):=
 ⟨rfl,rfl,rfl,by simp [World.putObj],fun k hk hx=>by
   refine World.putObj_heap_other fun e=>?_
   subst e
   rcases hx with hx | ⟨s,⟨cs,r,hs⟩,_⟩
   ·omega
   ·rw [h] at hs;cases hs;cases ho⟩
theorem Kp2.belowN (h:Kp2 n₀ t u W W') (hn:n₀ ≤ W.heap.size):Below n₀ W W':=⟨h.os,h.tape,h.output,h.size,fun k hk=>h.block k (by omega) (.inl hk)⟩
theorem Kp2.grown {row:Option Nat} (h:W.grownBy W' row) (hr:∀ k,row=some k → n₀ ≤ k ∧ (TyAt W k t ∨ TyAt W k u)):Kp2 n₀ t u W W':=
 ⟨h.os,h.tape,h.output,h.size,fun k hk hx=>h.block k hk fun e=>by
   obtain ⟨h1,h2⟩:=hr k e.symm
   rcases hx with hx | ⟨s,hs,hx1,hx2⟩
   ·omega
   ·rcases h2 with h2 | h2
    ·exact (TyAt.ne hs h2 hx1) rfl
    ·exact (TyAt.ne hs h2 hx2) rfl⟩
theorem Kp2.set (a:Addr) (v:Value) (ha:n₀ ≤ a.block) (ht:TyAt W a.block t ∨ TyAt W a.block u):Kp2 n₀ t u W (W.setCell a v):=
 ⟨rfl,rfl,rfl,by simp [World.setCell],fun k hk hx=>by
   refine Below.heap_setCell _ _ _ _ fun e=>?_
   rcases hx with hx | ⟨s,hs,hx1,hx2⟩
   ·omega
   ·rw [e] at hs
    rcases ht with h2 | h2
    ·exact (TyAt.ne hs h2 hx1) rfl
    ·exact (TyAt.ne hs h2 hx2) rfl⟩
theorem AbidesFrom.below {β:Type} {B:Nat} {J:β → World → Prop} (h:AbidesFrom B J) {s:β} (hs:J s W) (hb:Below W.heap.size W W'):J s W':=
 h s W W' none hs ⟨hb.os,hb.tape,hb.output,hb.size,fun k hk _=>hb.block k hk⟩ (fun _ e=>by cases e)
end
end Go.Qo
