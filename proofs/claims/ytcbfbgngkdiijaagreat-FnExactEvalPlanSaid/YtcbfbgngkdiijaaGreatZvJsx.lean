import Derived.Test.YtcbfbgngkdiijaaGreatProg
import Derived.Test.YtcbfbgngkdiijaaGreatZvPln
import Derived.BigRegion
import Derived.Test.YtcbfbgngkdiijaaGreatZvGg
import Derived.Deep.DeepCutAuto
namespace Go.Proofs.YtcbfbgngkdiijaaGreat.Js
open Go.RowKit Go.Qo
set_option linter.unusedVariables false
set_option linter.unusedSimpArgs false

def IsCmpG {α:Type} (cell:α → Value) (cmp:α → α → Int) (S:α → Prop) (w:World) (dv:Value) (v:Value):Prop:=
 ∃ (f:FuncId) (cap:Array Value),v=.func (.func f) #[] cap ∧ Callable f ∧ ∀ z:World,Only (fun i=>dv.ownBlock=some i) w z → ∀ x y:α,S x → S y →
   Calls Tryz.prog f (#[cell x,cell y] ++ cap) z fun e w'=>e=.returned (.int .i64 (cmp x y)) ∧ Below z.heap.size z w'
def OwL {α:Type} (cell:α → Value) (lo g n c:Nat) (w:World) (L:List α):Prop:=L.length=n ∧ w.ownsRow lo 3 1 (.slice (some ⟨g,0,none⟩) n c) n (L.flatMap fun x=>[cell x])
section
variable {α:Type} {cell:α → Value} {lo g n c:Nat} {w w':World} {L:List α}
theorem flat_setC:∀ (xs:List α) (j:Nat) (y:α),(xs.flatMap fun x=>[cell x]).set j (cell y)=(xs.set j y).flatMap fun x=>[cell x]
 | [],j,y=>by simp
 | x :: xs,0,y=>by simp
 | x :: xs,j + 1,y=>by
   have ih:=flat_setC xs j y
   simpa using ih
theorem OwL.ow (h:OwL cell lo g n c w L):Ow lo 3 1 (fun x=>[cell x]) w (.slice (some ⟨g,0,none⟩) n c) L:=by have hl:=h.1;unfold Ow;rw [hl];exact h.2
theorem OwL.at_ (h:OwL cell lo g n c w L) {i:Nat} {x:α} (hx:L[i]? = some x):w.cell? ⟨g,i,none⟩=some (cell x):=by
 have hl:=h.1
 have hi:=(List.getElem?_eq_some_iff.1 hx).1
 have h2:=h.ow
 obtain ⟨g',he,_,_,_,_,_,hc⟩   := h2.head (sz:=1) (enc:=fun x=>[cell x]) (fun _=>rfl) (Nat.lt_of_le_of_lt (Nat.zero_le _) hi)
 cases he
 have:=flat_get 1 (fun x=>[cell x]) (fun _=>rfl) L i x 0 _ hx rfl
 rw [Nat.mul_one,Nat.add_zero] at this
 exact hc i _ this
theorem OwL.frozen (h:OwL cell lo g n c w L) (j:Nat):w.frozen? ⟨g,j,none⟩=false:=h.2.frozenAt j
theorem OwL.put (h:OwL cell lo g n c w L) (j:Nat) (y:α):OwL cell lo g n c (w.setCell ⟨g,j,none⟩ (cell y)) (L.set j y):=by
 refine ⟨by rw [List.length_set];exact h.1,?_⟩
 have h1:=(World.ownsRow.stored h.2 j (cell y)).1
 rwa [flat_setC] at h1
theorem OwL.on (h:OwL cell lo g n c w L) (hb:Below w.heap.size w w'):OwL cell lo g n c w' L:=by
 have hl:=h.1
 have h3:=h.ow.on hb
 unfold Ow at h3
 rw [hl] at h3
 exact ⟨hl,h3⟩
theorem OwL.lt (h:OwL cell lo g n c w L):g < w.heap.size:=by
 have hl:=h.1
 have h2:=h.ow
 exact (h2.ty g rfl).2.1
end

def elCell {α:Type} (sv:α → Int) (x:α):Value:=(.int .i64 (sv x))
theorem down_done {α:Type} {cmp:α → α → Int} {S:α → Prop} (C:Cm cmp S) {xs p:List α} {x:α} {i j:Nat} (hS:∀ r ∈ xs,S r) (hx:xs[i]? = some x) (hp:gSort cmp (xs.take i)=p) (hj:j ≤ p.length)
 (h1:∀ (k:Nat) (y:α),j ≤ k → p[k]? = some y → cmp x y < 0) (h2:∀ y,0 < j → p[j - 1]? = some y → ¬ cmp x y < 0):Down p x (xs.drop (i + 1)) j=gSort cmp (xs.take (i + 1)) ++ xs.drop (i + 1):=by
 have hSt:∀ r ∈ xs.take i,S r:=fun r hr=>hS r (List.mem_of_mem_take hr)
 have ho:=gSort_ord C hSt
 have hm:∀ r ∈ gSort cmp (xs.take i),S r:=fun r hr=>hSt r ((gSort_perm C hSt).mem_iff.1 hr)
 have ht:xs.take (i + 1)=xs.take i ++ [x]:=by rw [List.take_add_one,hx];rfl
 rw [ht,gSort_snoc]
 rw [hp] at ho hm ⊢
 rw [gIns_at C (hS x (List.mem_of_getElem? hx)) hm ho hj h1 h2]
 unfold Down
 simp
theorem down_pre {α:Type} {pre p rest post:List α} {x:α} {j:Nat} (hj:pre.length ≤ j):Down (pre ++ p) x (rest ++ post) j=pre ++ Down p x rest (j - pre.length) ++ post:=by
 have e1:(pre ++ p).take j=pre ++ p.take (j - pre.length):=by rw [List.take_append,List.take_of_length_le hj]
 have e2:(pre ++ p).drop j=p.drop (j - pre.length):=by rw [List.drop_append,List.drop_eq_nil_of_le hj,List.nil_append]
 unfold Down
 rw [e1,e2]
 simp only [List.append_assoc,List.cons_append]
theorem down_end {α:Type} {cmp:α → α → Int} {S:α → Prop} (C:Cm cmp S) {pre xs post p:List α} {x:α} {i j:Nat} (hS:∀ r ∈ xs,S r) (hx:xs[i]? = some x) (hp:gSort cmp (xs.take i)=p) (ha:pre.length ≤ j) (hj:j ≤ pre.length + p.length)
 (h1:∀ (k:Nat) (y:α),j ≤ k → (pre ++ p)[k]? = some y → cmp x y < 0) (h2:∀ y,pre.length < j → (pre ++ p)[j - 1]? = some y → ¬ cmp x y < 0) :
 Down (pre ++ p) x (xs.drop (i + 1) ++ post) j=pre ++ (gSort cmp (xs.take (i + 1)) ++ xs.drop (i + 1)) ++ post:=by
 rw [down_pre ha,down_done C (j:=j - pre.length) hS hx hp (by omega) (fun k y hk hy=>h1 (pre.length + k) y (by omega) (by rw [List.getElem?_append_right (by omega)];rwa [show pre.length + k - pre.length=k by omega]))
  (fun y h0 hy=>h2 y (by omega) (by rw [List.getElem?_append_right (by omega)];rwa [show j - 1 - pre.length=j - pre.length - 1 by omega]))]
end Go.Proofs.YtcbfbgngkdiijaaGreat.Js

namespace Go.Proofs.YtcbfbgngkdiijaaGreat.Js
open Go.RowKit Go.Qo
set_option linter.unusedVariables false
set_option linter.unusedSimpArgs false

end Go.Proofs.YtcbfbgngkdiijaaGreat.Js

namespace Go.Proofs.YtcbfbgngkdiijaaGreat.Js
open Go.RowKit Go.Qo
set_option linter.unusedVariables false
set_option linter.unusedSimpArgs false

theorem IsCmpG.only {α:Type} {cell:α → Value} {cmp:α → α → Int} {S:α → Prop} {w w':World} {g n c:Nat} {v:Value} (h:IsCmpG cell cmp S w (.slice (some ⟨g,0,none⟩) n c) v) (ho:Only (fun i=>i=g) w w') :
 IsCmpG cell cmp S w' (.slice (some ⟨g,0,none⟩) n c) v:=by
 obtain ⟨f,cap,rfl,hf,hc⟩:=h
 refine ⟨f,cap,rfl,hf,fun z hz=>hc z ?_⟩
 exact (ho.mono (fun i _ hi=>by subst hi;rfl)).trans hz
def Sorts {α:Type} (cell:α → Value) (lo g n c:Nat) (w:World) (L':List α) (e:Ending) (w':World):Prop:=
 e=.returned (.tuple #[]) ∧ OwL cell lo g n c w' L' ∧ Only (fun i=>i=g) w w'

end Go.Proofs.YtcbfbgngkdiijaaGreat.Js

namespace Go.Proofs.YtcbfbgngkdiijaaGreat.Js
open Go.RowKit Go.Qo
set_option linter.unusedVariables false
set_option linter.unusedSimpArgs false

end Go.Proofs.YtcbfbgngkdiijaaGreat.Js

namespace Go.Proofs.YtcbfbgngkdiijaaGreat.Js
open Go.RowKit Go.Qo
set_option linter.unusedVariables false
set_option linter.unusedSimpArgs false

end Go.Proofs.YtcbfbgngkdiijaaGreat.Js
