import Derived.Test.YtcbfbgngkdiijaaGreatProg
import Derived.Test.YtcbfbgngkdiijaaGreatZvVal
import Derived.Test.YtcbfbgngkdiijaaGreatZvRwt
import Derived.Test.YtcbfbgngkdiijaaGreatZvPln
import Derived.Laws.CopyOwn
namespace Go.Proofs.YtcbfbgngkdiijaaGreat
open Go.RowKit Go.Qo
set_option linter.unusedVariables false
set_option linter.unusedSimpArgs false

theorem run_copy_new {P:Program} (w:World) (dT sT ty elem:TypeId) (g n dCap sz:Nat) (a:Addr) (sCap:Nat) (cur:Array Value) (t:TypeId) (cs:List Value)
 (hu:P.underlying dT=some (.slice elem)) (hs:(P.info? elem).map (·.size)=some sz)
 (hg:w.heap[g]? = some (.cells cur t (0,0))) (hn:cs.length=n * sz)
 (hsrc:∀ j v,cs[j]? = some v → w.cell? (a.add j)=some v) (hfit:cs.length=cur.size) (h1:∀ v ∈ cs,v.oneCell'=true) :
 (Builtin.copy_ #[dT,sT] ty #[.slice (some ⟨g,0,none⟩) n dCap,.slice (some a) n sCap]).run P w=.ok (goInt n) (w.setRow g cs.toArray):=by
 have hl:=run_loadCells_list (P:=P) w a cs hsrc
 have hst:=run_storeCells_at P g 0 t cs 0 cur w hg (by omega) h1
 have he:(cur.toList.take (0 + 0) ++ cs ++ cur.toList.drop (0 + 0 + cs.length)).toArray=cs.toArray:=by
  have:cur.toList.drop (0 + 0 + cs.length)=[]:=List.drop_eq_nil_of_le (by rw [Array.length_toList];omega)
  rw [this];simp
 rw [he] at hst
 cases hq:P.info? elem with
 | none=>simp [hq] at hs
 | some i=>
   have hi:i.size=sz:=by simpa [hq] using hs
   simp [Builtin.copy_,run_underlying hu,Builtin.lenOf,Builtin.firstCells,sizeOf,typeInfo,hq,hi,← hn,hl,hst]
theorem slCells {α:Type} {sz:Nat} (hsz:0 < sz) {enc:α → List Value} (he:∀ x,(enc x).length=sz) {w:World} {B b off:Nat} {xs:List α} (h:Sl sz enc w B (some ⟨b,off,none⟩) xs):∀ j v,(xs.flatMap enc)[j]? = some v → w.cell? ((⟨b,off,none⟩:Addr).add j)=some v:=by
 intro j u hu
 have hj:j < xs.length * sz:=by rw [← flat_length sz enc he xs];exact (List.getElem?_eq_some_iff.1 hu).1
 have h0:0 < xs.length:=Nat.pos_of_ne_zero fun h=>by rw [h] at hj;omega
 obtain ⟨b',off',hA,_,hc⟩:=h h0
 cases hA
 have hdm:j / sz * sz + j % sz=j:=by rw [Nat.mul_comm];exact Nat.div_add_mod j sz
 have hi2:j / sz < xs.length:=(Nat.div_lt_iff_lt_mul hsz).2 hj
 have hxi:=List.getElem?_eq_getElem hi2
 have hjm:j % sz < (enc xs[j / sz]).length:=by rw [he];exact Nat.mod_lt _ hsz
 have hu':=flat_get sz enc he xs (j / sz) _ (j % sz) _ hxi (List.getElem?_eq_getElem hjm)
 rw [hdm,hu] at hu'
 cases hu'
 have:=hc (j / sz) _ hxi (j % sz) _ (List.getElem?_eq_getElem hjm)
 rw [Nat.add_assoc,hdm] at this
 rwa [Addr.add_lit]

set_option maxRecDepth 20000 in
set_option maxHeartbeats 1000000 in
theorem copiedRow_ok (A:Option Addr) (c:Nat) (xs:List Val) (w:World) (hn:xs.length ≤ 1048576) (h:Sl 2 valC w w.heap.size A xs) :
 Calls Tryz.prog 118 #[.slice A xs.length c] w fun e w'=>∃ v,e=.returned v ∧ Ow w.heap.size 85 2 valC w' v xs ∧ Below w.heap.size w w':=by
 rcases Nat.eq_zero_or_pos xs.length with h0 | h0
 ·have hx:xs=[]:=List.eq_nil_of_length_eq_zero h0
  subst hx
  clear h
  go_enter Tryz.func118,Tryz.ntmps118
  go_wp2
  go_ret
  exact ⟨_,rfl,Ow.nil,Below.refl _ _⟩
 ·obtain ⟨b,off,rfl,hB,hc⟩:=h h0
  have hne:((xs.length:Int) == 0)=false:=by rw [beq_eq_false_iff_ne];omega
  have hne2:¬ ((xs.length:Int)=0):=by omega
  have hmk:=run_make_rowN (P:=Tryz.prog) 100 85 _ _ _ Tryz.underlying100 zeroVal .i64 .i64 xs.length (by omega) (by omega)
  have hcp:=run_copy_new (P:=Tryz.prog) (w.alloc (.cells (madeCells #[.bool false,.int .i64 0] (xs.length * 2)) 85)) 100 100 3 85 w.heap.size xs.length xs.length 2 ⟨b,off,none⟩ c _ _ (xs.flatMap valC) Tryz.underlying100 (by kernel_rfl) (heap_alloc_new w _) (flat_length 2 valC valC_length xs) (slCells (by omega) valC_length (h.on (balloc (Below.refl _ _) _))) (by rw [flat_length 2 valC valC_length xs];simp [madeCells]) (fun v hv=>by obtain ⟨y,_,hy⟩:=List.mem_flatMap.1 hv;exact valC_one y v hy)
  have hrow:Row ((w.alloc (.cells (madeCells #[.bool false,.int .i64 0] (xs.length * 2)) 85)).setRow w.heap.size (xs.flatMap valC).toArray) w.heap.size 85 (xs.flatMap valC):=setRow_heap _ _ _ _ _ _ (heap_alloc_new w _)
  have hbel:Below w.heap.size w ((w.alloc (.cells (madeCells #[.bool false,.int .i64 0] (xs.length * 2)) 85)).setRow w.heap.size (xs.flatMap valC).toArray):=below_setRow (balloc (Below.refl _ _) _) (Nat.le_refl _) _
  have HR:=Lib.hid (And.intro hrow hbel)
  clear h hc hrow hbel
  go_enter Tryz.func118,Tryz.ntmps118
  go_wp2
  go_ret
  exact ⟨_,rfl,⟨flat_length 2 valC valC_length xs,.inr ⟨w.heap.size,xs.length,_,rfl,Nat.le_refl _,HR.out.1,Nat.le_refl _,by unfold maxLen;omega,by simp [flat_length 2 valC valC_length xs],by simp;rw [List.take_of_length_le (by rw [flat_length 2 valC valC_length xs];omega)]⟩⟩,HR.out.2⟩

set_option maxRecDepth 20000 in
set_option maxHeartbeats 1000000 in
theorem copiedRows_ok (A:Option Addr) (c:Nat) (xs:List SV) (w:World) (hn:xs.length ≤ 1048576) (h:Sl 1 svC w w.heap.size A xs) :
 Calls Tryz.prog 131 #[.slice A xs.length c] w fun e w'=>∃ v,e=.returned v ∧ Ow w.heap.size 100 1 svC w' v xs ∧ Below w.heap.size w w':=by
 rcases Nat.eq_zero_or_pos xs.length with h0 | h0
 ·have hx:xs=[]:=List.eq_nil_of_length_eq_zero h0
  subst hx
  clear h
  go_enter Tryz.func131,Tryz.ntmps131
  go_wp2
  go_ret
  exact ⟨_,rfl,Ow.nil,Below.refl _ _⟩
 ·obtain ⟨b,off,rfl,hB,hc⟩:=h h0
  have hne:((xs.length:Int) == 0)=false:=by rw [beq_eq_false_iff_ne];omega
  have hne2:¬ ((xs.length:Int)=0):=by omega
  have hmk:=run_make_rowN (P:=Tryz.prog) 30 100 _ _ _ Tryz.underlying30 zeroRow .i64 .i64 xs.length (by omega) (by omega)
  have hcp:=run_copy_new (P:=Tryz.prog) (w.alloc (.cells (madeCells #[.slice none 0 0] xs.length) 100)) 30 30 3 100 w.heap.size xs.length xs.length 1 ⟨b,off,none⟩ c _ _ (xs.flatMap svC) Tryz.underlying30 (by kernel_rfl) (heap_alloc_new w _) (flat_length 1 svC svC_length xs) (slCells (by omega) svC_length (h.on (balloc (Below.refl _ _) _))) (by rw [flat_length 1 svC svC_length xs];simp [madeCells]) (fun v hv=>by obtain ⟨y,_,hy⟩:=List.mem_flatMap.1 hv;exact svC_one y v hy)
  have hrow:Row ((w.alloc (.cells (madeCells #[.slice none 0 0] xs.length) 100)).setRow w.heap.size (xs.flatMap svC).toArray) w.heap.size 100 (xs.flatMap svC):=setRow_heap _ _ _ _ _ _ (heap_alloc_new w _)
  have hbel:Below w.heap.size w ((w.alloc (.cells (madeCells #[.slice none 0 0] xs.length) 100)).setRow w.heap.size (xs.flatMap svC).toArray):=below_setRow (balloc (Below.refl _ _) _) (Nat.le_refl _) _
  have HR:=Lib.hid (And.intro hrow hbel)
  clear h hc hrow hbel
  go_enter Tryz.func131,Tryz.ntmps131
  go_wp2
  go_ret
  exact ⟨_,rfl,⟨flat_length 1 svC svC_length xs,.inr ⟨w.heap.size,xs.length,_,rfl,Nat.le_refl _,HR.out.1,Nat.le_refl _,by unfold maxLen;omega,by simp [flat_length 1 svC svC_length xs],by simp;rw [List.take_of_length_le (by rw [flat_length 1 svC svC_length xs];omega)]⟩⟩,HR.out.2⟩

end Go.Proofs.YtcbfbgngkdiijaaGreat
