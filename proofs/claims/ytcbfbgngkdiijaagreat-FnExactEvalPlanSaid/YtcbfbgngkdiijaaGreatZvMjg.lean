import Derived.Test.YtcbfbgngkdiijaaGreatProg
import Derived.Test.YtcbfbgngkdiijaaGreatZvTbg
import Derived.Test.YtcbfbgngkdiijaaGreatZvPln
import Derived.Test.YtcbfbgngkdiijaaGreatZvRwt
import Derived.Deep.RegionHeld3
import Derived.Deep.DeepCutAuto
import Derived.Test.YtcbfbgngkdiijaaGreatZvUng
import Derived.BigQuiet
import Derived.Test.YtcbfbgngkdiijaaGreatZvGe
import Derived.Sort.QuietIn
namespace Go.Proofs.YtcbfbgngkdiijaaGreat
open Go.RowKit Go.Qo
set_option linter.unusedVariables false
set_option linter.unusedSimpArgs false

theorem mem_drop_of {α:Type} {l:List α} {n:Nat} {x:α} (h:x ∈ l.drop n):∃ j,n ≤ j ∧ l[j]? = some x:=by
 obtain ⟨i,hi,rfl⟩:=List.getElem_of_mem h
 rw [List.length_drop] at hi
 exact ⟨n + i,by omega,by rw [List.getElem_drop,List.getElem?_eq_getElem (by omega)]⟩
theorem Built.srt {W:Int} {rs out:List Row1} (h:Built rs out) (hr:∀ r ∈ rs,RowOk W r):out.Pairwise (fun a b=>rCmp a b ≤ 0):=by
 induction h with
 | nil=>exact List.Pairwise.nil
 | @snoc rs out r low hb hi ih=>
   have hro:RowOk W r:=hr r (by simp)
   have ih:=ih fun x hx=>hr x (by simp [hx])
   have hout:∀ x ∈ out,RowOk W x:=fun x hx=>hr x (by simp [hb.perm.mem_iff.1 hx])
   obtain ⟨hl,h1,h2⟩:=hi
   have hpw:=List.pairwise_iff_getElem.1 ih
   have ha:∀ x ∈ out.take low,rCmp x r ≤ 0:=fun x hx=>by
    obtain ⟨j,hj,rfl⟩:=List.getElem_of_mem hx
    rw [List.length_take] at hj
    rw [List.getElem_take]
    have hl1:low - 1 < out.length:=by omega
    have h3:=h1 out[low - 1] (by omega) (List.getElem?_eq_getElem hl1)
    rcases Nat.lt_or_ge j (low - 1) with h4 | h4
    ·exact (hout _ (List.getElem_mem _)).trans (hout _ (List.getElem_mem hl1)) hro (hpw j (low - 1) (by omega) hl1 h4) h3
    ·have:j=low - 1:=by omega
     subst this;exact h3
   have hd:∀ x ∈ out.drop low,rCmp r x ≤ 0:=fun x hx=>by
    obtain ⟨j,hj,hxj⟩:=mem_drop_of hx
    have hjl:=(List.getElem?_eq_some_iff.1 hxj).1
    have hjx:=(List.getElem?_eq_some_iff.1 hxj).2
    have hl1:low < out.length:=by omega
    have h3:=h2 out[low] (List.getElem?_eq_getElem hl1)
    have h5:=(hout _ (List.getElem_mem hl1)).anti hro
    rcases Nat.lt_or_ge low j with h4 | h4
    ·have h6:=hpw low j hl1 hjl h4
     rw [hjx] at h6
     exact hro.trans (hout _ (List.getElem_mem hl1)) (hout x (List.mem_of_mem_drop hx)) (by omega) h6
    ·have:j=low:=by omega
     subst this;rw [← hjx];omega
   rw [List.append_assoc,List.pairwise_append]
   refine ⟨ih.sublist (List.take_sublist _ _),?_,fun x hx y hy=>?_⟩
   ·rw [List.singleton_append,List.pairwise_cons]
    exact ⟨hd,ih.sublist (List.drop_sublist _ _)⟩
   ·have hxo:=hout x (List.mem_of_mem_take hx)
    rcases List.mem_append.1 hy with h4 | h4
    ·simp only [List.mem_singleton] at h4;subst h4;exact ha x hx
    ·exact hxo.trans hro (hout y (List.mem_of_mem_drop h4)) (ha x hx) (hd y h4)

def TabD (q:Bool) (W:Int) (rows:List Row1) (W1:Int) (out:List Row1):Prop:=
 (q=false ∧ W1=0 ∧ out=[]) ∨ (q=true ∧ W1=W ∧ (if rows.length ≤ 400 then Built rows out else out=[]))
def SpecTab (q:Bool) (W:Int) (rows:List Row1) (w:World) (e:Ending) (w':World):Prop:=
 ∃ (W1:Int) (v:Value) (svs:List SV) (out:List Row1),e=.returned (.tuple #[.agg #[.int .i64 W1,v],.bool q]) ∧ TabD q W rows W1 out ∧ Ow w.heap.size 100 1 svC w' v svs ∧ RowsT 85 2 valC 0 w' svs out ∧ Below w.heap.size w w'
theorem SpecTab.no {W:Int} {rows:List Row1} {w w':World} (hb:Below w.heap.size w w'):SpecTab false W rows w (.returned (.tuple #[.agg #[.int .i64 0,.slice none 0 0],.bool false])) w':=
 ⟨0,_,[],[],rfl,.inl ⟨rfl,rfl,rfl⟩,Ow.nil,RowsT.nil,hb⟩

end Go.Proofs.YtcbfbgngkdiijaaGreat

namespace Go.Proofs.YtcbfbgngkdiijaaGreat
open Go.RowKit Go.Qo
set_option linter.unusedVariables false
set_option linter.unusedSimpArgs false

end Go.Proofs.YtcbfbgngkdiijaaGreat

namespace Go.Proofs.YtcbfbgngkdiijaaGreat
open Go.RowKit Go.Qo
set_option linter.unusedVariables false
set_option linter.unusedSimpArgs false

theorem cellAt {W:Int} {rows:List Row1} {A:Option Addr} {cn i:Nat} {z:World} (h:Rws z z.heap.size A rows) (hr:∀ r ∈ rows,RowOk W r) (hc:(cn:Int) < W) (hi:i < rows.length) :
 ∃ b o b2 o2 C,A=some ⟨b,o,none⟩ ∧ b < z.heap.size ∧ z.cell? ⟨b,o + i,none⟩=some (.slice (some ⟨b2,o2,none⟩) (rwAt rows (i:Int)).length C) ∧ b2 < z.heap.size ∧ z.cell? ⟨b2,o2 + cn * 2,none⟩=some (.bool (nul rows cn i)) ∧
   z.cell? ⟨b2,o2 + cn * 2 + 1,none⟩=some (.int .i64 (nAt rows cn (i:Int))) ∧ (cn:Int) < ((rwAt rows (i:Int)).length:Int) ∧ (rwAt rows (i:Int)).length ≤ 6 ∧ C ≤ maxLen ∧ Sl 2 valC z z.heap.size (some ⟨b2,o2,none⟩) (rwAt rows (i:Int)):=by
 have hx:=List.getElem?_eq_getElem hi
 have hxo:=hr _ (List.getElem_mem hi)
 obtain ⟨b,o,A3,C3,hA,hB,c3,_,hm,s3⟩:=h.at_ hi
 rw [rwAt_nat hi]
 have hx6:=(rowValid_len hxo.1).2
 have hcx:cn < rows[i].length:=by have:=hxo.2;omega
 obtain ⟨b4,o4,hA4,hB4,d0,d1⟩:=Val.at_ s3 hcx
 subst hA4
 rw [nul_eq hx (List.getElem?_eq_getElem hcx),nAt_eq hx (List.getElem?_eq_getElem hcx)]
 exact ⟨b,o,b4,o4,C3,hA,hB,c3,hB4,d0,d1,by omega,hx6,hm,s3⟩

end Go.Proofs.YtcbfbgngkdiijaaGreat

namespace Go.Proofs.YtcbfbgngkdiijaaGreat
open Go.RowKit Go.Qo
set_option linter.unusedVariables false
set_option linter.unusedSimpArgs false
attribute [local go_sem] Oper.semAt_some

end Go.Proofs.YtcbfbgngkdiijaaGreat

namespace Go.Proofs.YtcbfbgngkdiijaaGreat
open Go.RowKit Go.Qo
set_option linter.unusedVariables false
set_option linter.unusedSimpArgs false

end Go.Proofs.YtcbfbgngkdiijaaGreat
