import Derived.Test.YtcbfbgngkdiijaaGreatProg
import Derived.Test.YtcbfbgngkdiijaaGreatZvGa
import Derived.Test.YtcbfbgngkdiijaaGreatZvRwt
import Derived.Test.YtcbfbgngkdiijaaGreatZvRng
import Derived.Test.YtcbfbgngkdiijaaGreatZvPln
import Derived.Test.YtcbfbgngkdiijaaGreatZvCopy
import Derived.Shelf.Abstract
import Derived.WalkKit
import Derived.OwnWalkIn
import Derived.TacticsInMore
import Derived.LoopNIn
import Derived.LoopIn
namespace Go.Proofs.YtcbfbgngkdiijaaGreat
open Go.RowKit Go.Qo
set_option linter.unusedVariables false
set_option linter.unusedSimpArgs false
attribute [local go_sem] Oper.semAt_some

theorem Cps.srt {W:Int} {lo:Nat} {z:World} {cp:List SRw} (h:Cps lo z cp) (hr:∀ p ∈ cp,RowOk W p.2):∀ p ∈ cp,SRt W lo z p:=fun p hp=>⟨hr p hp,(h.1 p hp).1,(h.1 p hp).slT⟩
def EntersF (f:FuncId):Prop:=∀ (args:Array Value) (w:World),(callFunc f args).run Tryz.prog w=.ok (.enter f args) w
def SRs (W:Int) (w:World) (p:SRw):Prop:=RowOk W p.2 ∧ p.1.n=p.2.length ∧ p.2.length ≤ p.1.c ∧ p.1.c ≤ maxLen ∧ Sl 2 valC w w.heap.size p.1.A p.2
abbrev Src (W:Int) (w:World):={p:SRw // SRs W w p}
abbrev KpC (n₀:Nat):World → World → Prop:=Kp2 n₀ 100 30
def ColRes (W:Int) (rows:List Row1) (w:World) (e:Ending) (w':World):Prop:=
 ∃ (v:Value) (cp:List SRw),e=.returned (.agg #[.int .i64 W,v]) ∧ (if rows.length ≤ 400 then (cp.map (·.2)).Perm rows ∧ (cp.map (·.2)).Pairwise (fun a b=>rCmp a b ≤ 0) else cp=[]) ∧ Ow w.heap.size 100 1 svC w' v (cp.map (·.1)) ∧ Cps w.heap.size w' cp ∧ Below w.heap.size w w'

def ColI (W:Int) (w:World) (pre:List (Src W w)) (z:World):Prop:=
 pre.length ≤ 400 ∧ Row z w.heap.size 3 [.int .i64 W] ∧ Row z (w.heap.size + 1) 32 [.int .i64 0,.slice none 0 0] ∧
 (∃ (v:Value) (cp:List SRw),Row z (w.heap.size + 2) 30 [v] ∧ Ow (w.heap.size + 3) 100 1 svC z v (cp.map (·.1)) ∧ Cps w.heap.size z cp ∧ cp.map (·.2)=pre.map (·.1.2)) ∧ Below w.heap.size w z
def ColX (W:Int) (w:World) (c:Code) (pre:List (Src W w)) (z:World):Prop:=
 c=.ret ∧ 400 < pre.length ∧ Row z (w.heap.size + 1) 32 [.int .i64 W,.slice none 0 0] ∧ Below w.heap.size w z

theorem cells_kept {W W':World} {row:Option Nat} (hg:W.grownBy W' row) (hr:∀ r,row=some r → ∃ o:Obj,W.heap[r]? = some o ∧ o.isCells=false) {k:Nat} {t:TypeId} (h:TyAt W k t):W'.heap[k]? = W.heap[k]?:=by
 obtain ⟨cs,r,h⟩:=h
 refine hg.block k (Array.getElem?_eq_some_iff.1 h).1 fun e=>?_
 obtain ⟨o,ho,hc⟩:=hr k e.symm
 rw [h] at ho
 cases ho
 cases hc
theorem colI_own (W:Int) (w:World):OwnFrom (w.heap.size + 3) (ColI W w):=by
 rintro pre A B row ⟨h0,h1,h2,⟨v,cp,h3,h4,h5,h7⟩,h6⟩ hg hr
 have hk:∀ {k:Nat} {t:TypeId},TyAt A k t → B.heap[k]? = A.heap[k]?:=fun h=>cells_kept hg (fun r e=>(hr r e).2) h
 refine ⟨h0,h1.keep (hk h1.ty),h2.keep (hk h2.ty),⟨v,cp,h3.keep (hk h3.ty),h4.keep fun b _ _ ht=>hk ht,h5.keep fun b _ _ ht=>hk ht,h7⟩,h6.grown hg h6.size fun k e=>by have:=(hr k e).1;omega⟩
theorem colX_own (W:Int) (w:World) (c:Code):OwnFrom (w.heap.size + 3) (ColX W w c):=by
 rintro pre A B row ⟨h0,h1,h2,h6⟩ hg hr
 have hk:∀ {k:Nat} {t:TypeId},TyAt A k t → B.heap[k]? = A.heap[k]?:=fun h=>cells_kept hg (fun r e=>(hr r e).2) h
 exact ⟨h0,h1,h2.keep (hk h2.ty),h6.grown hg h6.size fun k e=>by have:=(hr k e).1;omega⟩

theorem resCol {b:Nat} {v0 v1:Value} (tmps:Array Value) (hp:tmps.getD 4 undef=.pointer (some ⟨b,0,none⟩)) (w:World) (c0:w.cell? ⟨b,0,none⟩=some v0) (c1:w.cell? ⟨b,1,none⟩=some v1) :
 (results Tryz.f90 tmps).run Tryz.prog w=.ok (.agg #[v0,v1]) w:=by
 simp only [Array.getD_eq_getD_getElem?] at hp
 simp [results,Tryz.results90,go_sem,hp,c0,c1]

theorem colFin {W:Int} {w z1:World} {D:Nat} {v:Value} {svs:List SV} {cp:List SRw} (hD:w.heap.size + 3 ≤ D) (hK:z1.heap[D]? = some (.deferred (some []))) (h2:Row z1 (w.heap.size + 1) 32 [.int .i64 0,.slice none 0 0])
 (hO:Ow (w.heap.size + 3) 100 1 svC z1 v svs) (hR:Cps w.heap.size z1 cp) (hb:Below w.heap.size w z1) {z2:World} (hz:z2=(z1.setCell ⟨w.heap.size + 1,0,none⟩ (.int .i64 W)).setCell ⟨w.heap.size + 1,1,none⟩ v) :
 z2.heap[D]? = some (.deferred (some [])) ∧ (z2.putObj D (.deferred none)).cell? ⟨w.heap.size + 1,0,none⟩=some (.int .i64 W) ∧ (z2.putObj D (.deferred none)).cell? ⟨w.heap.size + 1,1,none⟩=some v ∧
  Ow w.heap.size 100 1 svC (z2.putObj D (.deferred none)) v svs ∧ Cps w.heap.size (z2.putObj D (.deferred none)) cp ∧ Below w.heap.size w (z2.putObj D (.deferred none)):=by
 subst hz
 have hS0:=(Only.set (S:=fun i=>i=w.heap.size + 1) (p:=⟨w.heap.size + 1,0,none⟩) (Only.refl z1) (.inl rfl) (.int .i64 W)).set (p:=⟨w.heap.size + 1,1,none⟩) (.inl rfl) v
 generalize hz2:(z1.setCell ⟨w.heap.size + 1,0,none⟩ (.int .i64 W)).setCell ⟨w.heap.size + 1,1,none⟩ v=z2 at *
 have r2:Row z2 (w.heap.size + 1) 32 [.int .i64 W,v]:=by rw [← hz2];exact ((h2.set 0 _).set 1 _).of rfl
 have hDl:=(Array.getElem?_eq_some_iff.1 hK).1
 have hK2:z2.heap[D]? = some (.deferred (some [])):=(hS0.block D hDl (by omega)).trans hK
 have hO2:=hO.only hS0 fun b hb=>.inr ⟨32,by decide,by subst hb;exact h2.ty⟩
 have hR2:=hR.only hS0 fun b hb=>.inr ⟨32,by decide,by subst hb;exact h2.ty⟩
 have hk:∀ r,some D=some r → ∃ o:Obj,z2.heap[r]? = some o ∧ o.isCells=false:=fun r e=>by cases e;exact ⟨_,hK2,rfl⟩
 have hg:=grownBy_putObj' z2 D (.deferred none)
 have hkk:∀ {k:Nat} {t:TypeId},TyAt z2 k t → (z2.putObj D (.deferred none)).heap[k]? = z2.heap[k]?:=fun h=>cells_kept hg hk h
 have hb2:Below w.heap.size w z2:=by
  rw [← hz2];exact (hb.setCell (p:=⟨w.heap.size + 1,0,none⟩) (by simp) _).setCell (p:=⟨w.heap.size + 1,1,none⟩) (by simp) _
 exact ⟨hK2,(r2.keep (hkk r2.ty)).cell 0,(r2.keep (hkk r2.ty)).cell 1,(hO2.keep fun b _ _ ht=>hkk ht).low (by omega),hR2.keep fun b _ _ ht=>hkk ht,hb2.grown hg hb2.size fun k e=>by cases e;omega⟩

set_option maxRecDepth 100000 in
set_option maxHeartbeats 4000000 in
theorem collect_ok (W:Int) (N gf:Nat) (lb:Array Value) (ps:List SRw) (w:World) (eg:∀ args w,(callFunc gf args).run Tryz.prog w=.ok (.enter gf args) w)
 (hseq:SeqStopsK Fence.wide 5 Tryz.prog gf lb (fun x:Src W w=>#[encSR x.1]) (KpC w.heap.size) (fun ys=>ys.map (·.1)=ps) (fun pre=>pre.map (·.1) <+: ps) N w) :
 Calls Tryz.prog 90 #[.int .i64 W,.func (.func gf) #[] lb] w (ColRes W (ps.map (·.2)) w):=by
 have HQ:=Lib.hid hseq
 clear hseq
 refine (callsIn_wide (n:=6)).1 ?_
 refine callsIn_of_wp_marks Tryz.func90 rfl trivial ?_ rfl
 simp only [Tryz.ntmps90,List.size_toArray,List.length_cons,List.length_nil,Nat.reduceAdd,Nat.reduceSub,Array.replicate_succ,Array.replicate_zero,List.push_toArray,List.append_toArray,List.nil_append,List.cons_append]
 obtain ⟨W0,hW0⟩:∃ z,((w.alloc (.cells #[.int .i64 W] 3)).alloc (.cells #[.int .i64 0,.slice none 0 0] 32)).alloc (.cells #[.slice none 0 0] 30)=z:=⟨_,rfl⟩
 have hB0:Below w.heap.size w W0:=by rw [← hW0];exact balloc (balloc (balloc (Below.refl _ _) _) _) _
 have hz0:W0.heap.size=w.heap.size + 3:=by rw [← hW0];simp
 have hI0:ColI W w [] W0:=by
  refine ⟨by simp,?_,?_,⟨.slice none 0 0,[],?_,Ow.nil,Cps.nil,rfl⟩,hB0⟩
  ·rw [← hW0];exact ((Row.new w _ _).alloc _).alloc _
  ·rw [← hW0];exact (Row.second w _ _ _).alloc _
  ·rw [← hW0];exact Row.third w _ _ _ _
 have HW0:=Lib.hid hW0
 have HB0:=Lib.hid hB0
 have HI0:=Lib.hid hI0
 have HZ0:=Lib.hid hz0
 clear hW0 hB0 hI0 hz0
 gi_wp2
 rw [HW0.out]
 refine wpIn_rangeFunc_ownF rfl (by omega) (gf:=gf) (lb:=lb) rfl trivial eg
  HQ.out Kp2.trans (fun z l o o' hl h ho _=>Kp2.put l o o' (by have:=HZ0.out;omega) h ho) HB0.out (fun _=>rfl)
  (ColI W w) (ColX W w) (by rw [HZ0.out];exact colI_own W w) (fun c=>by rw [HZ0.out];exact colX_own W w c) HI0.out
  (fun x=>{ tmps:=#[.int .i64 W,.func (.func gf) #[] lb,.pointer (some ⟨w.heap.size,0,none⟩),undef,.pointer (some ⟨w.heap.size + 1,0,none⟩),.pointer (some ⟨w.heap.size + 2,0,none⟩),encSR x.1,.func (.func gf) #[] lb,encSR x.1,undef,undef,undef,undef,undef,undef,undef,undef,undef,undef,undef,undef,undef,undef,undef],defers:=[] }) ?assign ?body ?done ?stop
 case assign=>
  intro l x z K hK
  gi_wp2
  exact hK
 case body=>
  rintro l pre x z ⟨h0,h1,h2,⟨v,cp,h3,h4,h5,h7⟩,h6⟩ hlt
  obtain ⟨svs,hsvs⟩:∃ svs,cp.map (·.1)=svs:=⟨_,rfl⟩
  rw [hsvs] at h4
  have hcl:svs.length=cp.length:=by rw [← hsvs,List.length_map]
  have hcp:cp.length=pre.length:=by have:=congrArg List.length h7;simpa using this
  have HSV:=Lib.hid (And.intro hsvs h7)
  clear hsvs h7
  obtain ⟨A,c,rfl,hc1,hc2,hs⟩:=h4.shape svC_length
  have hsl:svs.length=pre.length:=by omega
  clear hcl hcp
  have q0:z.cell? ⟨w.heap.size,0,none⟩=some (.int .i64 W):=h1.cell 0
  have q1:z.cell? ⟨w.heap.size + 1,0,none⟩=some (.int .i64 0):=h2.cell 0
  have q2:z.cell? ⟨w.heap.size + 1,1,none⟩=some (.slice none 0 0):=h2.cell 1
  have q3:=h2.frozen 0
  have q4:=h2.frozen 1
  have q5:z.cell? ⟨w.heap.size + 2,0,none⟩=some (.slice A svs.length c):=h3.cell 0
  have q6:=h3.frozen 0
  have q7:=h2.lt
  have q8:=h3.lt
  have HI:=Lib.hid (And.intro h0 (And.intro h1 (And.intro h2 (And.intro h3 (And.intro h4 (And.intro h5 h6))))))
  have HN:=Lib.hid (And.intro hlt (And.intro hc1 (And.intro hc2 hsl)))
  have hle:svs.length ≤ 400:=by omega
  clear h0 h1 h2 h3 h4 h5 h6 hlt hc1 hc2 hs hsl
  by_cases h400:svs.length=400
  ·have h401:((svs.length:Int) == 400)=true:=by simp [h400]
   have H4:=Lib.hid h400
   clear h400
   gi_wp2
   have hb:=HI.out.2.2.2.2.2.2
   have hk:KeepsOthers z ((z.setCell ⟨w.heap.size + 1,0,none⟩ (.int .i64 W)).setCell ⟨w.heap.size + 1,1,none⟩ (.slice none 0 0)):=(KeepsOthers.setCell _ _ _).trans (KeepsOthers.setCell _ _ _)
   refine ⟨hk,rfl,?_,?_,(hb.setCell (p:=⟨w.heap.size + 1,0,none⟩) (by simp) _).setCell (p:=⟨w.heap.size + 1,1,none⟩) (by simp) _⟩
   ·have:=H4.out;have:=HN.out.2.2.2;simp;omega
   ·exact ((HI.out.2.2.1.set 0 _).set 1 _).of rfl
  ·have h401:((svs.length:Int) == 400)=false:=by simp;omega
   have H4:=Lib.hid h400
   clear h400
   have hxe:encSR x.1=.slice x.1.1.A x.1.2.length x.1.1.c:=by unfold encSR;rw [x.2.2.1]
   rw [hxe]
   have HX:=Lib.hid hxe
   clear hxe
   have hrow:Sl 2 valC z z.heap.size x.1.1.A x.1.2:=(x.2.2.2.2.2.on HI.out.2.2.2.2.2.2)
   have hl6:=rowValid_len x.2.1.1
   have HC:=Lib.hid (copiedRow_ok x.1.1.A x.1.1.c x.1.2 z.drew (by omega) (hrow.on (Below.refl _ _).drew))
   gi_wp2
   refine wpRound_region_any (by kernel_rfl) (by kernel_rfl) (fun ⟨_,_,h⟩=>h) ?_
   have q9:z.drew.cell? ⟨w.heap.size + 2,0,none⟩=some (.slice A svs.length c):=q5
   refine wpAny_take (i:=1) (v:=.slice x.1.1.A x.1.2.length x.1.1.c) rfl (by kernel_rfl) (by kernel_rfl) (by kernel_rfl) (fun _ _ _ h=>h) (Or.inl ⟨by rfl,fun y=>by go_simp⟩) ?_
   refine wpAny_ready (rs:=[0,2]) (by kernel_rfl) (by simp) ?_
   refine AllReady.cons rfl (fun K hK=>?_) (AllReady.cons rfl (fun K hK=>?_) AllReady.nil)
   ·go_simp
    refine hK _ _ ?_
    clear hK K
    refine wpAny_ready (rs:=[2]) (by kernel_rfl) (by simp) ?_
    refine AllReady.cons rfl (fun K hK=>?_) AllReady.nil
    go_simp
    go_at_call 118
    refine HC.out.mono ?_
    rintro e z1 ⟨v1,rfl,how1,hb1'⟩
    obtain ⟨A1,c1,rfl,hc11,hc12,hs1⟩:=how1.shape valC_length
    have hb1:Below z.heap.size z z1:=(Below.refl _ z).drew.trans hb1'
    have hS1:z1.cell? ⟨w.heap.size + 2,0,none⟩=some (.slice A svs.length c):=(hb1.cell (p:=⟨_,_,none⟩) q8).trans q5
    have hl1:w.heap.size + 2 < z1.heap.size:=Nat.lt_of_lt_of_le q8 hb1.size
    have hf1:z1.frozen? ⟨w.heap.size + 2,0,none⟩=false:=(hb1.frozen (p:=⟨_,_,none⟩) q8).trans q6
    have HR1:=Lib.hid (And.intro hb1 (And.intro how1 (And.intro hc11 hc12)))
    clear hb1 hb1' hs1 hc11 hc12 how1
    refine hK _ _ ?_
    clear hK K
    refine wpAny_ready (rs:=[3]) (by kernel_rfl) (by simp) ?_
    refine AllReady.cons rfl (fun K hK=>?_) AllReady.nil
    go_simp
    obtain ⟨z2,hz2⟩:∃ z2,z1.alloc (.cells #[.slice A1 x.1.2.length c1] 100)=z2:=⟨_,rfl⟩
    have hb2:Below z1.heap.size z1 z2:=hz2 ▸ balloc (Below.refl _ _) _
    have hn2:Row z2 z1.heap.size 100 [.slice A1 x.1.2.length c1]:=hz2 ▸ Row.new _ _ _
    have hS2:z2.cell? ⟨w.heap.size + 2,0,none⟩=some (.slice A svs.length c):=(hb2.cell (p:=⟨_,_,none⟩) hl1).trans hS1
    refine hK _ _ ?_
    clear hK K
    rw [hz2]
    have hf2:z2.frozen? ⟨w.heap.size + 2,0,none⟩=false:=(hb2.frozen (p:=⟨_,_,none⟩) hl1).trans hf1
    have hl2:w.heap.size + 2 < z2.heap.size:=Nat.lt_of_lt_of_le hl1 hb2.size
    have H2:=Lib.hid (And.intro hz2 (And.intro hb2 hn2))
    clear hz2 hb2 hn2
    obtain ⟨hz2,hb2,hn2⟩:=H2.out
    have hbz:Below z.heap.size z z2:=bch HR1.out.1 hb2
    have HO2:=HI.out.2.2.2.2.1.on hbz
    have HS2:=Row.sl' (xs:=[(⟨A1,x.1.2.length,c1⟩:SV)]) svC_length (hn2.of rfl)
    refine wpAny_ready (rs:=[4]) (by kernel_rfl) (by simp) ?_
    refine AllReady.cons rfl (fun K hK=>?_) AllReady.nil
    refine step_app rfl (.tmp 14) (.tmp 17) 30 rfl (w.heap.size + 3) 100 _ 1 24 svC Tryz.underlying30 zeroRow rfl (by decide) (by decide) svC_length svC_one _ svs rfl HO2 (some ⟨z1.heap.size,0,none⟩) 1 1 [(⟨A1,x.1.2.length,c1⟩:SV)] rfl rfl HS2 (by simp <;> omega) (by omega) ?_
    intro v3 z3 how3 hgr3
    obtain ⟨A3,c3,rfl,hc31,hc32,hs3⟩:=how3.shape svC_length
    have hrow:∀ q,Value.ownBlock _=some q → w.heap.size + 3 ≤ q ∧ q < z2.heap.size ∧ TyAt _ q 100:=fun q hq=>HO2.ty q hq
    have hkeep:∀ {k:Nat} {t:TypeId} {cs:List Value},Row z2 k t cs → t ≠ 100 → Row z3 k t cs:=fun h hne=>h.keep (hgr3.block _ h.lt fun e=>(TyAt.ne h.ty (hrow _ e.symm).2.2 hne) rfl)
    have r5:=hkeep (HI.out.2.2.2.1.on hbz) (by decide)
    have r2:=hkeep (HI.out.2.1.on hbz) (by decide)
    have r4:=hkeep (HI.out.2.2.1.on hbz) (by decide)
    have p5:z3.cell? ⟨w.heap.size + 2,0,none⟩=some (.slice A svs.length c):=r5.cell 0
    have p6:=r5.frozen 0
    have p7:=r5.lt
    refine hK _ _ ?_
    clear hK K
    have hx3:Cps w.heap.size z3 (cp ++ [(⟨A1,x.1.2.length,c1⟩,x.1.2)]):=HI.out.2.2.2.2.2.1.snoc ((HI.out.2.2.2.2.2.1.on hbz).grown hgr3 fun q hq=>⟨_,by decide,(hrow q hq).2.2⟩) HI.out.2.2.2.2.2.2.size ⟨rfl,(HR1.out.2.1.on hb2).keep fun b _ hl ht=>hgr3.block b hl fun e=>(TyAt.ne ht (hrow _ e.symm).2.2 (by decide)) rfl⟩
    have HF:=Lib.hid (And.intro r2 (And.intro r4 (And.intro r5 (And.intro how3 (And.intro hgr3 (And.intro hbz (And.intro hx3 hrow)))))))
    clear how3 hgr3 hbz hx3 hrow r2 r4 r5 hkeep HO2 HS2 hz2 hb2 hn2
    refine wpAny_ready (rs:=[5]) (by kernel_rfl) (by simp) ?_
    refine AllReady.cons rfl (fun K hK=>?_) AllReady.nil
    go_simp
    refine hK _ _ ?_
    clear hK K
    refine wpAny_done (by kernel_rfl) ?_ _
    obtain ⟨r2,r4,r5,how3,hgr3,hbz,hx3,hrow⟩:=HF.out
    have hl3:z.heap.size ≤ z2.heap.size:=hbz.size
    have hS0:=Only.set (S:=fun i=>i=w.heap.size + 2) (p:=⟨w.heap.size + 2,0,none⟩) (Only.refl z3) (.inl rfl) (.slice A3 (svs.length + 1) c3)
    have how4:Ow (w.heap.size + 3) 100 1 svC z3 (.slice A3 (svs.length + 1) c3) (svs ++ [⟨A1,x.1.2.length,c1⟩]):=by rw [List.length_append] at how3;exact how3
    have hko:KeepsOthers z (z3.setCell ⟨w.heap.size + 2,0,none⟩ (.slice A3 (svs.length + 1) c3)):=((keepsOthers_below hbz).trans (keepsOthers_grown hgr3 fun k hk=>⟨_,(hrow k hk).2.2⟩)).trans (KeepsOthers.setCell _ _ _)
    have hbw:Below w.heap.size w z:=HI.out.2.2.2.2.2.2
    have hb3:Below w.heap.size z z3:=(hbz.mono hbw.size).grown hgr3 (by have:=hbw.size;omega) fun k hk=>by have:=(hrow k hk).1;omega
    have hkp:KpC w.heap.size z (z3.setCell ⟨w.heap.size + 2,0,none⟩ (.slice A3 (svs.length + 1) c3)):=((Kp2.below hbz).trans (Kp2.grown hgr3 fun k hk=>⟨by have:=(hrow k hk).1;omega,.inl (hrow k hk).2.2⟩)).trans (Kp2.set _ _ (show w.heap.size ≤ w.heap.size + 2 by omega) (.inr r5.ty))
    have hb4:Below w.heap.size z (z3.setCell ⟨w.heap.size + 2,0,none⟩ (.slice A3 (svs.length + 1) c3)):=hb3.setCell (p:=⟨w.heap.size + 2,0,none⟩) (by simp) _
    refine ⟨hko,hkp,?_,r2.far (p:=⟨w.heap.size + 2,0,none⟩) (by simp) _,r4.far (p:=⟨w.heap.size + 2,0,none⟩) (by simp) _,⟨_,_,(r5.set 0 _).of rfl,(by rw [List.map_append,HSV.out.1];exact how4.only hS0 fun b hb=>.inr ⟨30,by decide,by subst hb;exact r5.ty⟩),hx3.only hS0 fun b hb=>.inr ⟨30,by decide,by subst hb;exact r5.ty⟩,by rw [List.map_append,List.map_append,HSV.out.2];rfl⟩,hbw.trans hb4⟩
    have:=HN.out.2.2.2;have:=H4.out;simp;omega
   ·go_simp
    go_at_call 118
    refine HC.out.mono ?_
    rintro e z1 ⟨v1,rfl,how1,hb1'⟩
    obtain ⟨A1,c1,rfl,hc11,hc12,hs1⟩:=how1.shape valC_length
    have hb1:Below z.heap.size z z1:=(Below.refl _ z).drew.trans hb1'
    have hS1:z1.cell? ⟨w.heap.size + 2,0,none⟩=some (.slice A svs.length c):=(hb1.cell (p:=⟨_,_,none⟩) q8).trans q5
    have hl1:w.heap.size + 2 < z1.heap.size:=Nat.lt_of_lt_of_le q8 hb1.size
    have hf1:z1.frozen? ⟨w.heap.size + 2,0,none⟩=false:=(hb1.frozen (p:=⟨_,_,none⟩) q8).trans q6
    have HR1:=Lib.hid (And.intro hb1 (And.intro how1 (And.intro hc11 hc12)))
    clear hb1 hb1' hs1 hc11 hc12 how1
    refine hK _ _ ?_
    clear hK K
    refine wpAny_ready (rs:=[0,3]) (by kernel_rfl) (by simp) ?_
    refine AllReady.cons rfl (fun K hK=>?_) (AllReady.cons rfl (fun K hK=>?_) AllReady.nil)
    ·go_simp
     refine hK _ _ ?_
     clear hK K
     refine wpAny_ready (rs:=[3]) (by kernel_rfl) (by simp) ?_
     refine AllReady.cons rfl (fun K hK=>?_) AllReady.nil
     go_simp
     obtain ⟨z2,hz2⟩:∃ z2,z1.alloc (.cells #[.slice A1 x.1.2.length c1] 100)=z2:=⟨_,rfl⟩
     have hb2:Below z1.heap.size z1 z2:=hz2 ▸ balloc (Below.refl _ _) _
     have hn2:Row z2 z1.heap.size 100 [.slice A1 x.1.2.length c1]:=hz2 ▸ Row.new _ _ _
     have hS2:z2.cell? ⟨w.heap.size + 2,0,none⟩=some (.slice A svs.length c):=(hb2.cell (p:=⟨_,_,none⟩) hl1).trans hS1
     refine hK _ _ ?_
     clear hK K
     rw [hz2]
     have hf2:z2.frozen? ⟨w.heap.size + 2,0,none⟩=false:=(hb2.frozen (p:=⟨_,_,none⟩) hl1).trans hf1
     have hl2:w.heap.size + 2 < z2.heap.size:=Nat.lt_of_lt_of_le hl1 hb2.size
     have H2:=Lib.hid (And.intro hz2 (And.intro hb2 hn2))
     clear hz2 hb2 hn2
     obtain ⟨hz2,hb2,hn2⟩:=H2.out
     have hbz:Below z.heap.size z z2:=bch HR1.out.1 hb2
     have HO2:=HI.out.2.2.2.2.1.on hbz
     have HS2:=Row.sl' (xs:=[(⟨A1,x.1.2.length,c1⟩:SV)]) svC_length (hn2.of rfl)
     refine wpAny_ready (rs:=[4]) (by kernel_rfl) (by simp) ?_
     refine AllReady.cons rfl (fun K hK=>?_) AllReady.nil
     refine step_app rfl (.tmp 14) (.tmp 17) 30 rfl (w.heap.size + 3) 100 _ 1 24 svC Tryz.underlying30 zeroRow rfl (by decide) (by decide) svC_length svC_one _ svs rfl HO2 (some ⟨z1.heap.size,0,none⟩) 1 1 [(⟨A1,x.1.2.length,c1⟩:SV)] rfl rfl HS2 (by simp <;> omega) (by omega) ?_
     intro v3 z3 how3 hgr3
     obtain ⟨A3,c3,rfl,hc31,hc32,hs3⟩:=how3.shape svC_length
     have hrow:∀ q,Value.ownBlock _=some q → w.heap.size + 3 ≤ q ∧ q < z2.heap.size ∧ TyAt _ q 100:=fun q hq=>HO2.ty q hq
     have hkeep:∀ {k:Nat} {t:TypeId} {cs:List Value},Row z2 k t cs → t ≠ 100 → Row z3 k t cs:=fun h hne=>h.keep (hgr3.block _ h.lt fun e=>(TyAt.ne h.ty (hrow _ e.symm).2.2 hne) rfl)
     have r5:=hkeep (HI.out.2.2.2.1.on hbz) (by decide)
     have r2:=hkeep (HI.out.2.1.on hbz) (by decide)
     have r4:=hkeep (HI.out.2.2.1.on hbz) (by decide)
     have p5:z3.cell? ⟨w.heap.size + 2,0,none⟩=some (.slice A svs.length c):=r5.cell 0
     have p6:=r5.frozen 0
     have p7:=r5.lt
     refine hK _ _ ?_
     clear hK K
     have hx3:Cps w.heap.size z3 (cp ++ [(⟨A1,x.1.2.length,c1⟩,x.1.2)]):=HI.out.2.2.2.2.2.1.snoc ((HI.out.2.2.2.2.2.1.on hbz).grown hgr3 fun q hq=>⟨_,by decide,(hrow q hq).2.2⟩) HI.out.2.2.2.2.2.2.size ⟨rfl,(HR1.out.2.1.on hb2).keep fun b _ hl ht=>hgr3.block b hl fun e=>(TyAt.ne ht (hrow _ e.symm).2.2 (by decide)) rfl⟩
     have HF:=Lib.hid (And.intro r2 (And.intro r4 (And.intro r5 (And.intro how3 (And.intro hgr3 (And.intro hbz (And.intro hx3 hrow)))))))
     clear how3 hgr3 hbz hx3 hrow r2 r4 r5 hkeep HO2 HS2 hz2 hb2 hn2
     refine wpAny_ready (rs:=[5]) (by kernel_rfl) (by simp) ?_
     refine AllReady.cons rfl (fun K hK=>?_) AllReady.nil
     go_simp
     refine hK _ _ ?_
     clear hK K
     refine wpAny_done (by kernel_rfl) ?_ _
     obtain ⟨r2,r4,r5,how3,hgr3,hbz,hx3,hrow⟩:=HF.out
     have hl3:z.heap.size ≤ z2.heap.size:=hbz.size
     have hS0:=Only.set (S:=fun i=>i=w.heap.size + 2) (p:=⟨w.heap.size + 2,0,none⟩) (Only.refl z3) (.inl rfl) (.slice A3 (svs.length + 1) c3)
     have how4:Ow (w.heap.size + 3) 100 1 svC z3 (.slice A3 (svs.length + 1) c3) (svs ++ [⟨A1,x.1.2.length,c1⟩]):=by rw [List.length_append] at how3;exact how3
     have hko:KeepsOthers z (z3.setCell ⟨w.heap.size + 2,0,none⟩ (.slice A3 (svs.length + 1) c3)):=((keepsOthers_below hbz).trans (keepsOthers_grown hgr3 fun k hk=>⟨_,(hrow k hk).2.2⟩)).trans (KeepsOthers.setCell _ _ _)
     have hbw:Below w.heap.size w z:=HI.out.2.2.2.2.2.2
     have hb3:Below w.heap.size z z3:=(hbz.mono hbw.size).grown hgr3 (by have:=hbw.size;omega) fun k hk=>by have:=(hrow k hk).1;omega
     have hkp:KpC w.heap.size z (z3.setCell ⟨w.heap.size + 2,0,none⟩ (.slice A3 (svs.length + 1) c3)):=((Kp2.below hbz).trans (Kp2.grown hgr3 fun k hk=>⟨by have:=(hrow k hk).1;omega,.inl (hrow k hk).2.2⟩)).trans (Kp2.set _ _ (show w.heap.size ≤ w.heap.size + 2 by omega) (.inr r5.ty))
     have hb4:Below w.heap.size z (z3.setCell ⟨w.heap.size + 2,0,none⟩ (.slice A3 (svs.length + 1) c3)):=hb3.setCell (p:=⟨w.heap.size + 2,0,none⟩) (by simp) _
     refine ⟨hko,hkp,?_,r2.far (p:=⟨w.heap.size + 2,0,none⟩) (by simp) _,r4.far (p:=⟨w.heap.size + 2,0,none⟩) (by simp) _,⟨_,_,(r5.set 0 _).of rfl,(by rw [List.map_append,HSV.out.1];exact how4.only hS0 fun b hb=>.inr ⟨30,by decide,by subst hb;exact r5.ty⟩),hx3.only hS0 fun b hb=>.inr ⟨30,by decide,by subst hb;exact r5.ty⟩,by rw [List.map_append,List.map_append,HSV.out.2];rfl⟩,hbw.trans hb4⟩
     have:=HN.out.2.2.2;have:=H4.out;simp;omega
    ·go_simp
     obtain ⟨z2,hz2⟩:∃ z2,z1.alloc (.cells #[.slice A1 x.1.2.length c1] 100)=z2:=⟨_,rfl⟩
     have hb2:Below z1.heap.size z1 z2:=hz2 ▸ balloc (Below.refl _ _) _
     have hn2:Row z2 z1.heap.size 100 [.slice A1 x.1.2.length c1]:=hz2 ▸ Row.new _ _ _
     have hS2:z2.cell? ⟨w.heap.size + 2,0,none⟩=some (.slice A svs.length c):=(hb2.cell (p:=⟨_,_,none⟩) hl1).trans hS1
     refine hK _ _ ?_
     clear hK K
     rw [hz2]
     have hf2:z2.frozen? ⟨w.heap.size + 2,0,none⟩=false:=(hb2.frozen (p:=⟨_,_,none⟩) hl1).trans hf1
     have hl2:w.heap.size + 2 < z2.heap.size:=Nat.lt_of_lt_of_le hl1 hb2.size
     have H2:=Lib.hid (And.intro hz2 (And.intro hb2 hn2))
     clear hz2 hb2 hn2
     refine wpAny_ready (rs:=[0]) (by kernel_rfl) (by simp) ?_
     refine AllReady.cons rfl (fun K hK=>?_) AllReady.nil
     go_simp
     refine hK _ _ ?_
     clear hK K
     obtain ⟨hz2,hb2,hn2⟩:=H2.out
     have hbz:Below z.heap.size z z2:=bch HR1.out.1 hb2
     have HO2:=HI.out.2.2.2.2.1.on hbz
     have HS2:=Row.sl' (xs:=[(⟨A1,x.1.2.length,c1⟩:SV)]) svC_length (hn2.of rfl)
     refine wpAny_ready (rs:=[4]) (by kernel_rfl) (by simp) ?_
     refine AllReady.cons rfl (fun K hK=>?_) AllReady.nil
     refine step_app rfl (.tmp 14) (.tmp 17) 30 rfl (w.heap.size + 3) 100 _ 1 24 svC Tryz.underlying30 zeroRow rfl (by decide) (by decide) svC_length svC_one _ svs rfl HO2 (some ⟨z1.heap.size,0,none⟩) 1 1 [(⟨A1,x.1.2.length,c1⟩:SV)] rfl rfl HS2 (by simp <;> omega) (by omega) ?_
     intro v3 z3 how3 hgr3
     obtain ⟨A3,c3,rfl,hc31,hc32,hs3⟩:=how3.shape svC_length
     have hrow:∀ q,Value.ownBlock _=some q → w.heap.size + 3 ≤ q ∧ q < z2.heap.size ∧ TyAt _ q 100:=fun q hq=>HO2.ty q hq
     have hkeep:∀ {k:Nat} {t:TypeId} {cs:List Value},Row z2 k t cs → t ≠ 100 → Row z3 k t cs:=fun h hne=>h.keep (hgr3.block _ h.lt fun e=>(TyAt.ne h.ty (hrow _ e.symm).2.2 hne) rfl)
     have r5:=hkeep (HI.out.2.2.2.1.on hbz) (by decide)
     have r2:=hkeep (HI.out.2.1.on hbz) (by decide)
     have r4:=hkeep (HI.out.2.2.1.on hbz) (by decide)
     have p5:z3.cell? ⟨w.heap.size + 2,0,none⟩=some (.slice A svs.length c):=r5.cell 0
     have p6:=r5.frozen 0
     have p7:=r5.lt
     refine hK _ _ ?_
     clear hK K
     have hx3:Cps w.heap.size z3 (cp ++ [(⟨A1,x.1.2.length,c1⟩,x.1.2)]):=HI.out.2.2.2.2.2.1.snoc ((HI.out.2.2.2.2.2.1.on hbz).grown hgr3 fun q hq=>⟨_,by decide,(hrow q hq).2.2⟩) HI.out.2.2.2.2.2.2.size ⟨rfl,(HR1.out.2.1.on hb2).keep fun b _ hl ht=>hgr3.block b hl fun e=>(TyAt.ne ht (hrow _ e.symm).2.2 (by decide)) rfl⟩
     have HF:=Lib.hid (And.intro r2 (And.intro r4 (And.intro r5 (And.intro how3 (And.intro hgr3 (And.intro hbz (And.intro hx3 hrow)))))))
     clear how3 hgr3 hbz hx3 hrow r2 r4 r5 hkeep HO2 HS2 hz2 hb2 hn2
     refine wpAny_ready (rs:=[5]) (by kernel_rfl) (by simp) ?_
     refine AllReady.cons rfl (fun K hK=>?_) AllReady.nil
     go_simp
     refine hK _ _ ?_
     clear hK K
     refine wpAny_done (by kernel_rfl) ?_ _
     obtain ⟨r2,r4,r5,how3,hgr3,hbz,hx3,hrow⟩:=HF.out
     have hl3:z.heap.size ≤ z2.heap.size:=hbz.size
     have hS0:=Only.set (S:=fun i=>i=w.heap.size + 2) (p:=⟨w.heap.size + 2,0,none⟩) (Only.refl z3) (.inl rfl) (.slice A3 (svs.length + 1) c3)
     have how4:Ow (w.heap.size + 3) 100 1 svC z3 (.slice A3 (svs.length + 1) c3) (svs ++ [⟨A1,x.1.2.length,c1⟩]):=by rw [List.length_append] at how3;exact how3
     have hko:KeepsOthers z (z3.setCell ⟨w.heap.size + 2,0,none⟩ (.slice A3 (svs.length + 1) c3)):=((keepsOthers_below hbz).trans (keepsOthers_grown hgr3 fun k hk=>⟨_,(hrow k hk).2.2⟩)).trans (KeepsOthers.setCell _ _ _)
     have hbw:Below w.heap.size w z:=HI.out.2.2.2.2.2.2
     have hb3:Below w.heap.size z z3:=(hbz.mono hbw.size).grown hgr3 (by have:=hbw.size;omega) fun k hk=>by have:=(hrow k hk).1;omega
     have hkp:KpC w.heap.size z (z3.setCell ⟨w.heap.size + 2,0,none⟩ (.slice A3 (svs.length + 1) c3)):=((Kp2.below hbz).trans (Kp2.grown hgr3 fun k hk=>⟨by have:=(hrow k hk).1;omega,.inl (hrow k hk).2.2⟩)).trans (Kp2.set _ _ (show w.heap.size ≤ w.heap.size + 2 by omega) (.inr r5.ty))
     have hb4:Below w.heap.size z (z3.setCell ⟨w.heap.size + 2,0,none⟩ (.slice A3 (svs.length + 1) c3)):=hb3.setCell (p:=⟨w.heap.size + 2,0,none⟩) (by simp) _
     refine ⟨hko,hkp,?_,r2.far (p:=⟨w.heap.size + 2,0,none⟩) (by simp) _,r4.far (p:=⟨w.heap.size + 2,0,none⟩) (by simp) _,⟨_,_,(r5.set 0 _).of rfl,(by rw [List.map_append,HSV.out.1];exact how4.only hS0 fun b hb=>.inr ⟨30,by decide,by subst hb;exact r5.ty⟩),hx3.only hS0 fun b hb=>.inr ⟨30,by decide,by subst hb;exact r5.ty⟩,by rw [List.map_append,List.map_append,HSV.out.2];rfl⟩,hbw.trans hb4⟩
     have:=HN.out.2.2.2;have:=H4.out;simp;omega
 case stop=>
  rintro D c pre z hD hp ⟨rfl,h400,h2,hb⟩ hK
  have q0:z.cell? ⟨w.heap.size + 1,0,none⟩=some (.int .i64 W):=h2.cell 0
  have q1:z.cell? ⟨w.heap.size + 1,1,none⟩=some (.slice none 0 0):=h2.cell 1
  have H2:=Lib.hid (And.intro hp (And.intro h400 (And.intro h2 (And.intro hb hD))))
  clear hp h400 h2 hb hD
  gi_wp2
  obtain ⟨hp,h400,h2,hb,hD⟩:=H2.out
  have hz:=HZ0.out
  have hk:∀ r,some D=some r → ∃ o:Obj,z.heap[r]? = some o ∧ o.isCells=false:=fun r e=>by cases e;exact ⟨_,hK,rfl⟩
  refine ⟨by simp,.inl ⟨_,_,rfl,run_takeDeferred hK,?_⟩⟩
  refine ⟨_,resCol (b:=w.heap.size + 1) _ rfl _ (cell_kept q0 (grownBy_putObj' z D (.deferred none)) hk) (cell_kept q1 (grownBy_putObj' z D (.deferred none)) hk),_,[],rfl,?_,Ow.nil,Cps.nil,hb.trans (belowK_b (w:=W0) (by omega) z D _ _ hD hK rfl rfl)⟩
  have hl:=hp.length_le
  rw [List.length_map] at hl
  rw [if_neg (by rw [List.length_map];omega)]
 case done=>
  rintro D ys z hD hys ⟨h0,h1,h2,⟨v,cp,h3,h4,h5,h7⟩,h6⟩ hK
  obtain ⟨svs,hsvs⟩:∃ svs,cp.map (·.1)=svs:=⟨_,rfl⟩
  rw [hsvs] at h4
  have hcl:svs.length=cp.length:=by rw [← hsvs,List.length_map]
  have hcp:cp.length=ys.length:=by have:=congrArg List.length h7;simpa using this
  have HSV:=Lib.hid (And.intro hsvs h7)
  clear hsvs h7
  obtain ⟨A,c,rfl,hc1,hc2,hs⟩:=h4.shape svC_length
  have hsl:svs.length=ys.length:=by omega
  have q5:z.cell? ⟨w.heap.size + 2,0,none⟩=some (.slice A svs.length c):=h3.cell 0
  have hpl:ys.length=ps.length:=by rw [← hys,List.length_map]
  have HI:=Lib.hid (And.intro h0 (And.intro h1 (And.intro h2 (And.intro h3 (And.intro h4 (And.intro h5 (And.intro h6 (And.intro hD (And.intro hys (And.intro hsl hpl))))))))))
  have q0:z.cell? ⟨w.heap.size,0,none⟩=some (.int .i64 W):=h1.cell 0
  have HZ:=Lib.hid (show w.heap.size + 3 ≤ D by have:=HZ0.out;omega)
  rcases Nat.eq_zero_or_pos svs.length with hz | hz
  ·have hs0:svs=[]:=List.eq_nil_of_length_eq_zero hz
   have hy0:ys=[]:=List.eq_nil_of_length_eq_zero (by omega)
   subst hs0
   subst hy0
   have q1:z.cell? ⟨w.heap.size + 1,0,none⟩=some (.int .i64 0):=h2.cell 0
   have q2:z.cell? ⟨w.heap.size + 1,1,none⟩=some (.slice none 0 0):=h2.cell 1
   have q3:=h2.frozen 0
   have q4:=h2.frozen 1
   have q7:=h2.lt
   have HSN:=Lib.hid (fun y=>sortFuncNone_ok A c (.func (.func 102) #[] #[]) y)
   clear h0 h1 h2 h3 h4 h5 h6 hD hys hsl hpl hc1 hc2 hs hz
   gi_wp2_with (refine ⟨trivial,?_⟩;gi_at_call 119;refine (callsIn_wide.2 (HSN.out _)).mono ?_;rintro e w' ⟨rfl,rfl⟩)
   obtain ⟨h0,h1,h2,h3,h4,h5,h6,hD,hys,hsl,hpl⟩:=HI.out
   obtain ⟨k1,k2,k3,k4,k5,k6⟩:=colFin (W:=W) (v:=.slice A 0 c) (svs:=[]) (cp:=[]) HZ.out hK h2 h4 Cps.nil h6 rfl
   refine ⟨by simp,.inl ⟨_,_,rfl,run_takeDeferred k1,_,resCol (b:=w.heap.size + 1) _ rfl _ k2 k3,_,[],rfl,?_,k4,k5,k6⟩⟩
   rw [← hys]
   simp
  ·obtain ⟨g,hA,_,hg,hgl,hgT,hgf,hgc⟩:=h4.head svC_length hz
   subst hA
   have hSR:∀ p ∈ cp,SRt W w.heap.size z p:=h5.srt fun p hp=>by
    have h1:p.2 ∈ cp.map (·.2):=List.mem_map_of_mem hp
    rw [HSV.out.2] at h1
    obtain ⟨y,_,hy⟩:=List.mem_map.1 h1
    rw [← hy]
    exact y.2.1
   have hzl:cp.length=svs.length:=hcl.symm
   have HSF:=sortFunc_ok W w.heap.size (w.heap.size + 3) g svs.length c cp z (by omega) (by omega) hSR (by rw [HSV.out.1];exact h4)
   have HSF:=Lib.hid HSF
   have HP:=Lib.hid (And.intro HSV.out.2 (And.intro h5 hgT))
   clear h0 h1 h2 h3 h4 h5 h6 hD hys hsl hpl hc1 hc2 hs hg hgl hgT hgf hgc hzl hSR hcl hcp
   gi_wp2_with (refine ⟨trivial,?_⟩;gi_at_call 119;refine (callsIn_wide.2 HSF.out).mono ?_;rintro e z1 ⟨rfl,qs,hqp,hqo,hO1,hb1⟩;have q0:z1.cell? ⟨w.heap.size,0,none⟩=some (.int .i64 W):=(HI.out.2.1.only hb1 (TyAt.ne HI.out.2.1.ty HP.out.2.2 (by decide))).cell 0;have r2:=HI.out.2.2.1.only hb1 (TyAt.ne HI.out.2.2.1.ty HP.out.2.2 (by decide));have r3:=HI.out.2.2.2.1.only hb1 (TyAt.ne HI.out.2.2.2.1.ty HP.out.2.2 (by decide));have q5:z1.cell? ⟨w.heap.size + 2,0,none⟩=some (.slice (some ⟨g,0,none⟩) svs.length c):=r3.cell 0;have q1:z1.cell? ⟨w.heap.size + 1,0,none⟩=some (.int .i64 0):=r2.cell 0;have q2:z1.cell? ⟨w.heap.size + 1,1,none⟩=some (.slice none 0 0):=r2.cell 1;have q3:=r2.frozen 0;have q4:=r2.frozen 1;have q7:=r2.lt;have H1:=Lib.hid (And.intro hqp (And.intro hqo (And.intro hO1 (And.intro hb1 r2))));clear hqp hqo hO1 hb1 r2 r3)
   obtain ⟨h0,h1,h2,h3,h4,h5,h6,hD,hys,hsl,hpl⟩:=HI.out
   obtain ⟨hqp,hqo,hO1,hb1,r2⟩:=H1.out
   have hDl:=(Array.getElem?_eq_some_iff.1 hK).1
   have hDg:D ≠ g:=fun e=>by
    obtain ⟨cs,r,ht⟩:=HP.out.2.2
    rw [← e,hK] at ht
    cases ht
   have hK1:z1.heap[D]? = some (.deferred (some [])):=(hb1.block D hDl hDg).trans hK
   have hR1:Cps w.heap.size z1 qs:=(HP.out.2.1.perm hqp).only hb1 fun b hb=>.inr ⟨100,by decide,by subst hb;exact HP.out.2.2⟩
   have hbz:Below w.heap.size w z1:=Only.from_ h6 rfl hb1 fun i hi=>by
    have hge:w.heap.size + 3 ≤ g:=(h4.ty g rfl).1
    omega
   obtain ⟨k1,k2,k3,k4,k5,k6⟩:=colFin (W:=W) HZ.out hK1 r2 hO1 hR1 hbz rfl
   refine ⟨by simp,.inl ⟨_,_,rfl,run_takeDeferred k1,_,resCol (b:=w.heap.size + 1) _ rfl _ k2 k3,_,qs,rfl,?_,k4,k5,k6⟩⟩
   have hrw:ys.map (·.1.2)=ps.map (·.2):=by rw [← hys,List.map_map];rfl
   rw [if_pos (by rw [List.length_map];omega)]
   refine ⟨?_,?_⟩
   ·rw [← hrw,← HP.out.1];exact hqp.map _
   ·rw [List.pairwise_map];exact hqo

def TabC (q:Bool) (W:Int) (rows:List Row1) (W1:Int) (out:List Row1):Prop:=
 (q=false ∧ W1=0 ∧ out=[]) ∨ (q=true ∧ W1=W ∧ (if rows.length ≤ 400 then out.Perm rows ∧ out.Pairwise (fun a b=>rCmp a b ≤ 0) else out=[]))
def TabRes (q:Bool) (W:Int) (rows:List Row1) (w:World) (e:Ending) (w':World):Prop:=
 ∃ (W1:Int) (v:Value) (cp:List SRw),e=.returned (.tuple #[.agg #[.int .i64 W1,v],.bool q]) ∧ TabC q W rows W1 (cp.map (·.2)) ∧ Ow w.heap.size 100 1 svC w' v (cp.map (·.1)) ∧ Cps w.heap.size w' cp ∧ Below w.heap.size w w'
theorem TabRes.no {W:Int} {rows:List Row1} {w w':World} (hb:Below w.heap.size w w'):TabRes false W rows w (.returned (.tuple #[.agg #[.int .i64 0,.slice none 0 0],.bool false])) w':=
 ⟨0,_,[],rfl,.inl ⟨rfl,rfl,rfl⟩,Ow.nil,Cps.nil,hb⟩
theorem TabRes.yes {W:Int} {rows:List Row1} {w w1 w2:World} {b:Nat} {v:Value} {cp:List SRw} {u0 u1:Value} (hcp:if rows.length ≤ 400 then (cp.map (·.2)).Perm rows ∧ (cp.map (·.2)).Pairwise (fun a b=>rCmp a b ≤ 0) else cp=[])
 (how:Ow w1.heap.size 100 1 svC w2 v (cp.map (·.1))) (hcc:Cps w1.heap.size w2 cp) (hb1:Below w.heap.size w w1) (hb2:Below w1.heap.size w1 w2) (hr:Row w2 b 32 [u0,u1]) (hb:w.heap.size ≤ b) :
 TabRes true W rows w (.returned (.tuple #[.agg #[.int .i64 W,v],.bool true])) ((w2.setCell ⟨b,0,none⟩ (.int .i64 W)).setCell ⟨b,1,none⟩ v):=by
 have hS0:=(Only.set (S:=fun i=>i=b) (p:=⟨b,0,none⟩) (Only.refl w2) (.inl rfl) (.int .i64 W)).set (p:=⟨b,1,none⟩) (.inl rfl) v
 refine ⟨W,v,cp,rfl,.inr ⟨rfl,rfl,?_⟩,(how.only hS0 fun k hk=>.inr ⟨32,by decide,by subst hk;exact hr.ty⟩).low hb1.size,(hcc.only hS0 fun k hk=>.inr ⟨32,by decide,by subst hk;exact hr.ty⟩).low hb1.size,((bch hb1 hb2).setCell (p:=⟨b,0,none⟩) hb _).setCell (p:=⟨b,1,none⟩) hb _⟩
 split
 ·rename_i h;rw [if_pos h] at hcp;exact hcp
 ·rename_i h;rw [if_neg h] at hcp;rw [hcp];rfl
theorem psOf {W:Int} {w:World} {svs:List SV} {rows:List Row1} (hl:svs.length=rows.length) (hr:∀ r ∈ rows,RowOk W r) (h:∀ (i:Nat) (s:SV) (xs:Row1),svs[i]? = some s → rows[i]? = some xs → SVIs 2 valC w w.heap.size s xs) :
 ∃ ps:List SRw,ps.map (·.1)=svs ∧ ps.map (·.2)=rows ∧ ∀ p ∈ ps,SRs W w p:=by
 refine ⟨svs.zip rows,List.map_fst_zip (by omega),List.map_snd_zip (by omega),fun p hp=>?_⟩
 obtain ⟨i,hi,rfl⟩:=List.getElem_of_mem hp
 have h1:i < svs.length:=by rw [List.length_zip] at hi;omega
 have h2:i < rows.length:=by omega
 have hq:=h i svs[i] rows[i] (List.getElem?_eq_getElem h1) (List.getElem?_eq_getElem h2)
 rw [List.getElem_zip]
 exact ⟨hr _ (List.getElem_mem h2),hq.1,hq.2.1,hq.2.2.1,hq.2.2.2⟩
end Go.Proofs.YtcbfbgngkdiijaaGreat
