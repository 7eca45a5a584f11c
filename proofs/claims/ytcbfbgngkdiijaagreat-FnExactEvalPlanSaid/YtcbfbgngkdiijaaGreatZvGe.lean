import Derived.Test.YtcbfbgngkdiijaaGreatProg
import Derived.Test.YtcbfbgngkdiijaaGreatZvPln
import Derived.Test.YtcbfbgngkdiijaaGreatZvVal
import Derived.Test.YtcbfbgngkdiijaaGreatZvGg
import Derived.Test.YtcbfbgngkdiijaaGreatZvRwt
import Derived.Test.YtcbfbgngkdiijaaGreatZvJsx
import Derived.Test.YtcbfbgngkdiijaaGreatZvCol
import Derived.Test.YtcbfbgngkdiijaaGreatZvGf
import Derived.Test.YtcbfbgngkdiijaaGreatZvGa
set_option linter.unusedVariables false
set_option linter.unusedSimpArgs false
namespace Go.Proofs.YtcbfbgngkdiijaaGreat
open Go.RowKit Go.Qo

end Go.Proofs.YtcbfbgngkdiijaaGreat

namespace Go.Proofs.YtcbfbgngkdiijaaGreat
open Go.RowKit Go.Qo

end Go.Proofs.YtcbfbgngkdiijaaGreat

namespace Go.Proofs.YtcbfbgngkdiijaaGreat
open Go.RowKit Go.Qo

end Go.Proofs.YtcbfbgngkdiijaaGreat

namespace Go.Proofs.YtcbfbgngkdiijaaGreat
open Go.RowKit Go.Qo
attribute [local go_sem] Oper.semAt_some

end Go.Proofs.YtcbfbgngkdiijaaGreat

namespace Go.Proofs.YtcbfbgngkdiijaaGreat
open Go.RowKit Go.Qo

end Go.Proofs.YtcbfbgngkdiijaaGreat

namespace Go.Proofs.YtcbfbgngkdiijaaGreat
open Go.RowKit Go.Qo

end Go.Proofs.YtcbfbgngkdiijaaGreat

namespace Go.Proofs.YtcbfbgngkdiijaaGreat
open Go.RowKit Go.Qo

end Go.Proofs.YtcbfbgngkdiijaaGreat

namespace Go.Proofs.YtcbfbgngkdiijaaGreat
open Go.RowKit Go.Qo

theorem zeroIntT:(Tryz.prog.info? 3).map (fun i=>(i.zero,i.size,i.bytes))=some (some (.int .i64 0),1,8):=by kernel_rfl

set_option maxHeartbeats 400000 in
theorem toIntS_ok (A:Option Addr) (c:Nat) (xs:List Int) (w:World) (hn:xs.length ≤ 1048576) (h:Sl 1 intC w w.heap.size A xs) :
 Calls Tryz.prog 28 #[.slice A xs.length c] w fun e w'=>e=.returned (.slice (some ⟨w.heap.size,0,none⟩) xs.length xs.length) ∧ Below w.heap.size w w' ∧ Row w' w.heap.size 3 (xs.flatMap intC):=by
 have hmk:=run_make_rowN (P:=Tryz.prog) 23 3 _ _ _ Tryz.underlying23 zeroIntT .i64 .i64 xs.length (by omega) (by omega)
 go_enter Tryz.func28,Tryz.ntmps28
 go_wp2
 go_loopg [4] (xs.length) (fun g i wr=>∃ k:Nat,k ≤ xs.length ∧ g=xs.length - k ∧ i=.int .i64 k ∧ Below w.heap.size w wr ∧ Row wr w.heap.size 3 (filled intC [.int .i64 0] xs k))
 case atStart=>
  exact ⟨0,by omega,by omega,rfl,balloc (Below.refl _ _) _,(Row.new _ _ _).of (by have h1:=(made_zeros [Value.int .i64 0] xs.length).trans (filled_zero intC [Value.int .i64 0] xs).symm;rw [show xs.length * [Value.int .i64 0].length=xs.length from Nat.mul_one _] at h1;exact h1)⟩
 case round=>
  obtain ⟨k,hk,rfl,rfl,hb,hrow⟩:=hrel
  by_cases hlt:k < xs.length
  ·obtain ⟨b,off,rfl,hB,c1⟩:=Ints.at_ (h.below hb) hlt
   have hx:=Lib.hid (List.getElem?_eq_getElem hlt)
   generalize xs[k]=x at *
   have Hrow:=Lib.hid hrow
   have hlen:=filled_length 1 intC intC_length [.int .i64 0] rfl xs hk
   obtain ⟨v1,hv1⟩:∃ v,(filled intC [.int .i64 0] xs k)[k]? = some v:=⟨_,List.getElem?_eq_getElem (by omega)⟩
   have e1:wr.cell? ⟨w.heap.size,k,none⟩=some v1:=(hrow.cell k).trans hv1
   have e3:=hrow.frozen k
   have hbl:=hrow.lt
   have Hb:=Lib.hid hb
   clear hrow hlen hv1 hb
   go_wp2
   go_roundg (xs.length - (k + 1))
   case measure=>omega
   case rel=>
    exact ⟨k + 1,by omega,rfl,by go_num,Hb.out.setCell (p:=⟨_,_,none⟩) (Nat.le_refl _) _,
     (Hrow.out.set _ _).of (by have:=filled_next 1 intC intC_length [.int .i64 0] rfl xs hx.out;simpa [over,intC] using this)⟩
  ·go_wp2
   go_ret
   exact ⟨rfl,hb,hrow.of (filled_all _ _ _ (by omega))⟩

end Go.Proofs.YtcbfbgngkdiijaaGreat

namespace Go.Qo
open Go.RowKit Go.ChangeShapes Go.WideShapes Go.Deep

section
variable {H:Type} {enc:TypeId × Value → H} {P:Program} {w:World} {base:Nat} {spare:Nat → Bool} {held:Bool}
structure ValTypes (P:Program) (tV tB tI:TypeId):Prop where
 val:∃ f0 f1:Field,P.underlying tV=some (.struct #[f0,f1]) ∧ f0.offset=0 ∧ f1.offset=1 ∧ f0.type=tB ∧ f1.type=tI
 vB:P.underlying tB=some .bool
 vI:P.underlying tI=some (.int .i64)
 cB:P.cellsOf tB=1
 cI:P.cellsOf tI=1
 cV:P.cellsOf tV=2

theorem ValTypes.el {tV tB tI:TypeId} (h:ValTypes P tV tB tI) (fuel:Nat) (cs:List Value) (x:DataW H × List MemPlace) (hl:cs.length=2) (ht:DataW.trod enc P w base spare held fuel tV cs=some x):∃ el:Val,cs=valC el ∧ (Lit.int .i64 el.2).wf=true:=by
 obtain ⟨f0,f1,hu,o0,o1,t0,t1⟩:=h.val
 exact el_bool_int hu o0 o1 (by rw [t0];exact h.cB) (by rw [t1];exact h.cI) (by rw [t0];exact h.vB) (by rw [t1];exact h.vI) fuel cs x hl ht

theorem open_row {tR tV tB tI:TypeId} (h:ValTypes P tV tB tI) (hR:P.underlying tR=some (.slice tV)) {fuel:Nat} {A:Option Addr} {n c:Nat} {x:DataW H × List MemPlace}
 (ht:DataW.trod enc P w base spare held fuel tR [.slice A n c]=some x):∃ r:Row1,r.length=n ∧ n ≤ c ∧ c ≤ maxLen ∧ Sl 2 valC w w.heap.size A r:=by
 obtain ⟨xs,hl,hc,hm,_,hs⟩:=open_sl (sz:=2) (ec:=valC) hR h.cV (by omega) valC_length h.el ht
 exact ⟨xs,hl,hc,hm,hs⟩

theorem slice_cell {t e:TypeId} {fuel:Nat} {v:Value} {x:DataW H × List MemPlace} (hR:P.underlying t=some (.slice e)) (ht:DataW.trod enc P w base spare held fuel t [v]=some x):∃ A n c,v=.slice A n c:=by
 rcases open_slice hR ht with ⟨hcs,_⟩ | ⟨a,len,cap,m,k,D,Pl,hcs,_⟩
 ·simp only [List.cons.injEq,and_true] at hcs;exact ⟨_,_,_,hcs⟩
 ·simp only [List.cons.injEq,and_true] at hcs;exact ⟨_,_,_,hcs⟩

theorem open_sls {α:Type} {ec:α → List Value} {sz:Nat} {tS tR e:TypeId} (hS:P.underlying tS=some (.slice tR)) (hR:P.underlying tR=some (.slice e)) (cR:P.cellsOf tR=1)
 (hin:∀ (fuel:Nat) (A:Option Addr) (n c:Nat) (x:DataW H × List MemPlace),DataW.trod enc P w base spare held fuel tR [.slice A n c]=some x → ∃ r:List α,r.length=n ∧ n ≤ c ∧ c ≤ maxLen ∧ Sl sz ec w w.heap.size A r)
 {fuel:Nat} {A:Option Addr} {n c:Nat} {x:DataW H × List MemPlace} (ht:DataW.trod enc P w base spare held fuel tS [.slice A n c]=some x) :
 ∃ rows:List (List α),rows.length=n ∧ n ≤ c ∧ c ≤ maxLen ∧ Sls sz ec w w.heap.size A rows:=by
 have hel:∀ (fuel:Nat) (cs:List Value) (x:DataW H × List MemPlace),cs.length=1 → DataW.trod enc P w base spare held fuel tR cs=some x → ∃ s:SV,cs=svC s ∧ ∃ r:List α,SVIs sz ec w w.heap.size s r:=by
  intro fuel cs x hl h
  match cs,hl with
  | [v],_=>
    obtain ⟨A,n,c,rfl⟩:=slice_cell hR h
    obtain ⟨r,h1,h2,h3,h4⟩:=hin fuel A n c x h
    exact ⟨⟨A,n,c⟩,rfl,r,h1.symm,by show r.length ≤ c;omega,h3,h4⟩
 obtain ⟨svs,hl,hc,hm,hg,hs⟩:=open_sl (sz:=1) (ec:=svC) hS cR (by omega) svC_length hel ht
 have:∃ rows:List (List α),rows.length=svs.length ∧ ∀ (i:Nat) (s:SV) (xs:List α),svs[i]? = some s → rows[i]? = some xs → SVIs sz ec w w.heap.size s xs:=by
  clear hs ht hl hc hm
  induction svs with
  | nil=>exact ⟨[],rfl,fun i s xs h=>by simp at h⟩
  | cons s svs ih=>
    obtain ⟨r,hr⟩:=hg s (by simp)
    obtain ⟨rows,h1,h2⟩:=ih (fun el hel=>hg el (by simp [hel]))
    refine ⟨r :: rows,by simp [h1],fun i s' xs ha hb=>?_⟩
    cases i with
    | zero=>simp only [List.getElem?_cons_zero,Option.some.injEq] at ha hb;subst ha;subst hb;exact hr
    | succ i=>exact h2 i s' xs (by simpa using ha) (by simpa using hb)
 obtain ⟨rows,h1,h2⟩:=this
 exact ⟨rows,by omega,hc,hm,svs,h1.symm,hs,h2⟩

theorem open_rows {tS tR tV tB tI:TypeId} (h:ValTypes P tV tB tI) (hS:P.underlying tS=some (.slice tR)) (hR:P.underlying tR=some (.slice tV)) (cR:P.cellsOf tR=1)
 {fuel:Nat} {A:Option Addr} {n c:Nat} {x:DataW H × List MemPlace} (ht:DataW.trod enc P w base spare held fuel tS [.slice A n c]=some x) :
 ∃ rows:List Row1,rows.length=n ∧ n ≤ c ∧ c ≤ maxLen ∧ Sls 2 valC w w.heap.size A rows:=
 open_sls hS hR cR (fun _ _ _ _ _ h1=>open_row h hR h1) ht

theorem open_tab {tT tS tR tV tB tI:TypeId} (h:ValTypes P tV tB tI) (hS:P.underlying tS=some (.slice tR)) (hR:P.underlying tR=some (.slice tV)) (cR:P.cellsOf tR=1) (cS:P.cellsOf tS=1)
 (hT:∃ f0 f1:Field,P.underlying tT=some (.struct #[f0,f1]) ∧ f0.offset=0 ∧ f1.offset=1 ∧ f0.type=tI ∧ f1.type=tS)
 {fuel:Nat} {cs:List Value} {x:DataW H × List MemPlace} (hl:cs.length=2) (ht:DataW.trod enc P w base spare held fuel tT cs=some x) :
 ∃ (W:Int) (A:Option Addr) (c:Nat) (rows:List Row1),cs=[.int .i64 W,.slice A rows.length c] ∧ (Lit.int .i64 W).wf=true ∧ rows.length ≤ c ∧ c ≤ maxLen ∧ Sls 2 valC w w.heap.size A rows:=by
 obtain ⟨f0,f1,hu,o0,o1,t0,t1⟩:=hT
 obtain ⟨v0,v1,y0,y1,n,rfl,_,h0,h1⟩:=open_two hu hl o0 o1 (by rw [t0];exact h.cI) (by rw [t1];exact cS) ht
 obtain ⟨W,hW,_,wf⟩:=DataW.trod_int (by rw [t0];exact h.vI) h0
 simp only [List.cons.injEq,and_true] at hW
 subst hW
 rw [t1] at h1
 obtain ⟨A,n',c,rfl⟩:=slice_cell hS h1
 obtain ⟨rows,rfl,hc,hm,hs⟩:=open_rows h hS hR cR h1
 exact ⟨W,A,c,rows,rfl,wf,hc,hm,hs⟩
end
end Go.Qo
