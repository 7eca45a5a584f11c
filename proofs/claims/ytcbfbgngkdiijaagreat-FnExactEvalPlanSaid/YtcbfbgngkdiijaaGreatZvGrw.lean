import Derived.Test.YtcbfbgngkdiijaaGreatProg
import Derived.Test.YtcbfbgngkdiijaaGreatZvTbg
import Derived.Test.YtcbfbgngkdiijaaGreatZvMjg
import Derived.Test.YtcbfbgngkdiijaaGreatZvEvp
import Derived.Test.YtcbfbgngkdiijaaGreatZvPln
import Derived.Test.YtcbfbgngkdiijaaGreatZvVal
namespace Go.Proofs.YtcbfbgngkdiijaaGreat
open Go.RowKit Go.Qo
set_option linter.unusedVariables false
set_option linter.unusedSimpArgs false

def InT (w:World) (A:Option Addr) (rows:List Row1):Prop:=∃ svs:List SV,SlT 100 1 svC 0 w A svs ∧ RowsT 85 2 valC 0 w svs rows
theorem InT.on {w w':World} {A:Option Addr} {rows:List Row1} (h:InT w A rows) (hb:Below w.heap.size w w'):InT w' A rows:=by
 obtain ⟨svs,h1,h2⟩:=h
 exact ⟨svs,h1.on hb,h2.on hb⟩
theorem InT.nil {w:World} {A:Option Addr}:InT w A []:=⟨[],SlT.nil,RowsT.nil⟩
theorem InT.at_ {w:World} {A:Option Addr} {rows:List Row1} (h:InT w A rows) {i:Nat} (hi:i < rows.length) :
 ∃ (b o:Nat) (s:SV),A=some ⟨b,o,none⟩ ∧ b < w.heap.size ∧ w.cell? ⟨b,o + i,none⟩=some (.slice s.A rows[i].length s.c) ∧ rows[i].length ≤ s.c ∧ s.c ≤ maxLen ∧ SlT 85 2 valC 0 w s.A rows[i]:=by
 obtain ⟨svs,h1,h2⟩:=h
 have hi':i < svs.length:=by rw [h2.1];exact hi
 obtain ⟨b,o,hA,hB,hc⟩:=Sl.at1 (f:=fun s:SV=>Value.slice s.A s.n s.c) h1.sl hi'
 obtain ⟨e1,e2,e3,e4⟩:=h2.2 i svs[i] rows[i] (List.getElem?_eq_getElem hi') (List.getElem?_eq_getElem hi)
 rw [e1] at hc
 exact ⟨b,o,svs[i],hA,hB,hc,e2,e3,e4⟩
theorem InT.rws {w:World} {A:Option Addr} {rows:List Row1} (h:InT w A rows):Rws w w.heap.size A rows:=by
 obtain ⟨svs,h1,h2⟩:=h
 exact sls_of' h1.sl h2
theorem InT.only {w w':World} {A:Option Addr} {rows:List Row1} {S:Nat → Prop} (h:InT w A rows) (k:Only S w w') (hS:∀ b,S b → ∃ u,u ≠ 100 ∧ u ≠ 85 ∧ TyAt w b u):InT w' A rows:=by
 obtain ⟨svs,h1,h2⟩:=h
 exact ⟨svs,h1.only k fun b hb=>by obtain ⟨u,e1,e2,e3⟩:=hS b hb;exact .inr ⟨u,e1,e3⟩,h2.only k fun b hb=>by obtain ⟨u,e1,e2,e3⟩:=hS b hb;exact .inr ⟨u,e2,e3⟩⟩
theorem InT.put2 {z:World} {b:Nat} {cs:List Value} {A:Option Addr} {rows:List Row1} (h:InT z A rows) (hr:Row z b 32 cs) (u u':Value):InT ((z.setCell ⟨b,0,none⟩ u).setCell ⟨b,1,none⟩ u') A rows:=
 h.only (S:=fun k=>k=b) (((Only.refl (S:=fun k=>k=b) z).set (p:=⟨b,0,none⟩) (.inl rfl) u).set (p:=⟨b,1,none⟩) (.inl rfl) u') fun k hk=>⟨_,by decide,by decide,hk ▸ hr.ty⟩
structure GR (lo m:Nat) (W2 wr:World) (v:Value) (rows:List Row1):Prop where
 own:∃ svs:List SV,Ow lo 100 1 svC wr v svs ∧ RowsT 85 2 valC 0 wr svs rows
 keep:Only (fun k=>k=m) W2 wr
 at_:∀ k,v.ownBlock=some k → k=m ∨ W2.heap.size ≤ k
theorem GR.below {lo m:Nat} {W2 wr z:World} {v:Value} {rows:List Row1} (h:GR lo m W2 wr v rows) (k:Below wr.heap.size wr z):GR lo m W2 z v rows:=by
 obtain ⟨svs,h1,h2⟩:=h.own
 exact ⟨⟨svs,h1.on k,h2.on k⟩,h.keep.below k,h.at_⟩
theorem GR.start {lo:Nat} {w:World} (hl:lo ≤ w.heap.size):GR lo w.heap.size (w.alloc (.cells #[] 100)) (w.alloc (.cells #[] 100)) (.slice (some ⟨w.heap.size,0,none⟩) 0 0) []:=
 ⟨⟨[],Ow.lit (xs:=([]:List SV)) rfl rfl hl (by decide),RowsT.nil⟩,Only.refl _,fun k hk=>by cases hk;exact .inl rfl⟩
theorem GR.shape {lo m:Nat} {W2 wr:World} {v:Value} {rows:List Row1} (h:GR lo m W2 wr v rows):∃ A c,v=.slice A rows.length c ∧ rows.length ≤ c ∧ c ≤ maxLen ∧ InT wr A rows:=by
 obtain ⟨svs,h1,h2⟩:=h.own
 obtain ⟨A,c,hv,h4,h5,h6⟩:=h1.shape svC_length
 exact ⟨A,c,by rw [hv,h2.1],by rw [← h2.1];exact h4,h5,svs,h6.low (Nat.zero_le _),h2⟩
theorem GR.app {lo m:Nat} {W2 U w':World} {v v':Value} {rows:List Row1} {svs:List SV} (h:GR lo m W2 U v rows) (hO:Ow lo 100 1 svC U v svs) (hT:RowsT 85 2 valC 0 U svs rows) {s:SV} {r:Row1}
 (h1:s.n=r.length) (h2:r.length ≤ s.c) (h3:s.c ≤ maxLen) (h4:SlT 85 2 valC 0 U s.A r) (hown:Ow lo 100 1 svC w' v' (svs ++ [s])) (hgr:U.grownBy w' v.ownBlock) (hob:v'.ownBlock=v.ownBlock ∨ v'.ownBlock=some U.heap.size):GR lo m W2 w' v' (rows ++ [r]):=
 ⟨⟨svs ++ [s],hown,(hT.snoc h1 h2 h3 h4).grown hgr fun b hb=>.inr ⟨_,by decide,(hO.ty b hb).2.2⟩⟩,h.keep.grown hgr h.at_,fun k hk=>by
   rcases hob with e | e
   ·exact h.at_ k (by rw [← e];exact hk)
   ·rw [e] at hk;cases hk;exact .inr h.keep.size⟩
theorem GR.from_ {lo m:Nat} {w W2 wr:World} {v:Value} {rows:List Row1} (h:GR lo m W2 wr v rows) (hb:Below w.heap.size w W2) (hm:w.heap.size ≤ m):Below w.heap.size w wr:=Only.from_ hb rfl h.keep fun i (hi:i=m)=>by omega
def TbRes (W:Int) (rows:List Row1) (w:World) (e:Ending) (w':World):Prop:=∃ (A:Option Addr) (c:Nat),e=.returned (.agg #[.int .i64 W,.slice A rows.length c]) ∧ rows.length ≤ c ∧ c ≤ maxLen ∧ InT w' A rows ∧ Below w.heap.size w w'
theorem built_colS {W:Int} {rows out:List Row1} (hr:∀ r ∈ rows,RowOk W r) (h:if rows.length ≤ 400 then Built rows out else out=[]):out=colS rows:=by
 unfold colS
 split at h
 ·rename_i hl
  rw [if_pos hl]
  have hp:=h.perm
  have ho:∀ r ∈ out,RowOk W r:=fun r hq=>hr r (hp.mem_iff.1 hq)
  have hg:=gSort_perm (rCm W) hr
  exact srt_unique ho (hp.trans hg.symm) (h.srt hr) (gSort_ord (rCm W) hr)
 ·rename_i hl
  rw [if_neg hl];exact h
theorem TofRes.tb {lo:Nat} {W Wr:Int} {rows:List Row1} {w w':World} {e:Ending} (h:TofRes lo W rows w e w') (hr:∀ r ∈ rows,RowOk Wr r):TbRes W (colS rows) w e w':=by
 obtain ⟨v,svs,out,rfl,hB,hO,hT,hb⟩:=h
 have e:=built_colS hr hB
 subst e
 obtain ⟨A,c,rfl,h4,h5,h6⟩:=hO.shape svC_length
 refine ⟨A,c,by rw [hT.1],by rw [← hT.1];exact h4,h5,⟨svs,h6.low (Nat.zero_le _),hT.low (Nat.zero_le _)⟩,hb⟩
theorem zeroRowW:(Tryz.prog.info? 100).map (fun i=>(i.zero,i.size,i.bytes))=some (some (.slice none 0 0),1,24):=by kernel_rfl
theorem tbox {w1:World} {b:Nat} {x y:Value} (h:Row w1 b 32 [x,y]):b < w1.heap.size ∧ w1.frozen? ⟨b,0,none⟩=false ∧ w1.frozen? ⟨b,1,none⟩=false ∧ w1.cell? ⟨b,0,none⟩=some x ∧ w1.cell? ⟨b,1,none⟩=some y:=⟨h.lt,h.frozen 0,h.frozen 1,h.cell 0,h.cell 1⟩
end Go.Proofs.YtcbfbgngkdiijaaGreat
