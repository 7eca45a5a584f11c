import Derived.Test.YtcbfbgngkdiijaaGreatProg
import Derived.Test.YtcbfbgngkdiijaaGreatZvGra
import Derived.Test.YtcbfbgngkdiijaaGreatZvGh
import Derived.Test.YtcbfbgngkdiijaaGreatZvGc
import Derived.Test.YtcbfbgngkdiijaaGreatZvGh
import Derived.Test.YtcbfbgngkdiijaaGreatZvGb
import Derived.Test.YtcbfbgngkdiijaaGreatZvCopy
import Derived.Test.YtcbfbgngkdiijaaGreatZvRgG
import Derived.Deep.CutBlock
import Derived.Deep.DeepCutAuto
import Derived.Test.YtcbfbgngkdiijaaGreatZvUng
import Derived.Test.YtcbfbgngkdiijaaGreatZvGg
import Derived.Sort.QuietIn
import Derived.Deep.RegionHeld3
import Derived.Test.YtcbfbgngkdiijaaGreatZvMjg
import Derived.Test.YtcbfbgngkdiijaaGreatZvRwt
import Derived.Test.YtcbfbgngkdiijaaGreatZvGe
import Derived.Test.YtcbfbgngkdiijaaGreatZvPls
namespace Go.Proofs.YtcbfbgngkdiijaaGreat
open Go.RowKit Go.Qo
set_option linter.unusedVariables false
set_option linter.unusedSimpArgs false

structure Bks2 (lo:Nat) (w:World) (wr:World) (vs:List SV) (bks:List (List Row1)):Prop where
 len:vs.length=bks.length
 own:∀ (k:Nat) (s:SV) (b:List Row1),vs[k]? = some s → bks[k]? = some b → ∃ l:List SV,s.n=l.length ∧ Ow lo 100 1 svC wr (svV s) l ∧ l.length=b.length ∧ ∀ (i:Nat) (sv:SV) (r:Row1),l[i]? = some sv → b[i]? = some r → SVIs 2 valC w w.heap.size sv r
 apart:∀ (j k:Nat) (s t:SV) (g:Nat),vs[j]? = some s → vs[k]? = some t → (svV s).ownBlock=some g → (svV t).ownBlock=some g → j=k

theorem Bks2.keep {lo:Nat} {w wr wr':World} {vs:List SV} {bks:List (List Row1)} (h:Bks2 lo w wr vs bks) (hk:∀ b,lo ≤ b → b < wr.heap.size → TyAt wr b 100 → wr'.heap[b]? = wr.heap[b]?):Bks2 lo w wr' vs bks:=
 ⟨h.len,fun k s b h1 h2=>by obtain ⟨l,a,b',c,d⟩:=h.own k s b h1 h2;exact ⟨l,a,b'.keep hk,c,d⟩,h.apart⟩
theorem Bks2.on {lo:Nat} {w wr wr':World} {vs:List SV} {bks:List (List Row1)} (h:Bks2 lo w wr vs bks) (hb:Below wr.heap.size wr wr'):Bks2 lo w wr' vs bks:=h.keep fun b _ hl _=>hb.block b hl
theorem Bks2.put {lo:Nat} {w wr wr':World} {vs:List SV} {bks:List (List Row1)} (h:Bks2 lo w wr vs bks) {j:Nat} {s:SV} {b:List Row1} {l:List SV} (hs:vs[j]? = some s) (hb:bks[j]? = some b) (hl:l.length=b.length) (hr:∀ (i:Nat) (sv:SV) (r:Row1),l[i]? = some sv → b[i]? = some r → SVIs 2 valC w w.heap.size sv r)
 {g cap:Nat} {sv:SV} {r:Row1} (hsv:SVIs 2 valC w w.heap.size sv r) (hown:Ow lo 100 1 svC wr' (.slice (some ⟨g,0,none⟩) (l ++ [sv]).length cap) (l ++ [sv])) (hg:wr.grownBy wr' (svV s).ownBlock) (hat:(svV s).ownBlock=some g ∨ g=wr.heap.size) :
 Bks2 lo w wr' (vs.set j ⟨some ⟨g,0,none⟩,(l ++ [sv]).length,cap⟩) (bks.set j (b ++ [r])):=by
 have hblk:∀ (k:Nat) (t:SV) (q:Nat),k ≠ j → vs[k]? = some t → (svV t).ownBlock=some q → q ≠ g ∧ wr'.heap[q]? = wr.heap[q]?:=by
  intro k t q hkj ht hq
  have hkb:∃ bk,bks[k]? = some bk:=by
   have:=(List.getElem?_eq_some_iff.1 ht).1
   exact ⟨_,List.getElem?_eq_getElem (by rw [← h.len];exact this)⟩
  obtain ⟨bk,hbk⟩:=hkb
  obtain ⟨lk,_,how,_,_⟩:=h.own k t bk ht hbk
  have hlt:=(how.ty q hq).2.1
  refine ⟨?_,hg.block q hlt fun e=>?_⟩
  ·rintro rfl
   rcases hat with h1 | h1
   ·exact hkj (h.apart k j t s q ht hs hq h1)
   ·omega
  ·exact hkj (h.apart k j t s q ht hs hq e.symm)
 refine ⟨by simp [h.len],fun k s' b' h1 h2=>?_,fun j' k' s' t' q h1 h2 h3 h4=>?_⟩
 ·rw [List.getElem?_set] at h1 h2
  by_cases e:j=k
  ·subst e
   rw [if_pos rfl] at h1 h2
   split at h1 <;> cases h1
   split at h2 <;> cases h2
   refine ⟨l ++ [sv],rfl,hown,by simp [hl],fun i sv' r' h3 h4=>?_⟩
   rw [List.getElem?_append] at h3 h4
   rw [← hl] at h4
   split at h3
   ·rename_i hi;rw [if_pos hi] at h4;exact hr i sv' r' h3 h4
   ·rename_i hi
    rw [if_neg hi] at h4
    cases hj:i - l.length with
    | zero=>rw [hj] at h3 h4;simp only [List.getElem?_cons_zero,Option.some.injEq] at h3 h4;subst h3;subst h4;exact hsv
    | succ m=>rw [hj] at h3;simp at h3
  ·rw [if_neg e] at h1 h2
   obtain ⟨lk,a1,a2,a3,a4⟩:=h.own k s' b' h1 h2
   refine ⟨lk,a1,?_,a3,a4⟩
   refine ⟨a2.1,?_⟩
   rcases a2.2 with h5 | ⟨g',cap',cur,hv,hg',hh,rest⟩
   ·exact .inl h5
   ·exact .inr ⟨g',cap',cur,hv,hg',(hblk k s' g' (fun e'=>e e'.symm) h1 (by rw [hv];rfl)).2.trans hh,rest⟩
 ·rw [List.getElem?_set] at h1 h2
  by_cases e:j=j'
  ·subst e
   by_cases e':j=k'
   ·exact e'
   ·rw [if_neg e'] at h2
    rw [if_pos rfl] at h1
    split at h1 <;> cases h1
    cases h3
    exact absurd rfl (hblk k' t' g (fun x=>e' x.symm) h2 h4).1
  ·rw [if_neg e] at h1
   by_cases e':j=k'
   ·subst e'
    rw [if_pos rfl] at h2
    split at h2 <;> cases h2
    cases h4
    exact absurd rfl (hblk j' s' g (fun x=>e x.symm) h1 h3).1
   ·rw [if_neg e'] at h2
    exact h.apart j' k' s' t' q h1 h2 h3 h4
theorem Bks2.snocNil {lo:Nat} {w wr:World} {vs:List SV} {bks:List (List Row1)} (h:Bks2 lo w wr vs bks):Bks2 lo w wr (vs ++ [⟨none,0,0⟩]) (bks ++ [[]]):=by
 have hlen:=h.len
 refine ⟨by simp [hlen],fun k s b h1 h2=>?_,fun j k s t g h1 h2 h3 h4=>?_⟩
 ·rw [List.getElem?_append] at h1 h2
  rw [← hlen] at h2
  split at h1
  ·rename_i hk;rw [if_pos hk] at h2;exact h.own k s b h1 h2
  ·rename_i hk
   rw [if_neg hk] at h2
   cases hj:k - vs.length with
   | zero=>
     rw [hj] at h1 h2
     simp at h1 h2
     subst h1;subst h2
     exact ⟨[],rfl,Ow.nil,rfl,fun i sv r h=>by simp at h⟩
   | succ m=>rw [hj] at h1;simp at h1
 ·have key:∀ (q:Nat) (u:SV),(vs ++ [(⟨none,0,0⟩:SV)])[q]? = some u → (svV u).ownBlock=some g → vs[q]? = some u:=fun q u hq hu=>by
   rw [List.getElem?_append] at hq
   split at hq
   ·exact hq
   ·cases hj:q - vs.length with
    | zero=>rw [hj] at hq;simp at hq;subst hq;cases hu
    | succ m=>rw [hj] at hq;simp at hq
  exact h.apart j k s t g (key j s h1 h3) (key k t h2 h4) h3 h4
def GpRes (cols:List Int) (rows:List Row1) (w0 w:World) (e:Ending) (w':World):Prop:=
 ∃ (v:Value) (vs:List SV) (w5:World),e=.returned v ∧ Below w.heap.size w w5 ∧ Below w5.heap.size w5 w' ∧ Ow w5.heap.size 30 1 svC w' v vs ∧ Bks2 w5.heap.size w0 w' vs (adjN cols (gSort (keyCmp cols) rows) rows.length)
theorem zeroBkG:(Tryz.prog.info? 30).map (fun i=>(i.zero,i.size,i.bytes))=some (some (.slice none 0 0),1,24):=by kernel_rfl
theorem zeroRowS:(Tryz.prog.info? 100).map (fun i=>(i.zero,i.size,i.bytes))=some (some (.slice none 0 0),1,24):=by kernel_rfl
def prCmp (cols:List Int) (p q:SR):Int:=keyCmp cols p.2 q.2
theorem gIns_pr {cols:List Int} (p:SR):∀ l:List SR,(gIns (prCmp cols) p l).map (·.2)=gIns (keyCmp cols) p.2 (l.map (·.2))
 | []=>rfl
 | q :: l=>by
   have ih:=gIns_pr (cols:=cols) p l
   by_cases h:keyCmp cols p.2 q.2 < 0
   ·have h':prCmp cols p q < 0:=h
    simp only [gIns,List.map_cons,h,h',if_true]
   ·have h':¬ prCmp cols p q < 0:=h
    simp only [gIns,List.map_cons,h,h',if_false,ih]
theorem gSort_pr {cols:List Int} (l:List SR):(gSort (prCmp cols) l).map (·.2)=gSort (keyCmp cols) (l.map (·.2)):=by
 suffices H:∀ (l out:List SR),(l.foldl (fun out x=>gIns (prCmp cols) x out) out).map (·.2)=(l.map (·.2)).foldl (fun out x=>gIns (keyCmp cols) x out) (out.map (·.2)) by simpa [gSort] using H l []
 intro l
 induction l with
 | nil=>intro out;rfl
 | cons x l ih=>intro out;rw [List.foldl_cons,ih,gIns_pr];rfl
theorem keyS_of {W:Int} {cols:List Int} {r:Row1} (hr:RowOk W r) (hc:∀ x ∈ cols,0 ≤ x ∧ x < W):KeyS cols r:=fun x hx=>by
 obtain ⟨q,hq,rfl⟩:=List.mem_map.1 hx
 have hq2:=hc q hq
 have hlt:q.toNat < r.length:=by have:=hr.2;omega
 unfold getV
 rw [List.getD_eq_getElem?_getD,List.getElem?_eq_getElem hlt]
 exact hr.vals _ (List.getElem_mem hlt)
theorem prCm {W:Int} {cols:List Int} (hc:∀ x ∈ cols,0 ≤ x ∧ x < W) {B:Nat} {w:World}:Cm (prCmp cols) (SRok W B w):=by
 have C:=keyCm cols
 exact ⟨fun x y hx hy=>C.anti x.2 y.2 (keyS_of hx.1 hc) (keyS_of hy.1 hc),fun x y z hx hy hz=>C.trans x.2 y.2 z.2 (keyS_of hx.1 hc) (keyS_of hy.1 hc) (keyS_of hz.1 hc)⟩
theorem adjN_small (cols:List Int) (s:List Row1):∀ (n:Nat),∀ b ∈ adjN cols s n,b.length ≤ min n s.length
 | 0,b,hb=>by simp [adjN] at hb
 | n + 1,b,hb=>by
   have ih:=adjN_small cols s n
   unfold adjN at hb
   cases hx:s[n]? with
   | none=>
     rw [hx] at hb
     have:=ih b hb
     omega
   | some r=>
     have hn:=(List.getElem?_eq_some_iff.1 hx).1
     rw [hx] at hb
     dsimp only at hb
     have key:∀ gs:List (List Row1),(∀ q ∈ gs,q.length ≤ min n s.length) → ∀ b ∈ gs.set (gs.length - 1) (gs.getD (gs.length - 1) [] ++ [r]),b.length ≤ min (n + 1) s.length:=fun gs hg b hb=>by
      rcases List.mem_or_eq_of_mem_set hb with h | h
      ·have:=hg b h;omega
      ·rw [h,List.length_append,List.getD_eq_getElem?_getD]
       cases hq:gs[gs.length - 1]? with
       | none=>simp;omega
       | some q=>have:=hg q (List.mem_of_getElem? hq);simp;omega
     split at hb
     ·refine key _ (fun q hq=>?_) b hb
      rcases List.mem_append.1 hq with h | h
      ·exact ih q h
      ·simp at h;subst h;simp
     ·exact key _ ih b hb
theorem callGrp:Callable 132:=callable_of Tryz.func132 (by kernel_rfl) (by kernel_rfl)

set_option maxRecDepth 20000 in
set_option maxHeartbeats 2000000 in
theorem grpCmp_ok (A' Aa Ab:Option Addr) (c' ca cb kb:Nat) (a b:Row1) (cols:List Int) (w:World) (ha:a.length ≤ 6) (hb:b.length ≤ 6) (hl:cols.length ≤ 6) (hca:∀ x ∈ cols,0 ≤ x ∧ x < a.length) (hcb:∀ x ∈ cols,0 ≤ x ∧ x < b.length)
 (hk:Row w kb 23 [.slice A' cols.length c']) (h1:Sl 2 valC w w.heap.size Aa a) (h2:Sl 2 valC w w.heap.size Ab b) (h':Sl 1 intC w w.heap.size A' cols) :
 Calls Tryz.prog 132 #[.slice Aa a.length ca,.slice Ab b.length cb,.pointer (some ⟨kb,0,none⟩)] w fun e w'=>e=.returned (.int .i64 (keyCmp cols a b)) ∧ Below w.heap.size w w':=by
 have SK:=Lib.hid (fun (z:World) (hz:Below w.heap.size w z)=>show z.cell? ⟨kb,0,none⟩=some (.slice A' cols.length c') from (hk.on hz).cell 0)
 have HP1:=Lib.hid (fun (z:World) (hz:Below w.heap.size w z)=>picked_ok Aa A' ca c' a cols z ha hl hca (h1.on hz) (h'.on hz))
 have HP2:=Lib.hid (fun (z:World) (hz:Below w.heap.size w z)=>picked_ok Ab A' cb c' b cols z hb hl hcb (h2.on hz) (h'.on hz))
 have HPL:=Lib.hid (And.intro (pickR_length cols a) (pickR_length cols b))
 have hl6:=hl
 clear hk h1 h2 h' hca hcb
 go_enter Tryz.func132,Tryz.ntmps132
 go_upto_region 1 with fail
 obtain ⟨u0,hu0⟩:∃ z,w.drew=z:=⟨_,rfl⟩
 have Bu0:=Lib.hid (show Below w.heap.size w u0 from hu0 ▸ (Below.refl _ _).drew)
 have Hu0:=Lib.hid hu0
 clear hu0
 refine wp_region_g 7 (fun z=>z.cell? ⟨kb,0,none⟩=some (.slice A' cols.length c')) (by kernel_rfl) ?_ (fun hHeld=>?_)
 ·exact SK.out _ (Below.refl _ _).drew
 rw [Hu0.out] at hHeld ⊢
 refine tkH (i:=0) rfl (by assumption) ?_
 try simp only [Act.put,sTA,sC0,sCS]
 refine tkH (i:=1) rfl (by assumption) ?_
 try simp only [Act.put,sTA,sC0,sCS]
 refine tkH (i:=3) rfl (by assumption) ?_
 try simp only [Act.put,sTA,sC0,sCS]
 refine tkH (i:=4) rfl (by assumption) ?_
 try simp only [Act.put,sTA,sC0,sCS]
 refine rdG (i:=2) (by kernel_rfl) rfl (fun K hK=>?_)
 go_simp
 go_at_call 116
 refine (HP1.out u0 Bu0.out).mono ?_
 rintro e x1 ⟨v1,rfl,how1,hb1⟩
 obtain ⟨A1,c1,rfl,_,_,hs1⟩:=how1.shape valC_length
 have Bx1:=Lib.hid (bch Bu0.out hb1)
 have HS1:=Lib.hid hs1
 rw [HPL.out.1]
 clear how1 hb1 hs1
 refine hK.out _ _ ?hS5 (fun hHeld=>?_)
 case hS5=>exact fun _=>SK.out _ Bx1.out
 replace hHeld:=hHeld (by decide)
 clear hK K
 try simp only [Act.put,sTA,sC0,sCS]
 refine rdG (i:=5) (by kernel_rfl) rfl (fun K hK=>?_)
 go_simp
 go_at_call 116
 refine (HP2.out x1 Bx1.out).mono ?_
 rintro e x2 ⟨v2,rfl,how2,hb2⟩
 obtain ⟨A2,c2,rfl,_,_,hs2⟩:=how2.shape valC_length
 have Bx2:=Lib.hid (bch Bx1.out hb2)
 have HCR:=Lib.hid (show Calls Tryz.prog 102 #[.slice A1 cols.length c1,.slice A2 cols.length c2] x2 _ from by
  have:=implCompareRows_ok A1 A2 c1 c2 (pickR cols a) (pickR cols b) x2 (by rw [HPL.out.1];unfold maxLen;omega) (by rw [HPL.out.2];unfold maxLen;omega) (HS1.out.on hb2).sl hs2.sl
  rw [HPL.out.1,HPL.out.2] at this
  exact this)
 rw [HPL.out.2]
 clear how2 hb2 hs2
 refine hK.out _ _ ?hS6 (fun hHeld=>?_)
 case hS6=>exact fun _=>SK.out _ Bx2.out
 replace hHeld:=hHeld (by decide)
 clear hK K
 try simp only [Act.put,sTA,sC0,sCS]
 refine rdG (i:=6) (by kernel_rfl) rfl (fun K hK=>?_)
 go_simp
 go_at_call 102
 refine HCR.out.mono ?_
 rintro e x3 ⟨rfl,hb3⟩
 have Bx3:=Lib.hid (bch Bx2.out hb3)
 clear hb3
 refine hK.out _ _ ?hS7 (fun hHeld=>?_)
 case hS7=>exact fun _=>SK.out _ Bx3.out
 replace hHeld:=hHeld (by decide)
 clear hK K
 try simp only [Act.put,sTA,sC0,sCS]
 refine rdG (i:=7) (by kernel_rfl) rfl (fun K hK=>?_)
 go_simp
 refine hK.out _ _ ?hS8 (fun hHeld=>?_)
 case hS8=>exact fun h=>absurd rfl h
 clear hK K
 try simp only [Act.put,sTA,sC0,sCS]
 refine wpAnyG_done (by kernel_rfl) ?_ _
 go_wp2
 go_ret
 exact ⟨rfl,Bx3.out⟩

set_option maxRecDepth 20000 in
set_option maxHeartbeats 8000000 in
theorem groupsOf_ok (W:Int) (A A':Option Addr) (c c':Nat) (rows:List Row1) (cols:List Int) (w0 w:World) (hw0:Below w0.heap.size w0 w) (hT:TabOk W rows) (hl:cols.length < 6) (hc:∀ x ∈ cols,0 ≤ x ∧ x < W) (h:Rws w0 w0.heap.size A rows) (h':Sl 1 intC w0 w0.heap.size A' cols) :
 Calls Tryz.prog 115 #[.agg #[.int .i64 W,.slice A rows.length c],.slice A' cols.length c'] w (GpRes cols rows w0 w):=by
 have hr4:=hT.2.2.1
 have hW6:=hT.2.1
 have HTR:=Lib.hid (show ∀ r ∈ rows,RowOk W r from fun r hr=>by
  obtain ⟨i,hi,rfl⟩:=List.getElem_of_mem hr
  exact hT.row (List.getElem?_eq_getElem hi))
 obtain ⟨kb,hkb⟩:∃ n,w.heap.size + 1=n:=⟨_,rfl⟩
 obtain ⟨W1,hW1⟩:∃ z,w.alloc (.cells #[.int .i64 W,.slice A rows.length c] 32)=z:=⟨_,rfl⟩
 obtain ⟨W2,hW2⟩:∃ z,W1.alloc (.cells #[.slice A' cols.length c'] 23)=z:=⟨_,rfl⟩
 have b1:Below w.heap.size w W1:=by rw [← hW1];exact balloc (Below.refl _ _) _
 have b2:Below W1.heap.size W1 W2:=by rw [← hW2];exact balloc (Below.refl _ _) _
 have s1:W1.heap.size=kb:=by rw [← hW1];simp;omega
 have r1:Row W1 w.heap.size 32 [.int .i64 W,.slice A rows.length c]:=by rw [← hW1];exact Row.new _ _ _
 have r2:Row W2 kb 23 [.slice A' cols.length c']:=by rw [← s1,← hW2];exact Row.new _ _ _
 have B2:=Lib.hid (bch b1 b2)
 have a1:W2.cell? ⟨w.heap.size,1,none⟩=some (.slice A rows.length c):=(r1.on b2).cell 1
 have la:=(r1.on b2).lt
 have R2:=Lib.hid r2
 have B20:=Lib.hid (bch hw0 B2.out)
 obtain ⟨svs,hsl,hsv,hin⟩:=h
 have HPR:=Lib.hid (pairs_ok (A:=none) hsl HTR.out hin)
 have hCR:=copiedRows_ok A c svs W2 (by omega) (hsv.on B20.out)
 rw [hsl] at hCR
 have HCR:=Lib.hid hCR
 have HSL:=Lib.hid hsl
 have HIN:=Lib.hid (fun (z:World) (hz:Below W2.heap.size W2 z)=>h'.on (bch B20.out hz))
 have HC:=Lib.hid hc
 have HW1:=Lib.hid hW1
 have HW2:=Lib.hid hW2
 clear hW1 hW2 b1 b2 s1 r1 r2 h' hc hsl hsv hin hCR hT hw0
 go_enter Tryz.func115,Tryz.ntmps115
 go_upto_region 1 with fail
 rw [HW1.out,HW2.out]
 go_wp2_with fail
 refine HCR.out.mono ?_
 rintro e w3 ⟨v7,rfl,how7,hb3⟩
 obtain ⟨A7,c7,rfl,hc71,hc72,_⟩:=how7.shape svC_length
 have HB3:=Lib.hid hb3
 have HO7:=Lib.hid how7
 have hsl4:svs.length ≤ 400:=by rw [HSL.out];exact hr4
 clear how7 hb3 hc71
 rcases Nat.eq_zero_or_pos rows.length with hz | hz
 ·have hr0:rows=[]:=List.eq_nil_of_length_eq_zero hz
  have hk1:svs.length=0:=by rw [HSL.out];exact hz
  have HSN:=Lib.hid (fun z=>sortStableNil_ok A7 c7 (.func (.func 132) #[] #[.pointer (some ⟨kb,0,none⟩)]) z)
  have HR0:=Lib.hid hr0
  rw [hk1]
  clear hr0
  go_wp2_with fail
  refine (HSN.out _).mono ?_
  rintro e w5 ⟨rfl,rfl⟩
  go_wp2
  go_loopg [7,20] 0 (fun g v7 iv wr=>v7=.slice none 0 0 ∧ iv=.int .i64 0 ∧ w3=wr)
  case atStart=>exact ⟨rfl,rfl,rfl⟩
  case round=>
   obtain ⟨rfl,rfl,rfl⟩:=hrel
   go_wp2
   go_ret
   exact ⟨_,[],w3,rfl,bch B2.out HB3.out,Below.refl _ _,Ow.nil,by rw [HR0.out];exact ⟨rfl,fun k s b h=>by simp at h,fun j k s t g h=>by simp at h⟩⟩
 ·obtain ⟨g,hA7,hnn,hg,hgl,_,_,_⟩:=HO7.out.head svC_length (by have:=HSL.out;omega)
  subst hA7
  clear hnn
  have hps:(svs.zip rows).length=svs.length:=by simp [HSL.out]
  have hz23:=HB3.out.size
  have hz02:=B20.out.size
  have hz03:w0.heap.size ≤ w3.heap.size:=by omega
  have hOL:OwL (svCell svOf) W2.heap.size g (svs.zip rows).length c7 w3 (svs.zip rows):=Ow.pairs HO7.out HSL.out rfl
  have hSR:∀ p ∈ svs.zip rows,SRok W w0.heap.size w3 p:=fun p hp=>(HPR.out p hp).only (only_below (S:=fun _=>False) (bch B20.out HB3.out)) (Nat.le_refl _) (fun _ h=>h.elim)
  have HCMP:=Lib.hid (fun (z:World) (hz:Only (fun i=>i=g) w3 z) (x y:SR) (hx:SRok W w0.heap.size w3 x) (hy:SRok W w0.heap.size w3 y)=>show Calls Tryz.prog 132 #[.slice x.1.A x.2.length x.1.c,.slice y.1.A y.2.length y.1.c,.pointer (some ⟨kb,0,none⟩)] z (fun e w'=>e=.returned (.int .i64 (prCmp cols x y)) ∧ Below z.heap.size z w') from by
   have hx':=hx.only hz hz03 (fun b hb=>by have hb:b=g:=hb;omega)
   have hy':=hy.only hz hz03 (fun b hb=>by have hb:b=g:=hb;omega)
   have hsz:=hz.size
   have hbz:Below W2.heap.size W2 z:=Only.from_ HB3.out rfl hz fun i hi=>by have hi:i=g:=hi;omega
   have hx6:=(rowValid_len hx.1.1).2
   have hy6:=(rowValid_len hy.1.1).2
   exact grpCmp_ok A' x.1.A y.1.A c' x.1.c y.1.c kb x.2 y.2 cols z hx6 hy6 (by omega) (fun q hq=>by have:=HC.out q hq;have:=hx.1.2;omega) (fun q hq=>by have:=HC.out q hq;have:=hy.1.2;omega) (R2.out.on hbz) (hx'.2.2.2.2.more (by omega)) (hy'.2.2.2.2.more (by omega)) (HIN.out z hbz))
  have hIC:IsCmpG (svCell svOf) (prCmp cols) (SRok W w0.heap.size w3) w3 (.slice (some ⟨g,0,none⟩) svs.length c7) (.func (.func 132) #[] #[.pointer (some ⟨kb,0,none⟩)]):=⟨_,_,rfl,callGrp,fun z hz x y hx hy=>by
   have hzg:Only (fun i=>i=g) w3 z:=hz.mono fun k _ hk=>by cases hk;rfl
   have:=HCMP.out z hzg x y hx hy
   unfold svCell svOf
   rw [hx.2.1,hy.2.1]
   exact this⟩
  have HSN:=sortStableR_ok svOf (prCmp cols) (SRok W w0.heap.size w3) (prCm HC.out) W2.heap.size g (svs.zip rows).length c7 (svs.zip rows) _ w3 rfl (by rw [hps];omega) hSR (by rw [hps];exact hIC) hOL
  rw [hps] at HSN
  have HSN:=Lib.hid HSN
  obtain ⟨qs,hqs⟩:∃ qs,gSort (prCmp cols) (svs.zip rows)=qs:=⟨_,rfl⟩
  have hqm:qs.map (·.2)=gSort (keyCmp cols) rows:=by rw [← hqs,gSort_pr,zip_snd HSL.out]
  have hql:qs.length=svs.length:=by rw [← hqs,gSort_length,hps]
  have hqp:∀ p ∈ qs,SRok W w0.heap.size w3 p:=fun p hp=>hSR p ((gSort_perm (prCm HC.out) hSR).mem_iff.1 (by rw [hqs];exact hp))
  rw [hqs] at HSN
  have hqp0:∀ p ∈ qs,SRok W w0.heap.size w0 p:=fun p hp=>HPR.out p ((gSort_perm (prCm HC.out) hSR).mem_iff.1 (by rw [hqs];exact hp))
  have HQ:=Lib.hid (And.intro hqm (And.intro hql (And.intro hqp hqp0)))
  obtain ⟨n,hn⟩:∃ n,svs.length=n:=⟨_,rfl⟩
  have HNN:=Lib.hid (And.intro hn HSL.out)
  rw [hn] at HSN hsl4 ⊢
  clear hOL hSR hqs hqm hql hqp hqp0 hps hIC hn
  go_wp2_with fail
  refine HSN.out.mono ?_
  rintro e w5 ⟨rfl,hO5,hb5⟩
  have HO5:=Lib.hid hO5
  have HG5:=Lib.hid hb5
  have H25:=Lib.hid (show Below W2.heap.size W2 w5 from Only.from_ HB3.out rfl hb5 fun i hi=>by have hi:i=g:=hi;omega)
  have hg5:=hO5.lt
  have HQ5:=Lib.hid (fun (i:Nat) (hi:i < n)=>show ∃ (s:SV) (r:Row1),w5.cell? ⟨g,i,none⟩=some (.slice s.A r.length s.c) ∧ (gSort (keyCmp cols) rows)[i]? = some r ∧ SRok W w0.heap.size w3 (s,r) ∧ SVIs 2 valC w0 w0.heap.size s r from by
   have hiq:i < qs.length:=by have h1:=HQ.out.2.1;have h2:=HNN.out.1;omega
   have hx:=List.getElem?_eq_getElem hiq
   have hxS:=HQ.out.2.2.1 _ (List.getElem_mem hiq)
   have hx5:=HQ.out.2.2.2 _ (List.getElem_mem hiq)
   refine ⟨qs[i].1,qs[i].2,?_,by rw [← HQ.out.1,List.getElem?_map,hx];rfl,hxS,hx5.2.1,hx5.2.2.1,hx5.2.2.2.1,hx5.2.2.2.2⟩
   have:=HO5.out.at_ hx
   rw [this]
   unfold svCell svOf
   rw [hxS.2.1])
  have HADS:=Lib.hid (show (∀ r ∈ gSort (keyCmp cols) rows,KeyS cols r) ∧ GOrd (keyCmp cols) (gSort (keyCmp cols) rows) ∧ (gSort (keyCmp cols) rows).length=rows.length from by
   have hk:∀ r ∈ rows,KeyS cols r:=fun r hr=>keyS_of (HTR.out r hr) HC.out
   exact ⟨fun r hr=>hk r ((gSort_perm (keyCm cols) hk).mem_iff.1 hr),gSort_ord (keyCm cols) hk,gSort_length rows⟩)
  have HADL:=Lib.hid (fun (i:Nat) (hi:i ≤ rows.length)=>show (adjN cols (gSort (keyCmp cols) rows) i).length ≤ i ∧ (0 < i → 0 < (adjN cols (gSort (keyCmp cols) rows) i).length) from by
   obtain ⟨h1,h2⟩:=adjN_spec HADS.out.1 HADS.out.2.1 i (by have:=HADS.out.2.2;omega)
   rw [h1,List.length_map]
   refine ⟨?_,fun h0=>?_⟩
   ·have:=keysOf_len cols ((gSort (keyCmp cols) rows).take i)
    rw [List.length_take] at this
    omega
   ·obtain ⟨ks,hks⟩:=h2 h0
    rw [hks];simp)
  have HLGO:=Lib.hid (fun (i:Nat)=>show ∀ b ∈ adjN cols (gSort (keyCmp cols) rows) i,b.length ≤ 400 from fun b hb=>by
   have:=adjN_small cols (gSort (keyCmp cols) rows) i b hb
   have:=HADS.out.2.2
   omega)
  clear hO5 hb5
  go_wp2
  go_loopg [7,20] n (fun g v7 iv wr=>∃ (i:Nat) (vs:List SV),i ≤ n ∧ g=n - i ∧ iv=.int .i64 i ∧ Ow w5.heap.size 30 1 svC wr v7 vs ∧ Bks2 w5.heap.size w0 wr vs (adjN cols (gSort (keyCmp cols) rows) i) ∧ Below w5.heap.size w5 wr)
  case atStart=>exact ⟨0,[],by omega,by omega,rfl,Ow.nil,⟨rfl,fun k s b h=>by simp at h,fun j k s t g h=>by simp at h⟩,Below.refl _ _⟩
  case round=>
   obtain ⟨i,vs,hi,rfl,rfl,how,hbk,hb⟩:=hrel
   have HR:=Lib.hid (And.intro how (And.intro hbk hb))
   obtain ⟨A8,c8,rfl,hc81,hc82,_⟩:=how.shape svC_length
   have hszr:w5.heap.size ≤ wr.heap.size:=hb.size
   have hvl:vs.length=(adjN cols (gSort (keyCmp cols) rows) i).length:=hbk.len
   have HVL:=Lib.hid hvl
   clear how hbk hb hc81 hvl
   by_cases hin:i < n
   ·have hiI:(i:Int) < (n:Int):=by omega
    obtain ⟨rs,rr,hcx,hsx,hxS,hsv⟩:=HQ5.out i hin
    have HSV:=Lib.hid hsv
    have hr6:=(rowValid_len hxS.1.1).2
    have c0:wr.cell? ⟨g,i,none⟩=some (.slice rs.A rr.length rs.c):=(HR.out.2.2.cell (p:=⟨g,i,none⟩) hg5).trans hcx
    have hgw:g < wr.heap.size:=by omega
    have hro:=Lib.hid (show RowOk W rr from hxS.1)
    have HAL:=Lib.hid (HADL.out i (by have h1:=HNN.out.1;have h2:=HNN.out.2;omega))
    have HSX:=Lib.hid hsx
    have hvl4:vs.length ≤ 400:=by have h1:=HVL.out;have h2:=HAL.out.1;omega
    clear hcx hsx hxS hsv
    have HNEW:=Lib.hid (show ∀ (X:World) (hX:Below w5.heap.size w5 X) (hO:Ow w5.heap.size 30 1 svC X (.slice A8 vs.length c8) vs) (hB:Bks2 w5.heap.size w0 X vs (adjN cols (gSort (keyCmp cols) rows) i)),True from fun _ _ _ _=>trivial)
    by_cases hi0:i=0
    ·have hi0b:((i:Int) == 0)=true:=by simp [hi0]
     have HADJ:=Lib.hid (show adjN cols (gSort (keyCmp cols) rows) (i + 1)=(adjN cols (gSort (keyCmp cols) rows) i ++ [[]]).set ((adjN cols (gSort (keyCmp cols) rows) i ++ [[]]).length - 1) ((adjN cols (gSort (keyCmp cols) rows) i ++ [[]]).getD ((adjN cols (gSort (keyCmp cols) rows) i ++ [[]]).length - 1) [] ++ [rr]) from by
      conv=>lhs;unfold adjN
      rw [HSX.out]
      dsimp only
      rw [if_pos (.inl hi0)])
     obtain ⟨wz,hwz⟩:∃ z,z=wr:=⟨_,rfl⟩
     have HZR:=Lib.hid (show Ow w5.heap.size 30 1 svC wr (.slice A8 vs.length c8) vs ∧ Bks2 w5.heap.size w0 wr vs (adjN cols (gSort (keyCmp cols) rows) i) ∧ Below w5.heap.size w5 wr from HR.out)
     clear hi0 hwz
     obtain ⟨P1,hP1⟩:∃ z,wr.alloc (.cells #[.slice none 0 0] 30)=z:=⟨_,rfl⟩
     have p1:Below wr.heap.size wr P1:=by rw [← hP1];exact balloc (Below.refl _ _) _
     have HGP:=Lib.hid (HZR.out.1.on p1)
     have HBP:=Lib.hid (HZR.out.2.1.on p1)
     have HXP:=Lib.hid (bch HZR.out.2.2 p1)
     have HSP:=Lib.hid (show Sl 1 svC P1 P1.heap.size (some ⟨wr.heap.size,0,none⟩) [(⟨none,0,0⟩:SV)] by rw [← hP1];exact Row.sl' (t:=30) svC_length ((Row.new wr _ _).of rfl))
     have hloP:w5.heap.size ≤ P1.heap.size:=HXP.out.size
     have HP1:=Lib.hid hP1
     clear hP1 p1
     go_upto_region 10 with (at_builtin;rw [HP1.out];refine wpList_app2 rfl (.tmp 38) (.tmp 39) 146 rfl w5.heap.size 30 _ 1 24 svC Tryz.underlying146 zeroBkG rfl (by decide) (by decide) svC_length svC_one (.slice A8 vs.length c8) vs rfl HGP.out (some ⟨wr.heap.size,0,none⟩) 1 1 [(⟨none,0,0⟩:SV)] rfl rfl HSP.out (by simp only [List.length_singleton];omega) hloP ?_;intro v1 w9 hown1 hgr1 hob1)
     have HBX:=Lib.hid (show Bks2 w5.heap.size w0 w9 (vs ++ [⟨none,0,0⟩]) (adjN cols (gSort (keyCmp cols) rows) i ++ [[]]) from (HBP.out.keep fun b _ hl ht=>hgr1.block b hl fun e=>TyAt.ne ht (HGP.out.ty b e.symm).2.2 (by decide) rfl).snocNil)
     have HXX:=Lib.hid (HXP.out.grown hgr1 hloP fun q hq=>(HGP.out.ty q hq).1)
     obtain ⟨A9,c9,hv1,hc91,hc92,_⟩:=hown1.shape svC_length
     obtain ⟨nV,hnV⟩:∃ n,(vs ++ [(⟨none,0,0⟩:SV)]).length=n:=⟨_,rfl⟩
     rw [hnV] at hv1
     subst hv1
     have HGX:=Lib.hid hown1
     obtain ⟨j,hj0⟩:∃ j,vs.length=j:=⟨_,rfl⟩
     have hj:nV=j + 1:=by rw [← hnV,List.length_append,hj0];rfl
     have hnV4:j ≤ 400:=by omega
     have hwj:IntKind.i64.wrap ((nV:Int) - 1)=(j:Int):=by rw [show (nV:Int) - 1=(j:Int) from by omega];exact IntWalk.i64_in _ (by omega)
     have HLV:=Lib.hid hnV
     have HLG:=Lib.hid (show ∀ b ∈ adjN cols (gSort (keyCmp cols) rows) i ++ [[]],b.length ≤ 400 from fun b hb=>by
      rcases List.mem_append.1 hb with hb | hb
      ·exact HLGO.out i b hb
      ·simp at hb;subst hb;simp)
     have HLG2:=Lib.hid (show (adjN cols (gSort (keyCmp cols) rows) i ++ [[]]).length - 1=j by rw [List.length_append,← HVL.out,hj0];rfl)
     clear hown1 hgr1 hob1 hc91 hc92 hnV hj0
     have hjI:(j:Int) < (nV:Int):=by omega
     have hjI0:(0:Int) ≤ (j:Int):=by omega
     have HJN:=Lib.hid hj
     clear hj
     have hjv:j < (vs ++ [(⟨none,0,0⟩:SV)]).length:=by have:=HJN.out;rw [HLV.out];omega
     have hvj:=List.getElem?_eq_getElem hjv
     obtain ⟨⟨sA,sn,sc⟩,hsj⟩:∃ p,(vs ++ [(⟨none,0,0⟩:SV)])[j]=p:=⟨_,rfl⟩
     rw [hsj] at hvj
     have hjg:j < (adjN cols (gSort (keyCmp cols) rows) i ++ [[]]).length:=by have:=HBX.out.len;omega
     have hgj:=List.getElem?_eq_getElem hjg
     obtain ⟨bj,hbj⟩:∃ p,(adjN cols (gSort (keyCmp cols) rows) i ++ [[]])[j]=p:=⟨_,rfl⟩
     rw [hbj] at hgj
     obtain ⟨l,hl1,hl2,hl3,hl4⟩:=HBX.out.own j _ _ hvj hgj
     have hl1:sn=l.length:=hl1
     subst hl1
     have hpos:0 < (vs ++ [(⟨none,0,0⟩:SV)]).length:=by omega
     obtain ⟨gg,hAg,hnn1,hgg1,hgg2,hgty,_,hcs⟩:=HGX.out.head svC_length hpos
     subst hAg
     clear hnn1
     have gc:w9.cell? ⟨gg,j,none⟩=some (.slice sA l.length sc):=hcs j _ (by
      have:=flat_get 1 svC svC_length (vs ++ [(⟨none,0,0⟩:SV)]) j ⟨sA,l.length,sc⟩ 0 (.slice sA l.length sc) hvj rfl
      simpa using this)
     have hl400:l.length ≤ 400:=by rw [hl3];exact HLG.out bj (List.mem_of_getElem? hgj)
     obtain ⟨X1,hX1⟩:∃ z,w9.alloc (.cells #[.slice rs.A rr.length rs.c] 100)=z:=⟨_,rfl⟩
     have xb:Below w9.heap.size w9 X1:=by rw [← hX1];exact balloc (Below.refl _ _) _
     have HOL1:=Lib.hid (show Ow w5.heap.size 100 1 svC X1 (.slice sA l.length sc) l from hl2.on xb)
     have HS1:=Lib.hid (show Sl 1 svC X1 X1.heap.size (some ⟨w9.heap.size,0,none⟩) [(⟨rs.A,rr.length,rs.c⟩:SV)] by rw [← hX1];exact Row.sl' (t:=100) svC_length ((Row.new w9 _ _).of rfl))
     have HGX1:=Lib.hid (HGX.out.on xb)
     have HBX1:=Lib.hid (HBX.out.on xb)
     have HXX1:=Lib.hid (bch HXX.out xb)
     have hlo1:w5.heap.size ≤ X1.heap.size:=HXX1.out.size
     have HX1:=Lib.hid hX1
     have HJ:=Lib.hid (And.intro hvj (And.intro hgj (And.intro hl3 (And.intro hl4 hjv))))
     have Hpos:=Lib.hid hpos
     have gc1:X1.cell? ⟨gg,j,none⟩=some (.slice sA l.length sc):=(xb.cell (p:=⟨gg,j,none⟩) hgg2).trans gc
     clear hX1 xb hvj hgj hsj hbj hl2 hl3 hl4 hpos hcs hgty hjv hjg hgg1
     go_wp2_with (at_builtin;rw [HX1.out];refine wpList_app2 rfl (.tmp 49) (.tmp 51) 30 rfl w5.heap.size 100 _ 1 24 svC Tryz.underlying30 zeroRowS rfl (by decide) (by decide) svC_length svC_one (.slice sA l.length sc) l rfl HOL1.out (some ⟨w9.heap.size,0,none⟩) 1 1 [(⟨rs.A,rr.length,rs.c⟩:SV)] rfl rfl HS1.out (by simp only [List.length_singleton];omega) hlo1 ?_;intro v2 x2 hown2 hgr2 hob2;have hG2:=HGX1.out.apart2 (S:=fun b=>(Value.slice sA l.length sc).ownBlock=some b) ((Only.refl _).grown hgr2 fun q e=>.inl e) (fun b hb hS=>TyAt.ne (HGX1.out.ty b hb).2.2 (HOL1.out.ty b hS).2.2 (by decide) rfl);obtain ⟨gq,hAq,hnn2,_,hlt2,hty2,hfz,hcs2⟩:=hG2.head svC_length Hpos.out;cases hAq;clear hnn2;have fz:=hfz j;have gc2:x2.cell? ⟨gg,j,none⟩=some (.slice sA l.length sc):=hcs2 j _ (by have:=flat_get 1 svC svC_length (vs ++ [(⟨none,0,0⟩:SV)]) j ⟨sA,l.length,sc⟩ 0 (.slice sA l.length sc) HJ.out.1 rfl;simpa using this);obtain ⟨A2,c2,hv2,hc21,hc22,_⟩:=hown2.shape svC_length;have hln:(l ++ [(⟨rs.A,rr.length,rs.c⟩:SV)]).length=l.length + 1:=(by simp);rw [hln] at hv2;subst hv2;have HK2:=Lib.hid (And.intro hown2 (And.intro hgr2 (And.intro hob2 (And.intro hG2 (And.intro hty2 hlt2)))));clear hown2 hgr2 hob2 hG2 hty2 hfz hcs2 hc21 hc22 hln)
     go_roundg (n - (i + 1))
     case measure=>omega
     case rel=>
      obtain ⟨hown2,hgr2,hob2,hG2,hty2,hlt2⟩:=HK2.out
      obtain ⟨hvj,hgj,hl3,hl4,hjv⟩:=HJ.out
      obtain ⟨gh,hAh,_,_,_,_,_,_⟩:=hown2.head svC_length (by simp)
      have hln:(l ++ [(⟨rs.A,rr.length,rs.c⟩:SV)]).length=l.length + 1:=by simp
      subst hAh
      have hput:=HBX1.out.put hvj hgj hl3 hl4 (sv:=⟨rs.A,rr.length,rs.c⟩) (r:=rr) ⟨rfl,HSV.out.2.1,HSV.out.2.2.1,HSV.out.2.2.2⟩ (by rw [hln];exact hown2) hgr2 (by
       rcases hob2 with h1 | h1
       ·exact .inl h1.symm
       ·have h1:some gh=some X1.heap.size:=h1
        injection h1 with h1
        exact .inr h1)
      rw [hln] at hput
      have hst:=hG2.put j (.slice (some ⟨gh,0,none⟩) (l.length + 1) c2)
      rw [flat_setS _ j ⟨some ⟨gh,0,none⟩,l.length + 1,c2⟩ hjv] at hst
      refine ⟨i + 1,(vs ++ [(⟨none,0,0⟩:SV)]).set j ⟨some ⟨gh,0,none⟩,l.length + 1,c2⟩,by omega,rfl,by go_num,by unfold Ow;rw [List.length_set];exact hst,?_,((HXX1.out.grown hgr2 hlo1 fun q hq=>(HOL1.out.ty q hq).1).setCell (p:=⟨gg,j,none⟩) (HGX.out.ty gg rfl).1 _)⟩
      rw [HADJ.out,HLG2.out,List.getD_eq_getElem?_getD,hgj]
      exact hput.keep fun b _ _ hb=>Below.heap_setCell _ _ _ _ (TyAt.ne hb hty2 (by decide))
    ·have hi0b:((i:Int) == 0)=false:=by simp [hi0]
     obtain ⟨m,hm⟩:∃ m,i=m + 1:=⟨i - 1,by omega⟩
     have hmn:m < n:=by omega
     obtain ⟨ps,pr,hcp,hsp,hpS,hpv⟩:=HQ5.out m hmn
     have c1:wr.cell? ⟨g,m,none⟩=some (.slice ps.A pr.length ps.c):=(HR.out.2.2.cell (p:=⟨g,m,none⟩) hg5).trans hcp
     have hwm:IntKind.i64.wrap ((i:Int) - 1)=(m:Int):=by rw [show (i:Int) - 1=(m:Int) from by omega];exact IntWalk.i64_in _ (by omega)
     have hmI:(m:Int) < (n:Int):=by omega
     have hmI0:(0:Int) ≤ (m:Int):=by omega
     obtain ⟨R,hR⟩:∃ R,keyCmp cols pr rr=R:=⟨_,rfl⟩
     have hKC:=grpCmp_ok A' ps.A rs.A c' ps.c rs.c kb pr rr cols wr (rowValid_len hpS.1.1).2 hr6 (by omega) (fun q hq=>by have:=HC.out q hq;have hpr:(pr.length:Int)=W:=hpS.1.2;omega) (fun q hq=>by have:=HC.out q hq;have:=hro.out.2;omega) (R2.out.on (bch H25.out HR.out.2.2)) (hpv.2.2.2.on (bch (bch B20.out H25.out) HR.out.2.2)) (HSV.out.2.2.2.on (bch (bch B20.out H25.out) HR.out.2.2)) (HIN.out wr (bch H25.out HR.out.2.2))
     rw [hR] at hKC
     have HKC:=Lib.hid hKC
     have hgd:(gSort (keyCmp cols) rows).getD (i - 1) []=pr:=by rw [hm,Nat.add_sub_cancel,List.getD_eq_getElem?_getD,hsp];rfl
     have hz0:R=0 ↔ pickR cols pr=pickR cols rr:=by rw [← hR];exact keyCmp_zero (keyS_of hpS.1 HC.out) (keyS_of hro.out HC.out)
     have hi00:¬ i=0:=hi0
     have HM:=Lib.hid (And.intro hgd (And.intro hz0 (And.intro hm hi00)))
     clear hcp hsp hpS hpv hR hKC hgd hz0 hm hi0 hi00 hmn
     by_cases hR0:R=0
     ·have hRI:(R != 0)=false:=by simp [hR0]
      have HADJ:=Lib.hid (show adjN cols (gSort (keyCmp cols) rows) (i + 1)=(adjN cols (gSort (keyCmp cols) rows) i).set ((adjN cols (gSort (keyCmp cols) rows) i).length - 1) ((adjN cols (gSort (keyCmp cols) rows) i).getD ((adjN cols (gSort (keyCmp cols) rows) i).length - 1) [] ++ [rr]) from by
       conv=>lhs;unfold adjN
       rw [HSX.out]
       dsimp only
       rw [HM.out.1,if_neg (by
        rintro (h | h)
        ·exact HM.out.2.2.2 h
        ·exact h (HM.out.2.1.1 hR0))])
      have hvp:0 < vs.length:=by have h1:=HVL.out;have h2:=HAL.out.2 (by have:=HM.out.2.2.1;omega);omega
      subst hR0
      go_wp2_with fail
      refine HKC.out.mono ?_
      rintro e w8 ⟨rfl,hb8⟩
      have HGX:=Lib.hid (HR.out.1.on hb8)
      have HBX:=Lib.hid (HR.out.2.1.on hb8)
      have HXX:=Lib.hid (bch HR.out.2.2 hb8)
      obtain ⟨nV,hnV⟩:∃ n,vs.length=n:=⟨_,rfl⟩
      rw [hnV] at HGX hvp hvl4 ⊢
      obtain ⟨j,hj⟩:∃ j,nV=j + 1:=⟨nV - 1,by omega⟩
      have hwj:IntKind.i64.wrap ((nV:Int) - 1)=(j:Int):=by rw [show (nV:Int) - 1=(j:Int) from by omega];exact IntWalk.i64_in _ (by omega)
      have HLV:=Lib.hid hnV
      have HLG:=Lib.hid (HLGO.out i)
      have HLG2:=Lib.hid (show (adjN cols (gSort (keyCmp cols) rows) i).length - 1=j by have:=HVL.out;omega)
      clear hb8 hnV c1
      have hjI:(j:Int) < (nV:Int):=by omega
      have hjI0:(0:Int) ≤ (j:Int):=by omega
      have HJN:=Lib.hid hj
      clear hj
      have hjv:j < (vs).length:=by have:=HJN.out;rw [HLV.out];omega
      have hvj:=List.getElem?_eq_getElem hjv
      obtain ⟨⟨sA,sn,sc⟩,hsj⟩:∃ p,(vs)[j]=p:=⟨_,rfl⟩
      rw [hsj] at hvj
      have hjg:j < (adjN cols (gSort (keyCmp cols) rows) i).length:=by have:=HBX.out.len;omega
      have hgj:=List.getElem?_eq_getElem hjg
      obtain ⟨bj,hbj⟩:∃ p,(adjN cols (gSort (keyCmp cols) rows) i)[j]=p:=⟨_,rfl⟩
      rw [hbj] at hgj
      obtain ⟨l,hl1,hl2,hl3,hl4⟩:=HBX.out.own j _ _ hvj hgj
      have hl1:sn=l.length:=hl1
      subst hl1
      have hpos:0 < (vs).length:=by omega
      obtain ⟨gg,hAg,hnn1,hgg1,hgg2,hgty,_,hcs⟩:=HGX.out.head svC_length hpos
      subst hAg
      clear hnn1
      have gc:w8.cell? ⟨gg,j,none⟩=some (.slice sA l.length sc):=hcs j _ (by
       have:=flat_get 1 svC svC_length (vs) j ⟨sA,l.length,sc⟩ 0 (.slice sA l.length sc) hvj rfl
       simpa using this)
      have hl400:l.length ≤ 400:=by rw [hl3];exact HLG.out bj (List.mem_of_getElem? hgj)
      obtain ⟨X1,hX1⟩:∃ z,w8.alloc (.cells #[.slice rs.A rr.length rs.c] 100)=z:=⟨_,rfl⟩
      have xb:Below w8.heap.size w8 X1:=by rw [← hX1];exact balloc (Below.refl _ _) _
      have HOL1:=Lib.hid (show Ow w5.heap.size 100 1 svC X1 (.slice sA l.length sc) l from hl2.on xb)
      have HS1:=Lib.hid (show Sl 1 svC X1 X1.heap.size (some ⟨w8.heap.size,0,none⟩) [(⟨rs.A,rr.length,rs.c⟩:SV)] by rw [← hX1];exact Row.sl' (t:=100) svC_length ((Row.new w8 _ _).of rfl))
      have HGX1:=Lib.hid (HGX.out.on xb)
      have HBX1:=Lib.hid (HBX.out.on xb)
      have HXX1:=Lib.hid (bch HXX.out xb)
      have hlo1:w5.heap.size ≤ X1.heap.size:=HXX1.out.size
      have HX1:=Lib.hid hX1
      have HJ:=Lib.hid (And.intro hvj (And.intro hgj (And.intro hl3 (And.intro hl4 hjv))))
      have Hpos:=Lib.hid hpos
      have gc1:X1.cell? ⟨gg,j,none⟩=some (.slice sA l.length sc):=(xb.cell (p:=⟨gg,j,none⟩) hgg2).trans gc
      clear hX1 xb hvj hgj hsj hbj hl2 hl3 hl4 hpos hcs hgty hjv hjg hgg1
      go_wp2_with (at_builtin;rw [HX1.out];refine wpList_app2 rfl (.tmp 49) (.tmp 51) 30 rfl w5.heap.size 100 _ 1 24 svC Tryz.underlying30 zeroRowS rfl (by decide) (by decide) svC_length svC_one (.slice sA l.length sc) l rfl HOL1.out (some ⟨w8.heap.size,0,none⟩) 1 1 [(⟨rs.A,rr.length,rs.c⟩:SV)] rfl rfl HS1.out (by simp only [List.length_singleton];omega) hlo1 ?_;intro v2 x2 hown2 hgr2 hob2;have hG2:=HGX1.out.apart2 (S:=fun b=>(Value.slice sA l.length sc).ownBlock=some b) ((Only.refl _).grown hgr2 fun q e=>.inl e) (fun b hb hS=>TyAt.ne (HGX1.out.ty b hb).2.2 (HOL1.out.ty b hS).2.2 (by decide) rfl);obtain ⟨gq,hAq,hnn2,_,hlt2,hty2,hfz,hcs2⟩:=hG2.head svC_length Hpos.out;cases hAq;clear hnn2;have fz:=hfz j;have gc2:x2.cell? ⟨gg,j,none⟩=some (.slice sA l.length sc):=hcs2 j _ (by have:=flat_get 1 svC svC_length (vs) j ⟨sA,l.length,sc⟩ 0 (.slice sA l.length sc) HJ.out.1 rfl;simpa using this);obtain ⟨A2,c2,hv2,hc21,hc22,_⟩:=hown2.shape svC_length;have hln:(l ++ [(⟨rs.A,rr.length,rs.c⟩:SV)]).length=l.length + 1:=(by simp);rw [hln] at hv2;subst hv2;have HK2:=Lib.hid (And.intro hown2 (And.intro hgr2 (And.intro hob2 (And.intro hG2 (And.intro hty2 hlt2)))));clear hown2 hgr2 hob2 hG2 hty2 hfz hcs2 hc21 hc22 hln)
      go_roundg (n - (i + 1))
      case measure=>omega
      case rel=>
       obtain ⟨hown2,hgr2,hob2,hG2,hty2,hlt2⟩:=HK2.out
       obtain ⟨hvj,hgj,hl3,hl4,hjv⟩:=HJ.out
       obtain ⟨gh,hAh,_,_,_,_,_,_⟩:=hown2.head svC_length (by simp)
       have hln:(l ++ [(⟨rs.A,rr.length,rs.c⟩:SV)]).length=l.length + 1:=by simp
       subst hAh
       have hput:=HBX1.out.put hvj hgj hl3 hl4 (sv:=⟨rs.A,rr.length,rs.c⟩) (r:=rr) ⟨rfl,HSV.out.2.1,HSV.out.2.2.1,HSV.out.2.2.2⟩ (by rw [hln];exact hown2) hgr2 (by
        rcases hob2 with h1 | h1
        ·exact .inl h1.symm
        ·have h1:some gh=some X1.heap.size:=h1
         injection h1 with h1
         exact .inr h1)
       rw [hln] at hput
       have hst:=hG2.put j (.slice (some ⟨gh,0,none⟩) (l.length + 1) c2)
       rw [flat_setS _ j ⟨some ⟨gh,0,none⟩,l.length + 1,c2⟩ hjv] at hst
       refine ⟨i + 1,(vs).set j ⟨some ⟨gh,0,none⟩,l.length + 1,c2⟩,by omega,rfl,by go_num,by unfold Ow;rw [List.length_set];exact hst,?_,((HXX1.out.grown hgr2 hlo1 fun q hq=>(HOL1.out.ty q hq).1).setCell (p:=⟨gg,j,none⟩) (HGX.out.ty gg rfl).1 _)⟩
       rw [HADJ.out,HLG2.out,List.getD_eq_getElem?_getD,hgj]
       exact hput.keep fun b _ _ hb=>Below.heap_setCell _ _ _ _ (TyAt.ne hb hty2 (by decide))
     ·have hRI:(R != 0)=true:=by simp [hR0]
      have HADJ:=Lib.hid (show adjN cols (gSort (keyCmp cols) rows) (i + 1)=(adjN cols (gSort (keyCmp cols) rows) i ++ [[]]).set ((adjN cols (gSort (keyCmp cols) rows) i ++ [[]]).length - 1) ((adjN cols (gSort (keyCmp cols) rows) i ++ [[]]).getD ((adjN cols (gSort (keyCmp cols) rows) i ++ [[]]).length - 1) [] ++ [rr]) from by
       conv=>lhs;unfold adjN
       rw [HSX.out]
       dsimp only
       rw [HM.out.1,if_pos (.inr fun h=>hR0 (HM.out.2.1.2 h))])
      clear hR0
      go_wp2_with fail
      refine HKC.out.mono ?_
      rintro e wz ⟨rfl,hb8⟩
      have HZR:=Lib.hid (show Ow w5.heap.size 30 1 svC wz (.slice A8 vs.length c8) vs ∧ Bks2 w5.heap.size w0 wz vs (adjN cols (gSort (keyCmp cols) rows) i) ∧ Below w5.heap.size w5 wz from ⟨HR.out.1.on hb8,HR.out.2.1.on hb8,bch HR.out.2.2 hb8⟩)
      clear hb8 c1
      obtain ⟨P1,hP1⟩:∃ z,wz.alloc (.cells #[.slice none 0 0] 30)=z:=⟨_,rfl⟩
      have p1:Below wz.heap.size wz P1:=by rw [← hP1];exact balloc (Below.refl _ _) _
      have HGP:=Lib.hid (HZR.out.1.on p1)
      have HBP:=Lib.hid (HZR.out.2.1.on p1)
      have HXP:=Lib.hid (bch HZR.out.2.2 p1)
      have HSP:=Lib.hid (show Sl 1 svC P1 P1.heap.size (some ⟨wz.heap.size,0,none⟩) [(⟨none,0,0⟩:SV)] by rw [← hP1];exact Row.sl' (t:=30) svC_length ((Row.new wz _ _).of rfl))
      have hloP:w5.heap.size ≤ P1.heap.size:=HXP.out.size
      have HP1:=Lib.hid hP1
      clear hP1 p1
      go_upto_region 10 with (at_builtin;rw [HP1.out];refine wpList_app2 rfl (.tmp 38) (.tmp 39) 146 rfl w5.heap.size 30 _ 1 24 svC Tryz.underlying146 zeroBkG rfl (by decide) (by decide) svC_length svC_one (.slice A8 vs.length c8) vs rfl HGP.out (some ⟨wz.heap.size,0,none⟩) 1 1 [(⟨none,0,0⟩:SV)] rfl rfl HSP.out (by simp only [List.length_singleton];omega) hloP ?_;intro v1 w9 hown1 hgr1 hob1)
      have HBX:=Lib.hid (show Bks2 w5.heap.size w0 w9 (vs ++ [⟨none,0,0⟩]) (adjN cols (gSort (keyCmp cols) rows) i ++ [[]]) from (HBP.out.keep fun b _ hl ht=>hgr1.block b hl fun e=>TyAt.ne ht (HGP.out.ty b e.symm).2.2 (by decide) rfl).snocNil)
      have HXX:=Lib.hid (HXP.out.grown hgr1 hloP fun q hq=>(HGP.out.ty q hq).1)
      obtain ⟨A9,c9,hv1,hc91,hc92,_⟩:=hown1.shape svC_length
      obtain ⟨nV,hnV⟩:∃ n,(vs ++ [(⟨none,0,0⟩:SV)]).length=n:=⟨_,rfl⟩
      rw [hnV] at hv1
      subst hv1
      have HGX:=Lib.hid hown1
      obtain ⟨j,hj0⟩:∃ j,vs.length=j:=⟨_,rfl⟩
      have hj:nV=j + 1:=by rw [← hnV,List.length_append,hj0];rfl
      have hnV4:j ≤ 400:=by omega
      have hwj:IntKind.i64.wrap ((nV:Int) - 1)=(j:Int):=by rw [show (nV:Int) - 1=(j:Int) from by omega];exact IntWalk.i64_in _ (by omega)
      have HLV:=Lib.hid hnV
      have HLG:=Lib.hid (show ∀ b ∈ adjN cols (gSort (keyCmp cols) rows) i ++ [[]],b.length ≤ 400 from fun b hb=>by
       rcases List.mem_append.1 hb with hb | hb
       ·exact HLGO.out i b hb
       ·simp at hb;subst hb;simp)
      have HLG2:=Lib.hid (show (adjN cols (gSort (keyCmp cols) rows) i ++ [[]]).length - 1=j by rw [List.length_append,← HVL.out,hj0];rfl)
      clear hown1 hgr1 hob1 hc91 hc92 hnV hj0
      have hjI:(j:Int) < (nV:Int):=by omega
      have hjI0:(0:Int) ≤ (j:Int):=by omega
      have HJN:=Lib.hid hj
      clear hj
      have hjv:j < (vs ++ [(⟨none,0,0⟩:SV)]).length:=by have:=HJN.out;rw [HLV.out];omega
      have hvj:=List.getElem?_eq_getElem hjv
      obtain ⟨⟨sA,sn,sc⟩,hsj⟩:∃ p,(vs ++ [(⟨none,0,0⟩:SV)])[j]=p:=⟨_,rfl⟩
      rw [hsj] at hvj
      have hjg:j < (adjN cols (gSort (keyCmp cols) rows) i ++ [[]]).length:=by have:=HBX.out.len;omega
      have hgj:=List.getElem?_eq_getElem hjg
      obtain ⟨bj,hbj⟩:∃ p,(adjN cols (gSort (keyCmp cols) rows) i ++ [[]])[j]=p:=⟨_,rfl⟩
      rw [hbj] at hgj
      obtain ⟨l,hl1,hl2,hl3,hl4⟩:=HBX.out.own j _ _ hvj hgj
      have hl1:sn=l.length:=hl1
      subst hl1
      have hpos:0 < (vs ++ [(⟨none,0,0⟩:SV)]).length:=by omega
      obtain ⟨gg,hAg,hnn1,hgg1,hgg2,hgty,_,hcs⟩:=HGX.out.head svC_length hpos
      subst hAg
      clear hnn1
      have gc:w9.cell? ⟨gg,j,none⟩=some (.slice sA l.length sc):=hcs j _ (by
       have:=flat_get 1 svC svC_length (vs ++ [(⟨none,0,0⟩:SV)]) j ⟨sA,l.length,sc⟩ 0 (.slice sA l.length sc) hvj rfl
       simpa using this)
      have hl400:l.length ≤ 400:=by rw [hl3];exact HLG.out bj (List.mem_of_getElem? hgj)
      obtain ⟨X1,hX1⟩:∃ z,w9.alloc (.cells #[.slice rs.A rr.length rs.c] 100)=z:=⟨_,rfl⟩
      have xb:Below w9.heap.size w9 X1:=by rw [← hX1];exact balloc (Below.refl _ _) _
      have HOL1:=Lib.hid (show Ow w5.heap.size 100 1 svC X1 (.slice sA l.length sc) l from hl2.on xb)
      have HS1:=Lib.hid (show Sl 1 svC X1 X1.heap.size (some ⟨w9.heap.size,0,none⟩) [(⟨rs.A,rr.length,rs.c⟩:SV)] by rw [← hX1];exact Row.sl' (t:=100) svC_length ((Row.new w9 _ _).of rfl))
      have HGX1:=Lib.hid (HGX.out.on xb)
      have HBX1:=Lib.hid (HBX.out.on xb)
      have HXX1:=Lib.hid (bch HXX.out xb)
      have hlo1:w5.heap.size ≤ X1.heap.size:=HXX1.out.size
      have HX1:=Lib.hid hX1
      have HJ:=Lib.hid (And.intro hvj (And.intro hgj (And.intro hl3 (And.intro hl4 hjv))))
      have Hpos:=Lib.hid hpos
      have gc1:X1.cell? ⟨gg,j,none⟩=some (.slice sA l.length sc):=(xb.cell (p:=⟨gg,j,none⟩) hgg2).trans gc
      clear hX1 xb hvj hgj hsj hbj hl2 hl3 hl4 hpos hcs hgty hjv hjg hgg1
      go_wp2_with (at_builtin;rw [HX1.out];refine wpList_app2 rfl (.tmp 49) (.tmp 51) 30 rfl w5.heap.size 100 _ 1 24 svC Tryz.underlying30 zeroRowS rfl (by decide) (by decide) svC_length svC_one (.slice sA l.length sc) l rfl HOL1.out (some ⟨w9.heap.size,0,none⟩) 1 1 [(⟨rs.A,rr.length,rs.c⟩:SV)] rfl rfl HS1.out (by simp only [List.length_singleton];omega) hlo1 ?_;intro v2 x2 hown2 hgr2 hob2;have hG2:=HGX1.out.apart2 (S:=fun b=>(Value.slice sA l.length sc).ownBlock=some b) ((Only.refl _).grown hgr2 fun q e=>.inl e) (fun b hb hS=>TyAt.ne (HGX1.out.ty b hb).2.2 (HOL1.out.ty b hS).2.2 (by decide) rfl);obtain ⟨gq,hAq,hnn2,_,hlt2,hty2,hfz,hcs2⟩:=hG2.head svC_length Hpos.out;cases hAq;clear hnn2;have fz:=hfz j;have gc2:x2.cell? ⟨gg,j,none⟩=some (.slice sA l.length sc):=hcs2 j _ (by have:=flat_get 1 svC svC_length (vs ++ [(⟨none,0,0⟩:SV)]) j ⟨sA,l.length,sc⟩ 0 (.slice sA l.length sc) HJ.out.1 rfl;simpa using this);obtain ⟨A2,c2,hv2,hc21,hc22,_⟩:=hown2.shape svC_length;have hln:(l ++ [(⟨rs.A,rr.length,rs.c⟩:SV)]).length=l.length + 1:=(by simp);rw [hln] at hv2;subst hv2;have HK2:=Lib.hid (And.intro hown2 (And.intro hgr2 (And.intro hob2 (And.intro hG2 (And.intro hty2 hlt2)))));clear hown2 hgr2 hob2 hG2 hty2 hfz hcs2 hc21 hc22 hln)
      go_roundg (n - (i + 1))
      case measure=>omega
      case rel=>
       obtain ⟨hown2,hgr2,hob2,hG2,hty2,hlt2⟩:=HK2.out
       obtain ⟨hvj,hgj,hl3,hl4,hjv⟩:=HJ.out
       obtain ⟨gh,hAh,_,_,_,_,_,_⟩:=hown2.head svC_length (by simp)
       have hln:(l ++ [(⟨rs.A,rr.length,rs.c⟩:SV)]).length=l.length + 1:=by simp
       subst hAh
       have hput:=HBX1.out.put hvj hgj hl3 hl4 (sv:=⟨rs.A,rr.length,rs.c⟩) (r:=rr) ⟨rfl,HSV.out.2.1,HSV.out.2.2.1,HSV.out.2.2.2⟩ (by rw [hln];exact hown2) hgr2 (by
        rcases hob2 with h1 | h1
        ·exact .inl h1.symm
        ·have h1:some gh=some X1.heap.size:=h1
         injection h1 with h1
         exact .inr h1)
       rw [hln] at hput
       have hst:=hG2.put j (.slice (some ⟨gh,0,none⟩) (l.length + 1) c2)
       rw [flat_setS _ j ⟨some ⟨gh,0,none⟩,l.length + 1,c2⟩ hjv] at hst
       refine ⟨i + 1,(vs ++ [(⟨none,0,0⟩:SV)]).set j ⟨some ⟨gh,0,none⟩,l.length + 1,c2⟩,by omega,rfl,by go_num,by unfold Ow;rw [List.length_set];exact hst,?_,((HXX1.out.grown hgr2 hlo1 fun q hq=>(HOL1.out.ty q hq).1).setCell (p:=⟨gg,j,none⟩) (HGX.out.ty gg rfl).1 _)⟩
       rw [HADJ.out,HLG2.out,List.getD_eq_getElem?_getD,hgj]
       exact hput.keep fun b _ _ hb=>Below.heap_setCell _ _ _ _ (TyAt.ne hb hty2 (by decide))
   ·have hiI:¬ (i:Int) < (n:Int):=by omega
    have hie:i=rows.length:=by have h1:=HNN.out.1;have h2:=HNN.out.2;omega
    have HIE:=Lib.hid hie
    clear hie
    go_wp2
    go_ret
    have hbk:=HR.out.2.1
    rw [HIE.out] at hbk
    exact ⟨_,vs,w5,rfl,bch B2.out H25.out,HR.out.2.2,HR.out.1,hbk⟩
end Go.Proofs.YtcbfbgngkdiijaaGreat

namespace Go.Proofs.YtcbfbgngkdiijaaGreat
open Go.RowKit Go.Qo
set_option linter.unusedVariables false
set_option linter.unusedSimpArgs false
attribute [local go_sem] Oper.semAt_some

theorem wpIn_app2 {F:Fence} {n:Nat} {P:Program} {w:World} {o:Oper} {a:Act} {K:Act → World → Prop} {Q:Exit → Act → World → Prop} (s x:Operand) (t:TypeId)
 (ho:o.op=.call { callee:=.builtin .append,args:=#[s,x],argTypes:=#[t,t] })
 {α:Type} (lo:Nat) (e:TypeId) (z:Value) (sz bytes:Nat) (enc:α → List Value) (ht:P.underlying t=some (.slice e)) (hi:(P.info? e).map (fun i=>(i.zero,i.size,i.bytes))=some (some z,sz,bytes))
 (hzs:z.cells.size=sz) (hsz:0 < sz) (hby:bytes ≤ 64) (he:∀ x,(enc x).length=sz) (h1:∀ x,∀ u ∈ enc x,u.oneCell'=true)
 (v:Value) (xs:List α) (hs:a.eval s=v) (hown:Ow lo e sz enc w v xs)
 (A:Option Addr) (m c:Nat) (ys:List α) (hx:a.eval x=.slice A m c) (hm:m=ys.length) (hy:Sl sz enc w w.heap.size A ys)
 (hlen:xs.length + ys.length ≤ 1099511627776) (hlo:lo ≤ w.heap.size)
 (h:∀ v' w',Ow lo e sz enc w' v' (xs ++ ys) → w.grownBy w' v.ownBlock → (v'.ownBlock=v.ownBlock ∨ v'.ownBlock=some w.heap.size) → K (a.put o.dst v') w'):Oper.wpIn F n P o a w K Q:=by
 obtain ⟨v',w',hrun,h2,h3,h4⟩:=run_app2 (P:=P) t o.type lo e z sz bytes enc ht hi hzs hsz hby he h1 v xs hown A m c ys hm hy hlen hlo
 refine ⟨by simp [Oper.about,ho,resolve,Target.leads,Sem.run_pure],?_⟩
 rw [Oper.semAt_plain F _ _ (by rw [ho];intro c hc';cases hc')]
 simp [execOp,ho,resolve,invoke,builtin,hs,hx,hrun,Result.andThen]
 exact h v' w' h2 h3 h4
theorem keepBelowG {w z wr:World} {E:Nat → Prop} (h:Below w.heap.size w z) (k:KeepE w.heap.size E z wr):Below w.heap.size w wr:=Only.from_ h rfl k fun _ hi=>hi.1
theorem keepCellG {n₀:Nat} {E:Nat → Prop} {X Y:World} (k:KeepE n₀ E X Y) {b o:Nat} (hb:b < X.heap.size) (hE:E b):Y.cell? ⟨b,o,none⟩=X.cell? ⟨b,o,none⟩:=by
 have h:=k.block b hb fun h=>h.2 hE
 simp only [World.cell?,h]
theorem enterG (z z2:World):Fresh (fun _=>False) (fun i=>z.heap.size ≤ i ∧ i < z2.heap.size) z z2:=fun i hi=>⟨.inr hi.1,hi.2⟩
theorem stayG {E:Nat → Prop} {X Y:World} (h:∀ i,E i → i < Y.heap.size):Fresh E E X Y:=fun i hi=>⟨.inl hi,h i hi⟩
theorem adjN_small2 (cols:List Int) (s:List Row1):∀ n:Nat,(adjN cols s n).length ≤ n
 | 0=>by simp [adjN]
 | n + 1=>by
   have ih:=adjN_small2 cols s n
   unfold adjN
   split
   ·omega
   ·dsimp only
    rw [List.length_set]
    split
    ·simp;omega
    ·omega
theorem adj_ne {cols:List Int} {rows:List Row1} (hS:∀ r ∈ rows,KeyS cols r):∀ b ∈ adjN cols (gSort (keyCmp cols) rows) rows.length,b ≠ [] ∧ ∀ r ∈ b,r ∈ rows:=fun b hb=>by
 have C:=keyCm cols
 have hp:=gSort_perm C hS
 have hl:(gSort (keyCmp cols) rows).length=rows.length:=gSort_length rows
 have ha:=(adjN_spec (fun r hr=>hS r (hp.mem_iff.1 hr)) (gSort_ord C hS) rows.length (by omega)).1
 rw [List.take_of_length_le (by omega)] at ha
 rw [ha] at hb
 obtain ⟨k,hk,rfl⟩:=List.mem_map.1 hb
 obtain ⟨r,hr,he⟩:=mem_keysOf.1 hk
 refine ⟨fun h0=>?_,fun q hq=>hp.mem_iff.1 (List.mem_filter.1 hq).1⟩
 have:r ∈ inG cols k (gSort (keyCmp cols) rows):=by unfold inG;rw [List.mem_filter];exact ⟨hr,by simpa using he⟩
 rw [h0] at this
 cases this
def grF (cols:List Int) (col kind:Int) (g:List Row1):Row1:=pickR cols (g.headD []) ++ [aggF kind (valG col g)]
theorem grF_ok {W:Int} {cols:List Int} {cl kind:Int} {g:List Row1} (hg:g ≠ []) (hr:∀ r ∈ g,RowOk W r) (hc:∀ c ∈ cols,0 ≤ c ∧ c < W) (hcl:0 ≤ cl ∧ cl < W) (hl:cols.length < 6):RowOk ((cols.length:Int) + 1) (grF cols cl kind g):=by
 cases g with
 | nil=>exact absurd rfl hg
 | cons q qs=>
   have hq:=hr q (by simp)
   have hval:∀ r,RowOk W r → ∀ c,0 ≤ c ∧ c < W → vValid (getV r c)=true:=fun r hr c hc=>by
    have hlt:c.toNat < r.length:=by have:=hr.2;omega
    unfold getV
    rw [List.getD_eq_getElem?_getD,List.getElem?_eq_getElem hlt]
    exact hr.vals _ (List.getElem_mem hlt)
   have hlen:(grF cols cl kind (q :: qs)).length=cols.length + 1:=by unfold grF;simp [pickR]
   refine ⟨?_,by rw [hlen];simp⟩
   unfold rowValid
   rw [hlen]
   simp only [Bool.and_eq_true,decide_eq_true_eq,List.all_eq_true]
   refine ⟨⟨by omega,by omega⟩,fun x hx=>?_⟩
   unfold grF at hx
   rcases List.mem_append.1 hx with h | h
   ·obtain ⟨c,hcm,rfl⟩:=List.mem_map.1 h
    exact hval q hq c (hc c hcm)
   ·simp at h
    subst h
    refine aggF_valid fun v hv=>?_
    obtain ⟨r,hrm,rfl⟩:=List.mem_map.1 hv
    exact hval r (hr r hrm) cl hcl

end Go.Proofs.YtcbfbgngkdiijaaGreat

namespace Go.Proofs.YtcbfbgngkdiijaaGreat
open Go.RowKit Go.Qo
set_option linter.unusedVariables false
set_option linter.unusedSimpArgs false

theorem TabRes.perm {q:Bool} {W:Int} {a b:List Row1} {w w':World} {e:Ending} (h:TabRes q W a w e w') (hp:a.Perm b):TabRes q W b w e w':=by
 obtain ⟨W1,v,cp,he,hc,r⟩:=h
 refine ⟨W1,v,cp,he,?_,r⟩
 rcases hc with hc | ⟨h1,h2,h3⟩
 ·exact .inl hc
 ·refine .inr ⟨h1,h2,?_⟩
  rw [← hp.length_eq]
  split
  ·rename_i hl;rw [if_pos hl] at h3;exact ⟨h3.1.trans hp,h3.2⟩
  ·rename_i hl;rw [if_neg hl] at h3;exact h3
end Go.Proofs.YtcbfbgngkdiijaaGreat
