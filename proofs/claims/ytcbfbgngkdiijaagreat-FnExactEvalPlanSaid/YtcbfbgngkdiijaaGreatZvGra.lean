import Derived.Test.YtcbfbgngkdiijaaGreatZvPln
import Derived.Test.YtcbfbgngkdiijaaGreatZvGf
import Derived.Test.YtcbfbgngkdiijaaGreatProg
import Derived.Test.YtcbfbgngkdiijaaGreatZvTbg
import Derived.Deep.CutBlock
import Derived.Deep.DeepCutAuto
import Derived.Test.YtcbfbgngkdiijaaGreatZvGd
import Derived.Test.YtcbfbgngkdiijaaGreatZvGa
import Derived.Test.YtcbfbgngkdiijaaGreatZvRgG
namespace Go.Qo
set_option linter.unusedVariables false
set_option linter.unusedSimpArgs false

theorem snocInd {α:Type} {P:List α → Prop} (h0:P []) (hs:∀ l x,P l → P (l ++ [x])) (l:List α):P l:=by
 have:∀ n,P (l.take n):=fun n=>by
  induction n with
  | zero=>rw [List.take_zero];exact h0
  | succ n ih=>
    rw [List.take_add_one]
    cases h:l[n]? with
    | none=>simpa using ih
    | some x=>exact hs _ _ ih
 have h:=this l.length
 rwa [List.take_length] at h
def pickR (cols:List Int) (r:Row1):Row1:=cols.map (getV r)
def keysOf (cols:List Int) (l:List Row1):List Row1:=l.foldl (fun ks r=>if pickR cols r ∈ ks then ks else ks ++ [pickR cols r]) []
def inG (cols:List Int) (key:Row1) (l:List Row1):List Row1:=l.filter fun r=>pickR cols r=key
def valG (col:Int) (l:List Row1):List Val:=l.map fun r=>getV r col
def grpRow (cols:List Int) (col kind:Int) (l:List Row1) (key:Row1):Row1:=key ++ [aggF kind (valG col (inG cols key l))]
def grpRows (cols:List Int) (col kind:Int) (l:List Row1):List Row1:=(keysOf cols l).map (grpRow cols col kind l)
theorem keysOf_snoc (cols:List Int) (l:List Row1) (r:Row1):keysOf cols (l ++ [r])=if pickR cols r ∈ keysOf cols l then keysOf cols l else keysOf cols l ++ [pickR cols r]:=by
 unfold keysOf;rw [List.foldl_append];rfl
theorem inG_snoc (cols:List Int) (key:Row1) (l:List Row1) (r:Row1):inG cols key (l ++ [r])=if pickR cols r=key then inG cols key l ++ [r] else inG cols key l:=by
 unfold inG
 rw [List.filter_append]
 split
 ·rename_i h;simp [h]
 ·rename_i h;simp [h]
theorem mem_keysOf {cols:List Int} {l:List Row1} {k:Row1}:k ∈ keysOf cols l ↔ ∃ r ∈ l,pickR cols r=k:=by
 refine snocInd (P:=fun l=>k ∈ keysOf cols l ↔ ∃ r ∈ l,pickR cols r=k) ?_ ?_ l
 ·simp [keysOf]
 ·intro l x ih
  rw [keysOf_snoc]
  split
  ·rename_i h
   rw [ih]
   constructor
   ·rintro ⟨r,hr,he⟩;exact ⟨r,by simp [hr],he⟩
   ·rintro ⟨r,hr,he⟩
    rcases List.mem_append.1 hr with hr | hr
    ·exact ⟨r,hr,he⟩
    ·simp at hr;subst hr;subst he;exact ih.1 h
  ·rename_i h
   rw [List.mem_append,ih]
   constructor
   ·rintro (⟨r,hr,he⟩ | h1)
    ·exact ⟨r,by simp [hr],he⟩
    ·simp at h1;exact ⟨x,by simp,h1.symm⟩
   ·rintro ⟨r,hr,he⟩
    rcases List.mem_append.1 hr with hr | hr
    ·exact .inl ⟨r,hr,he⟩
    ·simp at hr;subst hr;exact .inr (by simp [he])
theorem keysOf_nodup (cols:List Int) (l:List Row1):(keysOf cols l).Nodup:=by
 refine snocInd (P:=fun l=>(keysOf cols l).Nodup) ?_ ?_ l
 ·simp [keysOf]
 ·intro l x ih
  rw [keysOf_snoc]
  split
  ·exact ih
  ·rename_i h
   rw [List.nodup_append]
   refine ⟨ih,by simp,?_⟩
   intro a ha b hb
   simp at hb
   subst hb
   exact fun e=>h (e ▸ ha)
theorem keysOf_len (cols:List Int) (l:List Row1):(keysOf cols l).length ≤ l.length:=by
 refine snocInd (P:=fun l=>(keysOf cols l).length ≤ l.length) ?_ ?_ l
 ·simp [keysOf]
 ·intro l x ih
  rw [keysOf_snoc]
  split <;> simp <;> omega
theorem inG_ne {cols:List Int} {l:List Row1} {k:Row1} (h:k ∉ keysOf cols l):inG cols k l=[]:=by
 unfold inG
 rw [List.filter_eq_nil_iff]
 intro r hr
 have:=fun e=>h (mem_keysOf.2 ⟨r,hr,e⟩)
 simpa using this

theorem gIns_filter {cmp:Row1 → Row1 → Int} {S:Row1 → Prop} (C:Cm cmp S) {p:Row1 → Bool} {x:Row1} (hx:S x) (hp:∀ y,S y → p x=true → p y=true → 0 ≤ cmp x y):∀ L:List Row1,(∀ r ∈ L,S r) → GOrd cmp L → (gIns cmp x L).filter p=if p x=true then L.filter p ++ [x] else L.filter p
 | [],_,_=>by
   unfold gIns
   split <;> simp_all
 | y :: ys,hS,ho=>by
   unfold GOrd at ho
   rw [List.pairwise_cons] at ho
   have hy:=hS y (by simp)
   unfold gIns
   split
   ·rename_i hlt
    by_cases hpx:p x=true
    ·have hn:(y :: ys).filter p=[]:=by
      rw [List.filter_eq_nil_iff]
      intro z hz hpz
      have hSz:=hS z hz
      have h0:=hp z hSz hpx hpz
      rcases List.mem_cons.1 hz with rfl | hz
      ·omega
      ·have h1:=ho.1 z hz
       -- x < y ≤ z
       have h2:=C.trans x y z hx hy hSz (by omega) h1
       have h3:cmp z x ≤ 0:=by
        have:=C.anti z x hSz hx
        have h4:=C.anti x z hx hSz
        omega
       have h5:=C.trans y z x hy hSz hx h1 h3
       have h6:=(C.anti x y hx hy).1 hlt
       omega
     rw [if_pos hpx,hn,List.filter_cons_of_pos hpx,hn];rfl
    ·rw [if_neg hpx,List.filter_cons_of_neg hpx]
   ·have ih:=gIns_filter C hx hp ys (fun r hr=>hS r (by simp [hr])) ho.2
    by_cases hpy:p y=true
    ·rw [List.filter_cons_of_pos hpy,ih,List.filter_cons_of_pos hpy]
     split <;> simp
    ·rw [List.filter_cons_of_neg hpy,ih,List.filter_cons_of_neg hpy]
theorem gSort_filter {cmp:Row1 → Row1 → Int} {S:Row1 → Prop} (C:Cm cmp S) {p:Row1 → Bool} (hp:∀ x y,S x → S y → p x=true → p y=true → 0 ≤ cmp x y) (l:List Row1):(∀ r ∈ l,S r) → (gSort cmp l).filter p=l.filter p:=by
 refine snocInd (P:=fun l=>(∀ r ∈ l,S r) → (gSort cmp l).filter p=l.filter p) ?_ ?_ l
 ·intro _;simp [gSort]
 ·intro l x ih hS
  have hl:∀ r ∈ l,S r:=fun r hr=>hS r (by simp [hr])
  have hx:=hS x (by simp)
  rw [gSort_snoc,gIns_filter C hx (fun y hy=>hp x y hx hy) _ (fun r hr=>hl r ((gSort_perm C hl).mem_iff.1 hr)) (gSort_ord C hl),ih hl,List.filter_append]
  by_cases hpx:p x=true
  ·rw [if_pos hpx];simp [hpx]
  ·rw [if_neg hpx];simp [hpx]

def adjN (cols:List Int) (s:List Row1):Nat → List (List Row1)
 | 0=>[]
 | i + 1=>match s[i]? with
   | none=>adjN cols s i
   | some r=>
     let gs:=if i=0 ∨ pickR cols (s.getD (i - 1) []) ≠ pickR cols r then adjN cols s i ++ [[]] else adjN cols s i
     gs.set (gs.length - 1) (gs.getD (gs.length - 1) [] ++ [r])
def keyCmp (cols:List Int) (a b:Row1):Int:=rpCmp (pickR cols a) (pickR cols b)
def KeyS (cols:List Int) (r:Row1):Prop:=∀ x ∈ pickR cols r,vValid x=true
theorem pickR_length (cols:List Int) (r:Row1):(pickR cols r).length=cols.length:=by simp [pickR]
theorem keyCmp_eq {cols:List Int} {a b:Row1} (ha:KeyS cols a) (hb:KeyS cols b):keyCmp cols a b=rCmp (pickR cols a) (pickR cols b):=rpCmp_eq _ _ (by rw [pickR_length,pickR_length]) ha hb
theorem keyCm (cols:List Int):Cm (keyCmp cols) (KeyS cols) where
 anti x y hx hy:=by
  rw [keyCmp_eq hx hy,keyCmp_eq hy hx,rCmp_anti (a:=pickR cols y) (b:=pickR cols x) (by rw [pickR_length,pickR_length]) hy hx]
  omega
 trans x y z hx hy hz h1 h2:=by
  rw [keyCmp_eq hx hy] at h1
  rw [keyCmp_eq hy hz] at h2
  rw [keyCmp_eq hx hz]
  exact rCmp_trans (by rw [pickR_length,pickR_length]) (by rw [pickR_length,pickR_length]) hx hy hz h1 h2
theorem keyCmp_zero {cols:List Int} {a b:Row1} (ha:KeyS cols a) (hb:KeyS cols b):keyCmp cols a b=0 ↔ pickR cols a=pickR cols b:=by
 rw [keyCmp_eq ha hb];exact rCmp_zero (by rw [pickR_length,pickR_length])
theorem adjN_spec {cols:List Int} {s:List Row1} (hS:∀ r ∈ s,KeyS cols r) (ho:GOrd (keyCmp cols) s):∀ n,n ≤ s.length → adjN cols s n=(keysOf cols (s.take n)).map (fun k=>inG cols k (s.take n)) ∧ (0 < n → ∃ ks,keysOf cols (s.take n)=ks ++ [pickR cols (s.getD (n - 1) [])])
 | 0,_=>⟨by simp [adjN,keysOf],fun h=>absurd h (by omega)⟩
 | n + 1,hn=>by
   have hlt:n < s.length:=by omega
   have hg:=List.getElem?_eq_getElem hlt
   obtain ⟨ih,ihl⟩:=adjN_spec hS ho n (by omega)
   obtain ⟨r,hr⟩:∃ r,s[n]=r:=⟨_,rfl⟩
   rw [hr] at hg
   have ht:s.take (n + 1)=s.take n ++ [r]:=by rw [List.take_add_one,hg];rfl
   have hrS:KeyS cols r:=hS r (hr ▸ List.getElem_mem hlt)
   have hgd:s.getD (n + 1 - 1) []=r:=by rw [List.getD_eq_getElem?_getD,Nat.add_sub_cancel,hg];rfl
   rw [ht,hgd]
   unfold adjN
   rw [hg]
   dsimp only
   by_cases hc:n=0 ∨ pickR cols (s.getD (n - 1) []) ≠ pickR cols r
   ·have hnew:pickR cols r ∉ keysOf cols (s.take n):=by
     intro hm
     obtain ⟨q,hq,he⟩:=mem_keysOf.1 hm
     rcases hc with rfl | hc
     ·simp at hq
     ·obtain ⟨j,hj,hjq⟩:=List.getElem_of_mem hq
      have hjn:j < n:=by rw [List.length_take] at hj;omega
      rw [List.getElem_take] at hjq
      have hn1:n - 1 < s.length:=by omega
      have hgp:s.getD (n - 1) []=s[n - 1]:=by rw [List.getD_eq_getElem?_getD,List.getElem?_eq_getElem hn1];rfl
      rw [hgp] at hc
      have hS1:=hS _ (List.getElem_mem hn1)
      have hSj:=hS _ (List.getElem_mem (show j < s.length by omega))
      have hp:=List.pairwise_iff_getElem.1 ho
      have h2:keyCmp cols s[n - 1] r ≤ 0:=by rw [← hr];exact hp (n - 1) n hn1 hlt (by omega)
      by_cases hjn1:j=n - 1
      ·subst hjn1;exact hc (by rw [hjq];exact he)
      ·have h1:keyCmp cols s[j] s[n - 1] ≤ 0:=hp j (n - 1) (by omega) hn1 (by omega)
       have h0:keyCmp cols r s[n - 1] ≤ 0:=by
        have:keyCmp cols r s[n - 1]=keyCmp cols s[j] s[n - 1]:=by unfold keyCmp;rw [← he,← hjq]
        omega
       have ha:=(keyCm cols).anti s[n - 1] r hS1 hrS
       have hb:=(keyCm cols).anti r s[n - 1] hrS hS1
       have hz:keyCmp cols s[n - 1] r=0:=by omega
       exact hc ((keyCmp_zero hS1 hrS).1 hz)
    rw [if_pos hc,keysOf_snoc,if_neg hnew]
    refine ⟨?_,fun _=>⟨_,rfl⟩⟩
    rw [ih]
    have hlen:((keysOf cols (s.take n)).map (fun k=>inG cols k (s.take n)) ++ [([]:List Row1)]).length - 1=((keysOf cols (s.take n)).map (fun k=>inG cols k (s.take n))).length:=by simp
    rw [hlen,List.set_append_right _ _ (Nat.le_refl _),Nat.sub_self,List.getD_eq_getElem?_getD,List.getElem?_append_right (Nat.le_refl _),Nat.sub_self,List.map_append]
    congr 1
    ·apply List.map_congr_left
     intro k hk
     rw [inG_snoc,if_neg (fun e:pickR cols r=k=>hnew (by rw [e];exact hk))]
    ·simp [inG_snoc,inG_ne hnew]
   ·have hn0:0 < n:=by
     rcases Nat.eq_zero_or_pos n with h | h
     ·exact absurd (Or.inl h) hc
     ·exact h
    have hk:pickR cols (s.getD (n - 1) [])=pickR cols r:=Classical.byContradiction fun h=>hc (.inr h)
    obtain ⟨ks,hks⟩:=ihl hn0
    rw [hk] at hks
    have hm:pickR cols r ∈ keysOf cols (s.take n):=by rw [hks];simp
    rw [if_neg hc,keysOf_snoc,if_pos hm]
    refine ⟨?_,fun _=>⟨ks,hks⟩⟩
    have hnd:=keysOf_nodup cols (s.take n)
    rw [ih,hks,List.map_append]
    rw [hks,List.nodup_append] at hnd
    have hlen:(ks.map (fun k=>inG cols k (s.take n)) ++ [pickR cols r].map (fun k=>inG cols k (s.take n))).length - 1=(ks.map (fun k=>inG cols k (s.take n))).length:=by simp
    rw [hlen,List.set_append_right _ _ (Nat.le_refl _),Nat.sub_self,List.getD_eq_getElem?_getD,List.getElem?_append_right (Nat.le_refl _),Nat.sub_self,List.map_append]
    congr 1
    ·apply List.map_congr_left
     intro k hk'
     rw [inG_snoc,if_neg (fun e:pickR cols r=k=>hnd.2.2 k hk' (pickR cols r) (by simp) e.symm)]
    ·simp [inG_snoc]
def srtRows (cols:List Int) (col kind:Int) (l:List Row1):List Row1:=(adjN cols (gSort (keyCmp cols) l) l.length).map fun g=>pickR cols (g.headD []) ++ [aggF kind (valG col g)]
theorem perm_nodup:∀ {a b:List Row1},a.Nodup → b.Nodup → (∀ x,x ∈ a ↔ x ∈ b) → a.Perm b
 | [],b,_,_,h=>by
   cases b with
   | nil=>exact List.Perm.refl _
   | cons y ys=>exact absurd ((h y).2 (by simp)) (by simp)
 | x :: xs,b,ha,hb,h=>by
   have hx:x ∈ b:=(h x).1 (by simp)
   rw [List.nodup_cons] at ha
   have he:(b.erase x).Nodup:=hb.erase x
   refine (List.Perm.cons x (perm_nodup ha.2 he fun y=>?_)).trans (List.perm_cons_erase hx).symm
   rw [hb.mem_erase_iff]
   constructor
   ·intro hy;exact ⟨fun e=>ha.1 (e ▸ hy),(h y).1 (by simp [hy])⟩
   ·rintro ⟨h1,h2⟩
    rcases List.mem_cons.1 ((h y).2 h2) with rfl | h3
    ·exact absurd rfl h1
    ·exact h3
theorem grp_perm {cols:List Int} {col kind:Int} {l:List Row1} (hS:∀ r ∈ l,KeyS cols r):(srtRows cols col kind l).Perm (grpRows cols col kind l):=by
 have C:=keyCm cols
 have hp:=gSort_perm C hS
 have hSs:∀ r ∈ gSort (keyCmp cols) l,KeyS cols r:=fun r hr=>hS r (hp.mem_iff.1 hr)
 have hl:(gSort (keyCmp cols) l).length=l.length:=gSort_length l
 have ha:=(adjN_spec hSs (gSort_ord C hS) l.length (by omega)).1
 rw [List.take_of_length_le (by omega)] at ha
 have hf:∀ k,inG cols k (gSort (keyCmp cols) l)=inG cols k l:=fun k=>gSort_filter C (fun x y hx hy h1 h2=>by
  simp only [decide_eq_true_eq] at h1 h2
  have:=(keyCmp_zero hx hy).2 (h1.trans h2.symm)
  omega) l hS
 have e:srtRows cols col kind l=(keysOf cols (gSort (keyCmp cols) l)).map (grpRow cols col kind l):=by
  unfold srtRows
  rw [ha,List.map_map]
  apply List.map_congr_left
  intro k hk
  show pickR cols ((inG cols k (gSort (keyCmp cols) l)).headD []) ++ [aggF kind (valG col (inG cols k (gSort (keyCmp cols) l)))]=_
  rw [hf k]
  obtain ⟨r,hr,he⟩:=mem_keysOf.1 hk
  have hne:inG cols k l ≠ []:=fun h0=>by
   have:r ∈ inG cols k l:=by unfold inG;rw [List.mem_filter];exact ⟨hp.mem_iff.1 hr,by simpa using he⟩
   rw [h0] at this
   cases this
  cases h:inG cols k l with
  | nil=>exact absurd h hne
  | cons q qs=>
    have hq:q ∈ inG cols k l:=by rw [h];simp
    have hqk:pickR cols q=k:=by
     unfold inG at hq
     have:=(List.mem_filter.1 hq).2
     simpa using this
    unfold grpRow
    rw [h]
    show pickR cols q ++ _=_
    rw [hqk]
 rw [e]
 unfold grpRows
 refine (perm_nodup (keysOf_nodup _ _) (keysOf_nodup _ _) fun k=>?_).map _
 rw [mem_keysOf,mem_keysOf]
 constructor
 ·rintro ⟨r,hr,he⟩;exact ⟨r,hp.mem_iff.1 hr,he⟩
 ·rintro ⟨r,hr,he⟩;exact ⟨r,hp.mem_iff.2 hr,he⟩
theorem grpRow_ok {W:Int} {cols:List Int} {col kind:Int} {l:List Row1} (hr:∀ r ∈ l,RowOk W r) (hc:∀ c ∈ cols,0 ≤ c ∧ c < W) (hcol:0 ≤ col ∧ col < W) (hl:cols.length < 6) {k:Row1} (hk:k ∈ keysOf cols l):RowOk (cols.length + 1) (grpRow cols col kind l k):=by
 obtain ⟨r,hrl,rfl⟩:=mem_keysOf.1 hk
 have hval:∀ q,RowOk W q → ∀ c,0 ≤ c ∧ c < W → vValid (getV q c)=true:=fun q hq c hc=>by
  have hlt:c.toNat < q.length:=by have:=hq.2;omega
  unfold getV
  rw [List.getD_eq_getElem?_getD,List.getElem?_eq_getElem hlt]
  exact hq.vals _ (List.getElem_mem hlt)
 have hlen:(grpRow cols col kind l (pickR cols r)).length=cols.length + 1:=by unfold grpRow;simp [pickR]
 refine ⟨?_,by rw [hlen];simp⟩
 unfold rowValid
 rw [hlen]
 simp only [Bool.and_eq_true,decide_eq_true_eq,List.all_eq_true]
 refine ⟨⟨by omega,by omega⟩,fun x hx=>?_⟩
 unfold grpRow at hx
 rcases List.mem_append.1 hx with h | h
 ·obtain ⟨c,hcm,rfl⟩:=List.mem_map.1 h
  exact hval r (hr r hrl) c (hc c hcm)
 ·simp at h
  subst h
  refine aggF_valid fun v hv=>?_
  obtain ⟨q,hq,rfl⟩:=List.mem_map.1 hv
  exact hval q (hr q (List.mem_filter.1 hq).1) col hcol
end Go.Qo

namespace Go.Proofs.YtcbfbgngkdiijaaGreat
open Go.RowKit Go.Qo
set_option linter.unusedVariables false
set_option linter.unusedSimpArgs false

theorem pickR_take {cols:List Int} {r:Row1} {i:Nat} (h:i < cols.length):(pickR cols r).take (i + 1)=(pickR cols r).take i ++ [getV r cols[i]]:=by
 have hl:i < (pickR cols r).length:=by rw [pickR_length];exact h
 rw [List.take_add_one,List.getElem?_eq_getElem hl]
 simp [pickR]
theorem zeroValG:(Tryz.prog.info? 85).map (fun i=>(i.zero,i.size,i.bytes))=some (some (.agg #[.bool false,.int .i64 0]),2,16):=by kernel_rfl

set_option maxHeartbeats 2000000 in
theorem pickCols_ok (A A':Option Addr) (c c':Nat) (r:Row1) (cols:List Int) (w:World) (hr:r.length ≤ 6) (hl:cols.length ≤ 6) (hc:∀ x ∈ cols,0 ≤ x ∧ x < r.length) (h:Sl 2 valC w w.heap.size A r) (h':Sl 1 intC w w.heap.size A' cols) :
 Calls Tryz.prog 77 #[.slice A r.length c,.slice A' cols.length c'] w (OneRow (pickR cols r) w):=by
 have HS:=Lib.hid (fun (z:World) (hz:Below w.heap.size w z)=>And.intro (h.on hz) (h'.on hz))
 have HC:=Lib.hid hc
 clear h h' hc
 go_enter Tryz.func77,Tryz.ntmps77
 obtain ⟨W0,hW0⟩:∃ z,w.alloc (.cells #[] 85)=z:=⟨_,rfl⟩
 have HB0:=Lib.hid (show Below w.heap.size w W0 by rw [← hW0];exact balloc (Below.refl _ _) _)
 have HO0:=Lib.hid (show Ow w.heap.size 85 2 valC W0 (.slice (some ⟨w.heap.size,0,none⟩) 0 0) ([]:List Val) by rw [← hW0];exact Ow.lit (xs:=([]:List Val)) rfl rfl (Nat.le_refl _) (by decide))
 have HW0:=Lib.hid hW0
 clear hW0
 go_upto_region 2 with fail
 rw [HW0.out]
 go_wp2
 go_loopg [5,6] cols.length (fun g v iv wr=>∃ i:Nat,i ≤ cols.length ∧ g=cols.length - i ∧ iv=.int .i64 i ∧ Ow w.heap.size 85 2 valC wr v ((pickR cols r).take i) ∧ Below w.heap.size w wr)
 case atStart=>exact ⟨0,by omega,by omega,rfl,by rw [List.take_zero];exact HO0.out,HB0.out⟩
 case round=>
  obtain ⟨i,hi,rfl,rfl,how,hb⟩:=hrel
  have HO:=Lib.hid how
  have HB:=Lib.hid hb
  have hsb:=hb.size
  clear how hb
  by_cases hil:i < cols.length
  ·have hiI:(i:Int) < (cols.length:Int):=by omega
   obtain ⟨b1,o1,hA1,hB1,c1⟩:=(HS.out _ HB.out).2.at1 hil
   have hcb:=HC.out _ (List.getElem_mem hil)
   have Ht:=Lib.hid (pickR_take (r:=r) hil)
   generalize cols[i]=k at *
   obtain ⟨k,rfl⟩:=Int.eq_ofNat_of_zero_le hcb.1
   have hkl:k < r.length:=by have:=hcb.2;omega
   obtain ⟨b2,o2,hA2,hB2,d0,d1⟩:=Val.at_ (HS.out _ HB.out).1 hkl
   have hgv:getV r (k:Int)=r[k]:=by unfold getV;rw [Int.toNat_natCast,List.getD_eq_getElem?_getD,List.getElem?_eq_getElem hkl];rfl
   have Hgv:=Lib.hid hgv
   generalize r[k]=v0 at *
   obtain ⟨vn,vv⟩:=v0
   have hkI:(k:Int) < (r.length:Int):=by omega
   have hkI0:(0:Int) ≤ (k:Int):=by omega
   subst hA1
   subst hA2
   have hcl:((pickR cols r).take i).length ≤ 6:=by rw [List.length_take,pickR_length];omega
   obtain ⟨U,hU⟩:∃ z,wr.alloc (.cells #[.bool vn,.int .i64 vv] 85)=z:=⟨_,rfl⟩
   have hub:Below wr.heap.size wr U:=by rw [← hU];exact balloc (Below.refl _ _) _
   have HB5:=Lib.hid (bch HB.out hub)
   have HO5:=Lib.hid (HO.out.on hub)
   have HS5:=Lib.hid (show Sl 2 valC U U.heap.size (some ⟨wr.heap.size,0,none⟩) [((vn,vv):Val)] by rw [← hU];exact Row.sl' (t:=85) valC_length ((Row.new wr _ _).of rfl))
   have hsz6:w.heap.size ≤ U.heap.size:=HB5.out.size
   have HU:=Lib.hid hU
   clear hU hub hcb hgv
   go_wp2_with (at_builtin;rw [HU.out];refine wpList_app rfl (.tmp 14) (.tmp 22) 100 rfl w.heap.size 85 _ 2 16 valC Tryz.underlying100 zeroValG rfl (by decide) (by decide) valC_length valC_one _ _ rfl HO5.out (some ⟨wr.heap.size,0,none⟩) 1 1 [((vn,vv):Val)] rfl rfl HS5.out (by simp only [List.length_singleton];omega) hsz6 ?_;intro v' w' hown hgr)
   go_roundg (cols.length - (i + 1))
   case measure=>omega
   case rel=>exact ⟨i + 1,by omega,rfl,by go_num,by rw [Ht.out,Hgv.out];exact hown,HB5.out.grown hgr hsz6 fun k hk=>(HO5.out.ty k hk).1⟩
  ·have hiI:¬ (i:Int) < (cols.length:Int):=by omega
   have hte:(pickR cols r).take i=pickR cols r:=List.take_of_length_le (by rw [pickR_length];omega)
   rw [hte] at HO
   go_wp2
   go_ret
   exact ⟨_,rfl,HO.out,HB.out⟩

set_option maxHeartbeats 2000000 in
theorem picked_ok (A A':Option Addr) (c c':Nat) (r:Row1) (cols:List Int) (w:World) (hr:r.length ≤ 6) (hl:cols.length ≤ 6) (hc:∀ x ∈ cols,0 ≤ x ∧ x < r.length) (h:Sl 2 valC w w.heap.size A r) (h':Sl 1 intC w w.heap.size A' cols) :
 Calls Tryz.prog 116 #[.slice A r.length c,.slice A' cols.length c'] w (OneRow (pickR cols r) w):=by
 have HS:=Lib.hid (fun (z:World) (hz:Below w.heap.size w z)=>And.intro (h.on hz) (h'.on hz))
 have HC:=Lib.hid hc
 clear h h' hc
 go_enter Tryz.func116,Tryz.ntmps116
 go_wp2
 go_loopg [5,10] cols.length (fun g v iv wr=>∃ i:Nat,i ≤ cols.length ∧ g=cols.length - i ∧ iv=.int .i64 i ∧ Ow w.heap.size 85 2 valC wr v ((pickR cols r).take i) ∧ Below w.heap.size w wr)
 case atStart=>exact ⟨0,by omega,by omega,rfl,by rw [List.take_zero];exact Ow.nil,Below.refl _ _⟩
 case round=>
  obtain ⟨i,hi,rfl,rfl,how,hb⟩:=hrel
  have HO:=Lib.hid how
  have HB:=Lib.hid hb
  have hsb:=hb.size
  clear how hb
  by_cases hil:i < cols.length
  ·have hiI:(i:Int) < (cols.length:Int):=by omega
   obtain ⟨b1,o1,hA1,hB1,c1⟩:=(HS.out _ HB.out).2.at1 hil
   have hcb:=HC.out _ (List.getElem_mem hil)
   have Ht:=Lib.hid (pickR_take (r:=r) hil)
   generalize cols[i]=k at *
   obtain ⟨k,rfl⟩:=Int.eq_ofNat_of_zero_le hcb.1
   have hkl:k < r.length:=by have:=hcb.2;omega
   obtain ⟨b2,o2,hA2,hB2,d0,d1⟩:=Val.at_ (HS.out _ HB.out).1 hkl
   have hgv:getV r (k:Int)=r[k]:=by unfold getV;rw [Int.toNat_natCast,List.getD_eq_getElem?_getD,List.getElem?_eq_getElem hkl];rfl
   have Hgv:=Lib.hid hgv
   generalize r[k]=v0 at *
   obtain ⟨vn,vv⟩:=v0
   have hkI:(k:Int) < (r.length:Int):=by omega
   have hkI0:(0:Int) ≤ (k:Int):=by omega
   subst hA1
   subst hA2
   have hcl:((pickR cols r).take i).length ≤ 6:=by rw [List.length_take,pickR_length];omega
   obtain ⟨U,hU⟩:∃ z,wr.alloc (.cells #[.bool vn,.int .i64 vv] 85)=z:=⟨_,rfl⟩
   have hub:Below wr.heap.size wr U:=by rw [← hU];exact balloc (Below.refl _ _) _
   have HB5:=Lib.hid (bch HB.out hub)
   have HO5:=Lib.hid (HO.out.on hub)
   have HS5:=Lib.hid (show Sl 2 valC U U.heap.size (some ⟨wr.heap.size,0,none⟩) [((vn,vv):Val)] by rw [← hU];exact Row.sl' (t:=85) valC_length ((Row.new wr _ _).of rfl))
   have hsz6:w.heap.size ≤ U.heap.size:=HB5.out.size
   have HU:=Lib.hid hU
   clear hU hub hcb hgv
   go_wp2_with (at_builtin;rw [HU.out];refine wpList_app rfl (.tmp 14) (.tmp 19) 100 rfl w.heap.size 85 _ 2 16 valC Tryz.underlying100 zeroValG rfl (by decide) (by decide) valC_length valC_one _ _ rfl HO5.out (some ⟨wr.heap.size,0,none⟩) 1 1 [((vn,vv):Val)] rfl rfl HS5.out (by simp only [List.length_singleton];omega) hsz6 ?_;intro v' w' hown hgr)
   go_roundg (cols.length - (i + 1))
   case measure=>omega
   case rel=>exact ⟨i + 1,by omega,rfl,by go_num,by rw [Ht.out,Hgv.out];exact hown,HB5.out.grown hgr hsz6 fun k hk=>(HO5.out.ty k hk).1⟩
  ·have hiI:¬ (i:Int) < (cols.length:Int):=by omega
   have hte:(pickR cols r).take i=pickR cols r:=List.take_of_length_le (by rw [pickR_length];omega)
   rw [hte] at HO
   go_wp2
   go_ret
   exact ⟨_,rfl,HO.out,HB.out⟩
end Go.Proofs.YtcbfbgngkdiijaaGreat

namespace Go.Proofs.YtcbfbgngkdiijaaGreat
open Go.RowKit Go.Qo
set_option linter.unusedVariables false
set_option linter.unusedSimpArgs false

set_option maxHeartbeats 1000000 in
theorem grConcat_ok (A A':Option Addr) (c c':Nat) (xs ys:List Val) (w:World) (hn:xs.length ≤ 1048576) (hn':ys.length ≤ 1048576) (h:Sl 2 valC w w.heap.size A xs) (h':Sl 2 valC w w.heap.size A' ys) :
 Calls Tryz.prog 74 #[.slice A xs.length c,.slice A' ys.length c'] w (OneRow (xs ++ ys) w):=by
 have HC:=Lib.hid (copyRow_ok A c xs w hn h)
 have H':=Lib.hid h'
 clear h h'
 go_enter Tryz.func74,Tryz.ntmps74
 go_wp2_with fail
 refine HC.out.mono ?_
 rintro e w1 ⟨v1,rfl,how1,hb1⟩
 obtain ⟨A1,c1,rfl,_,_,_⟩:=how1.shape valC_length
 have HO:=Lib.hid (And.intro how1 hb1)
 have S1:=Lib.hid (H'.out.on hb1)
 have hz:=hb1.size
 clear how1 hb1
 go_wp2_with (at_builtin;refine wpList_app rfl (.tmp 6) (.tmp 7) 100 rfl w.heap.size 85 _ 2 16 valC Tryz.underlying100 zeroVal rfl (by decide) (by decide) valC_length valC_one _ xs rfl HO.out.1 A' ys.length c' ys rfl rfl S1.out (by omega) hz ?_;intro v2 w2 how2 hgr2)
 go_ret
 exact ⟨_,rfl,how2,HO.out.2.grown hgr2 hz fun b hb=>(HO.out.1.ty b hb).1⟩
end Go.Proofs.YtcbfbgngkdiijaaGreat


namespace Go.Proofs.YtcbfbgngkdiijaaGreat
open Go.RowKit Go.Qo
set_option linter.unusedVariables false
set_option linter.unusedSimpArgs false

theorem Cps.app {lo:Nat} {z z':World} {cp:List SRw} {i:Nat} {p p':SRw} (h:Cps lo z cp) (hi:cp[i]? = some p) (hg:z.grownBy z' (svB p.1)) (hp':OwP lo z' p') (hb:svB p'.1=svB p.1 ∨ svB p'.1=some z.heap.size):Cps lo z' (cp.set i p'):=by
 have hil:=(List.getElem?_eq_some_iff.1 hi).1
 have hie:=(List.getElem?_eq_some_iff.1 hi).2
 have hpw:=List.pairwise_iff_getElem.1 h.2
 have hap:∀ j (hj:j < cp.length),j ≠ i → Apart cp[j] p:=fun j hj hne=>by
  rw [← hie]
  rcases Nat.lt_or_gt_of_ne hne with hlt | hgt
  ·exact hpw j i hj hil hlt
  ·exact (hpw i j hil hj hgt).symm
 have hkeep:∀ j (hj:j < cp.length),j ≠ i → OwP lo z' cp[j]:=fun j hj hne=>by
  have ho:=h.1 _ (List.getElem_mem hj)
  exact ⟨ho.1,ho.2.keepOwn fun b hb'=>hg.block b (ho.2.ty b hb').2.1 fun e=>hap j hj hne b hb' e.symm⟩
 have hap':∀ j (hj:j < cp.length),j ≠ i → Apart cp[j] p':=fun j hj hne b h1 h2=>by
  rcases hb with e | e
  ·exact hap j hj hne b h1 (e ▸ h2)
  ·have:=((h.1 _ (List.getElem_mem hj)).2.ty b h1).2.1
   rw [e] at h2;cases h2;omega
 refine ⟨fun q hq=>?_,?_⟩
 ·obtain ⟨j,hj,rfl⟩:=List.getElem_of_mem hq
  rw [List.length_set] at hj
  rw [List.getElem_set]
  split
  ·exact hp'
  ·rename_i hne;exact hkeep j hj (Ne.symm hne)
 ·rw [List.pairwise_iff_getElem]
  intro a b ha hb' hab
  rw [List.length_set] at ha hb'
  rw [List.getElem_set,List.getElem_set]
  split
  ·rename_i e1
   split
   ·omega
   ·rename_i e2;subst e1;exact (hap' b hb' (fun e=>e2 e.symm)).symm
  ·rename_i e1
   split
   ·exact hap' a ha (fun e=>e1 e.symm)
   ·exact hpw a b ha hb' hab
def GrKs (lo:Nat) (wr:World) (v9 v10:Value) (cpK cpG:List SRw) (KS GS:List Row1):Prop:=Ow lo 100 1 svC wr v9 (cpK.map (·.1)) ∧ Ow lo 100 1 svC wr v10 (cpG.map (·.1)) ∧ Cps lo wr (cpK ++ cpG) ∧ cpK.map (·.2)=KS ∧ cpG.map (·.2)=GS ∧ ∀ b,v9.ownBlock=some b → v10.ownBlock ≠ some b
theorem GrKs.on {lo:Nat} {w w':World} {v9 v10:Value} {cpK cpG:List SRw} {KS GS:List Row1} (h:GrKs lo w v9 v10 cpK cpG KS GS) (hb:Below w.heap.size w w'):GrKs lo w' v9 v10 cpK cpG KS GS:=⟨h.1.on hb,h.2.1.on hb,h.2.2.1.on hb,h.2.2.2⟩
end Go.Proofs.YtcbfbgngkdiijaaGreat
