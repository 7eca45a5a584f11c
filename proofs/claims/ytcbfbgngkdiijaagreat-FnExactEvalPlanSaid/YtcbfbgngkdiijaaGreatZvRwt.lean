import Derived.Test.YtcbfbgngkdiijaaGreatProg
import Derived.Test.YtcbfbgngkdiijaaGreatZvVal
namespace Go.Proofs.YtcbfbgngkdiijaaGreat
open Go.RowKit Go.Qo
set_option linter.unusedVariables false
set_option linter.unusedSimpArgs false

set_option maxHeartbeats 400000 in
theorem specValidRow_ok (A:Option Addr) (c:Nat) (xs:List Val) (w:World) (hn:xs.length ≤ maxLen) (h:Sl 2 valC w w.heap.size A xs) (r:Bool) (hr:rowValid xs=r) :
 Calls Tryz.prog 69 #[.slice A xs.length c] w fun e w'=>e=.returned (.bool r) ∧ Below w.heap.size w w':=by
 rw [rowValid_iff] at hr
 have Hr:=Lib.hid hr
 clear hr
 unfold maxLen at hn
 go_enter Tryz.func69,Tryz.ntmps69
 go_wp2
 go_loopg [3] (xs.length) (fun g i wr=>∃ k:Nat,k ≤ xs.length ∧ g=xs.length - k ∧ i=.int .i64 k ∧ Below w.heap.size w wr ∧ (xs.take k).all vValid=true)
 case atStart=>exact ⟨0,by omega,by omega,rfl,Below.refl _ _,rfl⟩
 case round=>
  obtain ⟨k,hk,rfl,rfl,hb,hp⟩:=hrel
  have Hp:=Lib.hid hp
  clear hp
  by_cases hlt:k < xs.length
  ·obtain ⟨b,off,rfl,hB,c1,c2⟩:=Val.at_ (h.below hb) hlt
   have hx:=Lib.hid (List.getElem?_eq_getElem hlt)
   generalize xs[k]=x at *
   obtain ⟨q,hq⟩:∃ q,vValid x=q:=⟨_,rfl⟩
   have Hk:=Lib.hid (fun w=>specValidValue_ok x w q hq)
   have Hq:=Lib.hid hq
   clear hq
   cases q
   ·go_wp2_with (go_at_call 93;refine (Hk.out _).mono ?_;rintro e w1 ⟨rfl,hb1⟩)
    go_ret
    exact ⟨ret_bool (by rw [← Hr.out,not_all hx.out Hq.out,Bool.and_false]),bch hb (by assumption)⟩
   ·go_wp2_with (go_at_call 93;refine (Hk.out _).mono ?_;rintro e w1 ⟨rfl,hb1⟩)
    go_roundg (xs.length - (k + 1))
    case measure=>omega
    case rel=>exact ⟨k + 1,by omega,rfl,by go_num,bch hb (by assumption),all_take_succ Hp.out hx.out Hq.out⟩
  ·obtain ⟨q,hq⟩:∃ q,(decide ((1:Int) ≤ (xs.length:Int)) && decide ((xs.length:Int) ≤ 6))=q:=⟨_,rfl⟩
   have Hk:=Lib.hid (fun w=>inRange_ok xs.length 1 6 w q hq)
   have Hq:=Lib.hid hq
   clear hq
   go_wp2_with (go_at_call 64;refine (Hk.out _).mono ?_;rintro e w' ⟨rfl,rfl⟩)
   go_ret
   exact ⟨ret_bool (by rw [← Hr.out,Hq.out,all_of_take Hp.out (by omega),Bool.and_true]),hb⟩

set_option maxHeartbeats 400000 in
theorem implValidRow_ok (A:Option Addr) (c:Nat) (xs:List Val) (w:World) (hn:xs.length ≤ maxLen) (h:Sl 2 valC w w.heap.size A xs) (r:Bool) (hr:rowValid xs=r) :
 Calls Tryz.prog 101 #[.slice A xs.length c] w fun e w'=>e=.returned (.bool r) ∧ Below w.heap.size w w':=by
 rw [rowValid_iff] at hr
 have Hr:=Lib.hid hr
 clear hr
 unfold maxLen at hn
 obtain ⟨q,hq⟩:∃ q,(decide ((1:Int) ≤ (xs.length:Int)) && decide ((xs.length:Int) ≤ 6))=q:=⟨_,rfl⟩
 have HW:=Lib.hid (fun w=>validWidth_ok xs.length w q hq)
 have HQ:=Lib.hid hq
 clear hq
 cases q
 ·go_enter Tryz.func101,Tryz.ntmps101
  go_wp2_with (go_at_call 100;refine (HW.out _).mono ?_;rintro e w' ⟨rfl,rfl⟩)
  go_ret
  exact ⟨ret_bool (by rw [← Hr.out,HQ.out,Bool.false_and]),Below.refl _ _⟩
 ·go_enter Tryz.func101,Tryz.ntmps101
  go_wp2_with (go_at_call 100;refine (HW.out _).mono ?_;rintro e w' ⟨rfl,rfl⟩)
  go_loopg [11] (xs.length) (fun g i wr=>∃ k:Nat,k ≤ xs.length ∧ g=xs.length - k ∧ i=.int .i64 k ∧ Below w.heap.size w wr ∧ (xs.take k).all vValid=true)
  case atStart=>exact ⟨0,by omega,by omega,rfl,Below.refl _ _,rfl⟩
  case round=>
   obtain ⟨k,hk,rfl,rfl,hb,hp⟩:=hrel
   have Hp:=Lib.hid hp
   clear hp
   by_cases hlt:k < xs.length
   ·obtain ⟨b,off,rfl,hB,c1,c2⟩:=Val.at_ (h.below hb) hlt
    have hx:=Lib.hid (List.getElem?_eq_getElem hlt)
    generalize xs[k]=x at *
    obtain ⟨q,hq⟩:∃ q,vValid x=q:=⟨_,rfl⟩
    have Hk:=Lib.hid (fun w=>implValid_ok x w q hq)
    have Hq:=Lib.hid hq
    clear hq
    cases q
    ·go_wp2_with (go_at_call 123;refine (Hk.out _).mono ?_;rintro e w1 ⟨rfl,hb1⟩)
     go_ret
     exact ⟨ret_bool (by rw [← Hr.out,not_all hx.out Hq.out,Bool.and_false]),bch (balloc hb _) (by assumption)⟩
    ·go_wp2_with (go_at_call 123;refine (Hk.out _).mono ?_;rintro e w1 ⟨rfl,hb1⟩)
     go_roundg (xs.length - (k + 1))
     case measure=>omega
     case rel=>exact ⟨k + 1,by omega,rfl,by go_num,bch (balloc hb _) (by assumption),all_take_succ Hp.out hx.out Hq.out⟩
   ·go_wp2
    go_ret
    exact ⟨ret_bool (by rw [← Hr.out,HQ.out,all_of_take Hp.out (by omega),Bool.and_true]),hb⟩

abbrev Rws (w:World) (B:Nat) (A:Option Addr) (rows:List Row1):Prop:=Sls 2 valC w B A rows

set_option maxHeartbeats 400000 in
theorem eqValueSS_ok (A A':Option Addr) (c c':Nat) (xs ys:List Row1) (w:World) (hn:xs.length ≤ maxLen) (hn':ys.length ≤ maxLen) (h:Rws w w.heap.size A xs) (h':Rws w w.heap.size A' ys) :
 Calls Tryz.prog 32 #[.slice A xs.length c,.slice A' ys.length c'] w fun e w'=>e=.returned (.bool (decide (xs=ys))) ∧ Below w.heap.size w w':=by
 unfold maxLen at hn hn'
 by_cases hl:xs.length=ys.length
 ·have hl':=Lib.hid hl
  have hle:xs.length ≤ ys.length:=by omega
  have hne:((xs.length:Int) != (ys.length:Int))=false:=by simp [hl]
  clear hl
  go_enter Tryz.func32,Tryz.ntmps32
  go_wp2
  go_loopg [5] (xs.length) (fun g i wr=>∃ k:Nat,k ≤ xs.length ∧ g=xs.length - k ∧ i=.int .i64 k ∧ Below w.heap.size w wr ∧ xs.take k=ys.take k)
  case atStart=>exact ⟨0,by omega,by omega,rfl,Below.refl _ _,rfl⟩
  case round=>
   obtain ⟨k,hk,rfl,rfl,hb,hp⟩:=hrel
   have Hp:=Lib.hid hp
   clear hp
   by_cases hlt:k < xs.length
   ·obtain ⟨b,off,A1,C1,rfl,hB,c1,hc1,hm1,s1⟩:=(h.on hb).at_ hlt
    obtain ⟨b',off',A2,C2,rfl,hB',c2,hc2,hm2,s2⟩:=(h'.on hb).at_ (i:=k) (by omega)
    have hx:=Lib.hid (List.getElem?_eq_getElem hlt)
    have hy:=Lib.hid (List.getElem?_eq_getElem (show k < ys.length by omega))
    generalize xs[k]=x at *
    generalize ys[k]=y at *
    have d1:=fun z:Aft wr.heap.size wr=>z.cell (by omega) c1
    have d2:=fun z:Aft wr.heap.size wr=>z.cell (by omega) c2
    have hlt':k < ys.length:=by omega
    obtain ⟨r,hr⟩:∃ r,decide (x=y)=r:=⟨_,rfl⟩
    have key:=fun z:Aft wr.heap.size wr=>eqValueS_ok A1 A2 C1 C2 x y z.v (by omega) (by omega) (s1.on z.h) (s2.on z.h)
    rw [hr] at key
    have Hk:=Lib.hid key
    have Hr:=Lib.hid hr
    clear key hr s1 s2 hc1 hm1 hc2 hm2
    go_wp2
    refine wp_region_aft wr.heap.size (by kernel_rfl) (by kernel_rfl) ?_
    repeat (go_big_quiet_step ((go_at_call 59;exact Calls.aft (Nat.le_refl _) (Hk.out _))))
    refine wpQuiet_nil ?_
    intro _ hw'
    obtain ⟨⟨w1,hb1⟩,rfl⟩:=hw'
    cases r
    ·go_wp2
     go_ret
     exact ⟨ret_bool (decide_eq_false (ne_of_at hx.out hy.out (of_decide_eq_false Hr.out))).symm,bch hb hb1⟩
    ·go_wp2
     go_roundg (xs.length - (k + 1))
     case measure=>omega
     case rel=>exact ⟨k + 1,by omega,rfl,by go_num,bch hb hb1,take_eq_succ Hp.out hx.out (of_decide_eq_true Hr.out ▸ hy.out)⟩
   ·go_wp2
    go_ret
    exact ⟨ret_bool (decide_eq_true (eq_of_take Hp.out (by omega) (by have:=hl'.out;omega))).symm,hb⟩
 ·go_enter Tryz.func32,Tryz.ntmps32
  go_wp2
  go_ret
  exact ⟨ret_bool (decide_eq_false fun he=>hl (by rw [he])).symm,Below.refl _ _⟩

set_option maxHeartbeats 400000 in
theorem szValueSS_ok (A:Option Addr) (c:Nat) (rows:List Row1) (left:Int) (w:World) (hn:rows.length ≤ maxLen) (h0:0 ≤ left) (h1:left ≤ 1048576) (h:Rws w w.heap.size A rows) (r:Int) (hr:szR left rows=r) :
 Calls Tryz.prog 43 #[.slice A rows.length c,.int .i64 left] w fun e w'=>e=.returned (.int .i64 r) ∧ w=w':=by
 unfold maxLen at hn
 have Hr:=Lib.hid hr
 clear hr
 by_cases hs:left - rows.length < 0
 ·go_enter Tryz.func43,Tryz.ntmps43
  go_wp2
  go_ret
  exact ⟨ret_int (by rw [← Hr.out,szR,if_pos hs]),rfl⟩
 ·have e:szR left rows=szL (left - rows.length) (rows.drop 0):=by rw [szR,if_neg hs];rfl
  have He:=Lib.hid e
  clear e
  go_enter Tryz.func43,Tryz.ntmps43
  go_wp2
  go_loop [1,5] (fun l i=>∃ (k:Nat) (m:Int),k ≤ rows.length ∧ i=.int .i64 k ∧ l=.int .i64 m ∧ 0 ≤ m ∧ m ≤ 1048576 ∧ szL (left - rows.length) (rows.drop 0)=szL m (rows.drop k)) (fun _ i=>rows.length - (intOf i).toNat)
  case atStart=>exact ⟨0,_,by omega,rfl,rfl,by omega,by omega,rfl⟩
  case round=>
   obtain ⟨k,m,hk,rfl,rfl,hm0,hm1,hp⟩:=hrel
   have Hp:=Lib.hid hp
   clear hp
   by_cases hlt:k < rows.length
   ·obtain ⟨b,off,A1,C1,rfl,hB,c1,hc1,hm2,s1⟩:=h.at_ hlt
    have hx:=Lib.hid (List.getElem?_eq_getElem hlt)
    generalize rows[k]=x at *
    have hst:=Lib.hid (szL_step (l:=m) hx.out)
    by_cases hn2:m - x.length < 0
    ·have Hk:=Lib.hid (szValueS_ok A1 x.length C1 m w (by omega) hm0 hm1 (-1) (if_pos hn2))
     have Hn2:=Lib.hid hn2
     clear s1 hc1 hm2 hn2
     go_wp2_with (go_at_call 63;refine Hk.out.mono ?_;rintro e w' ⟨rfl,rfl⟩)
     go_ret
     exact ⟨ret_int (by rw [← Hr.out,He.out,Hp.out,hst.out,if_pos Hn2.out]),rfl⟩
    ·obtain ⟨m',hm'⟩:∃ m',m - x.length=m':=⟨_,rfl⟩
     have Hk:=Lib.hid (szValueS_ok A1 x.length C1 m w (by omega) hm0 hm1 m' (by rw [if_neg hn2,hm']))
     have hm0':0 ≤ m':=by omega
     have hm1':m' ≤ 1048576:=by omega
     have e2:szL m (rows.drop k)=szL m' (rows.drop (k + 1)):=by rw [hst.out,if_neg hn2,hm']
     have E2:=Lib.hid e2
     clear s1 hc1 hm2 hn2 hm' e2
     go_wp2_with (go_at_call 63;refine Hk.out.mono ?_;rintro e w' ⟨rfl,rfl⟩)
     go_round
     case rel=>exact ⟨k + 1,m',by omega,by go_num,rfl,hm0',hm1',by rw [Hp.out,E2.out]⟩
     case measure=>simp [intOf];omega
   ·go_wp2
    go_ret
    exact ⟨ret_int (by rw [← Hr.out,He.out,Hp.out,List.drop_eq_nil_of_le (by omega)];rfl),rfl⟩

theorem zeroRow:(Tryz.prog.info? 100).map (fun i=>(i.zero,i.size,i.bytes))=some (some (.slice none 0 0),1,24):=by kernel_rfl

structure CopyK (w:World) (B0:Nat) (bs:List Nat) (rows:List Row1) (k:Nat):Prop where
 len:bs.length=k
 outer:Row w B0 100 (rowsC bs (rows.take k) ++ zeros [.slice none 0 0] (rows.length - k))
 inner:∀ (i c:Nat) (r:Row1),bs[i]? = some c → rows[i]? = some r → Row w c 85 (r.flatMap valC)
 nodup:bs.Nodup
 low:∀ c ∈ bs,B0 < c ∧ c < w.heap.size

theorem CopyK.next {w w1:World} {B0:Nat} {bs:List Nat} {rows:List Row1} {k:Nat} {r:Row1} (h:CopyK w B0 bs rows k) (hB:B0 < w.heap.size) (hr:rows[k]? = some r) (hb:Below w.heap.size w w1) (hrow:Row w1 w.heap.size 85 (r.flatMap valC)) :
 CopyK (w1.setCell ⟨B0,k,none⟩ (.slice (some ⟨w.heap.size,0,none⟩) r.length r.length)) B0 (bs ++ [w.heap.size]) rows (k + 1):=by
 obtain ⟨hk,_⟩:=List.getElem?_eq_some_iff.1 hr
 have hl:(rows.take k).length=k:=by rw [List.length_take];omega
 have hlt:=hrow.lt
 refine ⟨by simp [h.len],?_,fun i c x h1 h2=>?_,?_,fun c hc=>?_⟩
 ·refine ((h.outer.on hb).set k _).of ?_
  have hL:(rowsC bs (rows.take k)).length=k:=by rw [rowsC_length _ _ (by rw [h.len,hl]),hl]
  rw [List.take_add_one,hr,Option.toList,rowsC_snoc _ _ (by rw [h.len,hl]),List.set_append_right _ _ (by omega),hL,Nat.sub_self,
   show rows.length - k=(rows.length - (k + 1)) + 1 by omega,zeros_succ]
  simp
 ·rcases Nat.lt_or_ge i bs.length with hi | hi
  ·rw [List.getElem?_append_left hi] at h1
   have hc:=h.low c (List.mem_of_getElem? h1)
   exact ((h.inner i c x h1 h2).on hb).far (p:=⟨_,_,none⟩) (by dsimp only;omega) _
  ·rw [List.getElem?_append_right hi] at h1
   have:i - bs.length=0:=by
    rcases Nat.eq_zero_or_pos (i - bs.length) with h3 | h3
    ·exact h3
    ·rw [List.getElem?_eq_none (by simp;omega)] at h1;cases h1
   rw [this] at h1
   simp only [List.getElem?_cons_zero,Option.some.injEq] at h1
   subst h1
   obtain rfl:i=k:=by rw [← h.len];omega
   rw [hr] at h2;cases h2
   exact hrow.far (p:=⟨_,_,none⟩) (by dsimp only;omega) _
 ·rw [List.nodup_append]
  exact ⟨h.nodup,by simp,fun a ha b hb'=>by
   simp only [List.mem_singleton] at hb'
   have:=(h.low a ha).2;omega⟩
 ·rw [World.size_setCell]
  rcases List.mem_append.1 hc with hc | hc
  ·have:=h.low c hc;have:=hb.size;omega
  ·simp only [List.mem_singleton] at hc;omega

theorem CopyK.below {w w1:World} {B0:Nat} {bs:List Nat} {rows:List Row1} {k:Nat} (h:CopyK w B0 bs rows k) (hb:Below w.heap.size w w1):CopyK w1 B0 bs rows k:=
 ⟨h.len,h.outer.on hb,fun i c r h1 h2=>(h.inner i c r h1 h2).on hb,h.nodup,fun c hc=>by have:=h.low c hc;have:=hb.size;omega⟩

theorem CopyK.done {w:World} {B0:Nat} {bs:List Nat} {rows:List Row1} {k:Nat} (h:CopyK w B0 bs rows k) (hk:k=rows.length):OwnRs valC 100 85 w B0 B0 bs rows []:=by
 subst hk
 refine ⟨h.len,h.outer.of (by rw [List.take_length,Nat.sub_self];rfl),h.inner,h.nodup,fun c hc=>?_,Nat.le_refl _⟩
 have:=h.low c hc;omega

set_option maxHeartbeats 400000 in
theorem toValueSS_ok (A:Option Addr) (c:Nat) (rows:List Row1) (w:World) (hn:rows.length ≤ 1048576) (hm:∀ r ∈ rows,r.length ≤ 1048576) (h:Rws w w.heap.size A rows) :
 Calls Tryz.prog 55 #[.slice A rows.length c] w fun e w'=>e=.returned (.slice (some ⟨w.heap.size,0,none⟩) rows.length rows.length) ∧ Below w.heap.size w w' ∧ ∃ bs,OwnRs valC 100 85 w' w.heap.size w.heap.size bs rows []:=by
 have hmk:=run_make_rowN (P:=Tryz.prog) 30 100 _ _ _ Tryz.underlying30 zeroRow .i64 .i64 rows.length (by omega) (by omega)
 have Hm:=Lib.hid hm
 clear hm
 go_enter Tryz.func55,Tryz.ntmps55
 go_wp2
 go_loopg [4] (rows.length) (fun g i wr=>∃ (k:Nat) (bs:List Nat),k ≤ rows.length ∧ g=rows.length - k ∧ i=.int .i64 k ∧ Below w.heap.size w wr ∧ w.heap.size < wr.heap.size ∧ CopyK wr w.heap.size bs rows k)
 case atStart=>
  exact ⟨0,[],by omega,by omega,rfl,balloc (Below.refl _ _) _,by simp,⟨rfl,(Row.new _ _ _).of (by have h1:=made_zeros [.slice none 0 0] rows.length;rw [List.length_singleton,Nat.mul_one] at h1;exact h1),fun i c r h1=>by simp at h1,List.nodup_nil,fun c hc=>by simp at hc⟩⟩
 case round=>
  obtain ⟨k,bs,hk,rfl,rfl,hb,hsz,hcp⟩:=hrel
  by_cases hlt:k < rows.length
  ·obtain ⟨b,off,A1,C1,rfl,hB,c1,hc1,hm1,s1⟩:=(h.on hb).at_ hlt
   have hx:=Lib.hid (List.getElem?_eq_getElem hlt)
   generalize rows[k]=x at *
   have hxl:=Hm.out x (List.mem_of_getElem? hx.out)
   have Hk:=Lib.hid (toValueS_ok A1 C1 x wr hxl s1)
   have Hcp:=Lib.hid hcp
   have hlen:k < (rowsC bs (rows.take k) ++ zeros [.slice none 0 0] (rows.length - k)).length:=by
    have hl:(rows.take k).length=k:=by rw [List.length_take];omega
    rw [List.length_append,rowsC_length _ _ (by rw [hcp.len,hl]),hl,zeros_length];simp;omega
   obtain ⟨v1,hv1⟩:∃ v,(rowsC bs (rows.take k) ++ zeros [.slice none 0 0] (rows.length - k))[k]? = some v:=⟨_,List.getElem?_eq_getElem hlen⟩
   have Hv1:=Lib.hid hv1
   clear hlen hv1 hcp s1 hc1 hm1 hxl
   go_wp2_with (go_at_call 79;refine Hk.out.mono ?_;rintro e w1 ⟨rfl,hb1,hr1⟩;have hrow1:=Hcp.out.outer.on hb1;have e1:=(hrow1.cell k).trans Hv1.out;have e3:=hrow1.frozen k;have Hr1:=Lib.hid hr1;clear hrow1 hr1)
   go_roundg (rows.length - (k + 1))
   case measure=>omega
   case rel=>
    have hs1:=hb1.size
    exact ⟨k + 1,_,by omega,rfl,by go_num,(bch hb hb1).setCell (p:=⟨_,_,none⟩) (Nat.le_refl _) _,by rw [World.size_setCell];omega,Hcp.out.next hsz hx.out hb1 Hr1.out⟩
  ·go_wp2
   go_ret
   exact ⟨rfl,hb,bs,hcp.done (by omega)⟩

end Go.Proofs.YtcbfbgngkdiijaaGreat

namespace Go.Proofs.YtcbfbgngkdiijaaGreat
open Go.RowKit Go.Qo
set_option linter.unusedVariables false
set_option linter.unusedSimpArgs false

theorem bfalse {r:Bool} {p:Prop} (hr:r=true ↔ p) (h:¬ p):r=false:=by
 cases r
 ·rfl
 ·exact absurd (hr.1 rfl) h
theorem btrue {r:Bool} {p:Prop} (hr:r=true ↔ p) (h:p):r=true:=hr.2 h

set_option maxHeartbeats 1000000 in
theorem specValidTable_ok (W:Int) (A:Option Addr) (c:Nat) (rows:List Row1) (w:World) (hn:rows.length ≤ maxLen) (h:Rws w w.heap.size A rows) (r:Bool) (hr:r=true ↔ TabOk W rows) :
 Calls Tryz.prog 46 #[.agg #[.int .i64 W,.slice A rows.length c]] w fun e w'=>e=.returned (.bool r) ∧ Below w.heap.size w w':=by
 have Hr:=Lib.hid hr
 clear hr
 unfold maxLen at hn
 go_enter Tryz.func46,Tryz.ntmps46
 go_wp2
 go_loopg [3] (rows.length) (fun g i wr=>∃ k:Nat,k ≤ rows.length ∧ g=rows.length - k ∧ i=.int .i64 k ∧ Below w.heap.size w wr ∧ Row wr w.heap.size 32 [.int .i64 W,.slice A rows.length c] ∧ TabUpto W rows k)
 case atStart=>exact ⟨0,by omega,by omega,rfl,balloc (Below.refl _ _) _,Row.new _ _ _,TabUpto.zero⟩
 case round=>
  obtain ⟨k,hk,rfl,rfl,hb,hbox,hp⟩:=hrel
  have Hp:=Lib.hid hp
  have hblt:=hbox.lt
  have b0:wr.cell? ⟨w.heap.size,0,none⟩=some (.int .i64 W):=hbox.cell 0
  have b1:wr.cell? ⟨w.heap.size,1,none⟩=some (.slice A rows.length c):=hbox.cell 1
  have B0:=fun z:Aft wr.heap.size wr=>z.cell hblt b0
  have B1:=fun z:Aft wr.heap.size wr=>z.cell hblt b1
  have Hbox:=Lib.hid hbox
  clear hp hbox
  by_cases hlt:k < rows.length
  ·obtain ⟨b,off,A1,C1,hA,hB,c1,hc1,hm1,s1⟩:=(h.on hb).at_ hlt
   have hx:=Lib.hid (List.getElem?_eq_getElem hlt)
   have Hh:=Lib.hid (h.on hb)
   generalize rows[k]=x at *
   subst hA
   have d1:=fun z:Aft wr.heap.size wr=>z.cell hB c1
   obtain ⟨q,hq⟩:∃ q,rowValid x=q:=⟨_,rfl⟩
   have HV:=Lib.hid (fun z:Aft wr.heap.size wr=>specValidRow_ok A1 C1 x z.v (by omega) (s1.on z.h) q hq)
   have Hq:=Lib.hid hq
   have hlx:x.length ≤ 9223372036854775807:=by unfold maxLen at hm1;omega
   have S1:=Lib.hid s1
   have HC:=Lib.hid (And.intro hc1 hm1)
   clear hq s1 hc1 hm1 h
   cases q
   ·have hf:r=false:=bfalse Hr.out fun ht=>by have:=(ht.row hx.out).1;rw [Hq.out] at this;cases this
    subst hf
    go_wp2
    refine wp_region_aft wr.heap.size (by kernel_rfl) (by kernel_rfl) ?_
    repeat (go_big_quiet_step ((go_at_call 69;exact Calls.aft (Nat.le_refl _) (HV.out _))))
    refine wpQuiet_nil ?_
    intro _ hw'
    obtain ⟨⟨w1,hb1⟩,rfl⟩:=hw'
    go_wp2
    go_ret
    exact ⟨rfl,bch hb hb1⟩
   ·by_cases hw:(x.length:Int)=W
    ·have hwb:((x.length:Int) != W)=false:=by simp [hw]
     have Hw:=Lib.hid hw
     clear hw
     rcases Nat.eq_zero_or_pos k with h0 | h0
     ·subst h0
      have c1':wr.cell? ⟨b,off,none⟩=some (.slice A1 x.length C1):=by simpa using c1
      have d1':=fun z:Aft wr.heap.size wr=>z.cell hB c1'
      go_wp2
      refine wp_region_aft wr.heap.size (by kernel_rfl) (by kernel_rfl) ?_
      repeat (go_big_quiet_step ((go_at_call 69;exact Calls.aft (Nat.le_refl _) (HV.out _))))
      refine wpQuiet_nil ?_
      intro _ hw'
      obtain ⟨⟨w1,hb1⟩,rfl⟩:=hw'
      go_wp2
      go_roundg (rows.length - 1)
      case measure=>omega
      case rel=>exact ⟨1,by omega,rfl,by go_num,bch hb hb1,Hbox.out.on hb1,TabUpto.first hx.out Hq.out Hw.out⟩
     ·obtain ⟨b2,off2,A2,C2,hA2,hB2,c2,hc2,hm2,s2⟩:=Hh.out.at_ (i:=k - 1) (by omega)
      have hy:=Lib.hid (List.getElem?_eq_getElem (show k - 1 < rows.length by omega))
      generalize rows[k - 1]=y at *
      cases hA2
      have d2:=fun z:Aft wr.heap.size wr=>z.cell hB2 c2
      obtain ⟨R,hR⟩:∃ R,rCmp y x=R:=⟨_,rfl⟩
      have HK:=Lib.hid (fun z:Aft wr.heap.size wr=>specCompareRows_ok A2 A1 C2 C1 y x z.v (by omega) (by have:=HC.out;omega) (s2.on z.h) (S1.out.on z.h) R hR)
      have HR:=Lib.hid hR
      clear hR s2 hc2 hm2
      have h0':(0:Int) < (k:Int):=by omega
      have i1:IntKind.i64.wrap ((k:Int) - 1)=(k:Int) - 1:=IntWalk.i64_in _ (by omega)
      have i2:((k:Int) - 1).toNat=k - 1:=by omega
      have i3:(0:Int) ≤ (k:Int) - 1:=by omega
      have i4:(k:Int) - 1 < (rows.length:Int):=by omega
      by_cases hR0:0 < R
      ·have hf:r=false:=bfalse Hr.out fun ht=>by have:=ht.2.2.2.2 (k - 1) y x hy.out (by rw [show k - 1 + 1=k by omega];exact hx.out);rw [HR.out] at this;omega
       subst hf
       go_wp2
       refine wp_region_aft wr.heap.size (by kernel_rfl) (by kernel_rfl) ?_
       repeat (go_big_quiet_step (first | (go_at_call 69;exact Calls.aft (Nat.le_refl _) (HV.out _)) | (go_at_call 70;exact Calls.aft (Nat.le_refl _) (HK.out _))))
       refine wpQuiet_nil ?_
       intro _ hw'
       obtain ⟨⟨w1,hb1⟩,rfl⟩:=hw'
       go_wp2
       go_ret
       exact ⟨rfl,bch hb hb1⟩
      ·go_wp2
       refine wp_region_aft wr.heap.size (by kernel_rfl) (by kernel_rfl) ?_
       repeat (go_big_quiet_step (first | (go_at_call 69;exact Calls.aft (Nat.le_refl _) (HV.out _)) | (go_at_call 70;exact Calls.aft (Nat.le_refl _) (HK.out _))))
       refine wpQuiet_nil ?_
       intro _ hw'
       obtain ⟨⟨w1,hb1⟩,rfl⟩:=hw'
       go_wp2
       go_roundg (rows.length - (k + 1))
       case measure=>omega
       case rel=>
        refine ⟨k + 1,by omega,rfl,by go_num,bch hb hb1,Hbox.out.on hb1,?_⟩
        obtain ⟨j,rfl⟩:∃ j,k=j + 1:=⟨k - 1,by omega⟩
        exact Hp.out.succ hy.out hx.out Hq.out Hw.out (by rw [HR.out];omega)
    ·have hwb:((x.length:Int) != W)=true:=by simp [hw]
     have hf:r=false:=bfalse Hr.out fun ht=>hw (ht.row hx.out).2
     subst hf
     clear hw
     go_wp2
     refine wp_region_aft wr.heap.size (by kernel_rfl) (by kernel_rfl) ?_
     repeat (go_big_quiet_step ((go_at_call 69;exact Calls.aft (Nat.le_refl _) (HV.out _))))
     refine wpQuiet_nil ?_
     intro _ hw'
     obtain ⟨⟨w1,hb1⟩,rfl⟩:=hw'
     go_wp2
     go_ret
     exact ⟨rfl,bch hb hb1⟩
  ·obtain ⟨q,hq⟩:∃ q,(decide ((1:Int) ≤ W) && decide (W ≤ 6))=q:=⟨_,rfl⟩
   have Hk:=Lib.hid (fun w=>inRange_ok W 1 6 w q hq)
   have Hq:=Lib.hid hq
   clear hq
   cases q
   ·go_wp2_with (go_at_call 64;refine (Hk.out _).mono ?_;rintro e w' ⟨rfl,rfl⟩)
    go_ret
    exact ⟨ret_bool (bfalse Hr.out fun ht=>by have:=Hq.out;simp [ht.1,ht.2.1] at this).symm,hb⟩
   ·have hq2:1 ≤ W ∧ W ≤ 6:=by simpa using Hq.out
    by_cases h4:rows.length ≤ 400
    ·go_wp2_with (go_at_call 64;refine (Hk.out _).mono ?_;rintro e w' ⟨rfl,rfl⟩)
     go_ret
     exact ⟨ret_bool (by rw [btrue Hr.out (Hp.out.all (by omega) hq2.1 hq2.2 h4)];simp;try omega),hb⟩
    ·go_wp2_with (go_at_call 64;refine (Hk.out _).mono ?_;rintro e w' ⟨rfl,rfl⟩)
     go_ret
     exact ⟨ret_bool (by rw [bfalse Hr.out fun ht=>h4 ht.2.2.1];simp;try omega),hb⟩

set_option maxHeartbeats 1000000 in
theorem implValidTable_ok (W:Int) (A:Option Addr) (c:Nat) (rows:List Row1) (w:World) (hn:rows.length ≤ maxLen) (h:Rws w w.heap.size A rows) (r:Bool) (hr:r=true ↔ TabOk W rows) :
 Calls Tryz.prog 80 #[.agg #[.int .i64 W,.slice A rows.length c]] w fun e w'=>e=.returned (.bool r) ∧ Below w.heap.size w w':=by
 have Hr:=Lib.hid hr
 clear hr
 unfold maxLen at hn
 obtain ⟨q,hq⟩:∃ q,(decide ((1:Int) ≤ W) && decide (W ≤ 6))=q:=⟨_,rfl⟩
 have HW:=Lib.hid (fun w=>validWidth_ok W w q hq)
 have HQ:=Lib.hid hq
 clear hq
 cases q
 ·have hf:r=false:=bfalse Hr.out fun ht=>by have:=HQ.out;simp [ht.1,ht.2.1] at this
  subst hf
  go_enter Tryz.func80,Tryz.ntmps80
  go_wp2_with (go_at_call 100;refine (HW.out _).mono ?_;rintro e w' ⟨rfl,rfl⟩)
  go_ret
  exact ⟨rfl,balloc (Below.refl _ _) _⟩
 ·have hq2:1 ≤ W ∧ W ≤ 6:=by simpa using HQ.out
  have HQ2:=Lib.hid hq2
  clear hq2
  by_cases h4:400 < rows.length
  ·have hf:r=false:=bfalse Hr.out fun ht=>by have:=ht.2.2.1;omega
   subst hf
   go_enter Tryz.func80,Tryz.ntmps80
   go_wp2_with (go_at_call 100;refine (HW.out _).mono ?_;rintro e w' ⟨rfl,rfl⟩)
   go_ret
   exact ⟨rfl,balloc (Below.refl _ _) _⟩
  ·go_enter Tryz.func80,Tryz.ntmps80
   go_wp2_with (go_at_call 100;refine (HW.out _).mono ?_;rintro e w' ⟨rfl,rfl⟩)
   go_loopg [18] (rows.length) (fun g i wr=>∃ k:Nat,k ≤ rows.length ∧ g=rows.length - k ∧ i=.int .i64 k ∧ Below w.heap.size w wr ∧ Row wr w.heap.size 32 [.int .i64 W,.slice A rows.length c] ∧ TabUpto W rows k)
   case atStart=>exact ⟨0,by omega,by omega,rfl,balloc (Below.refl _ _) _,Row.new _ _ _,TabUpto.zero⟩
   case round=>
    obtain ⟨k,hk,rfl,rfl,hb,hbox,hp⟩:=hrel
    have Hp:=Lib.hid hp
    have hblt:=hbox.lt
    have b0:wr.cell? ⟨w.heap.size,0,none⟩=some (.int .i64 W):=hbox.cell 0
    have b1:wr.cell? ⟨w.heap.size,1,none⟩=some (.slice A rows.length c):=hbox.cell 1
    have Hbox:=Lib.hid hbox
    clear hp hbox
    by_cases hlt:k < rows.length
    ·obtain ⟨b,off,A1,C1,hA,hB,c1,hc1,hm1,s1⟩:=(h.on hb).at_ hlt
     have hx:=Lib.hid (List.getElem?_eq_getElem hlt)
     have Hh:=Lib.hid (h.on hb)
     generalize rows[k]=x at *
     subst hA
     obtain ⟨q,hq⟩:∃ q,rowValid x=q:=⟨_,rfl⟩
     have HV:=Lib.hid (implValidRow_ok A1 C1 x wr (by omega) s1 q hq)
     have Hq:=Lib.hid hq
     have hlx:x.length ≤ 9223372036854775807:=by unfold maxLen at hm1;omega
     have S1:=Lib.hid s1
     have HC:=Lib.hid (And.intro hc1 hm1)
     clear hq s1 hc1 hm1 h
     by_cases hw:(x.length:Int)=W
     ·have hwb:((x.length:Int) != W)=false:=by simp [hw]
      have Hw:=Lib.hid hw
      clear hw
      cases q
      ·have hf:r=false:=bfalse Hr.out fun ht=>by have:=(ht.row hx.out).1;rw [Hq.out] at this;cases this
       subst hf
       go_wp2_with (go_at_call 101;refine HV.out.mono ?_;rintro e w1 ⟨rfl,hb1⟩)
       go_ret
       exact ⟨rfl,bch hb (by assumption)⟩
      ·rcases Nat.eq_zero_or_pos k with h0 | h0
       ·subst h0
        have c1':wr.cell? ⟨b,off,none⟩=some (.slice A1 x.length C1):=by simpa using c1
        go_wp2_with (go_at_call 101;refine HV.out.mono ?_;rintro e w1 ⟨rfl,hb1⟩)
        go_roundg (rows.length - 1)
        case measure=>omega
        case rel=>exact ⟨1,by omega,rfl,by go_num,bch hb (by assumption),Hbox.out.on (by assumption),TabUpto.first hx.out Hq.out Hw.out⟩
       ·obtain ⟨b2,off2,A2,C2,hA2,hB2,c2,hc2,hm2,s2⟩:=Hh.out.at_ (i:=k - 1) (by omega)
        have hy:=Lib.hid (List.getElem?_eq_getElem (show k - 1 < rows.length by omega))
        generalize rows[k - 1]=y at *
        cases hA2
        obtain ⟨R,hR⟩:∃ R,rCmp y x=R:=⟨_,rfl⟩
        have hyv:=Hp.out.1 (k - 1) y (by omega) hy.out
        have hrp:rpCmp y x=R:=by rw [rp_eq hyv.1 Hq.out (by have:=hyv.2;have:=Hw.out;omega),hR]
        have HK:=Lib.hid (fun (z:World) (hz:Below wr.heap.size wr z)=>implCompareRows_ok A2 A1 C2 C1 y x z (by omega) (by have:=HC.out;omega) (s2.on hz) (S1.out.on hz))
        rw [hrp] at HK
        have HR:=Lib.hid hR
        clear hR s2 hc2 hm2 hyv hrp
        have h0':(0:Int) < (k:Int):=by omega
        have i2:((k:Int) - 1).toNat=k - 1:=by omega
        by_cases hR0:0 < R
        ·have hf:r=false:=bfalse Hr.out fun ht=>by have:=ht.2.2.2.2 (k - 1) y x hy.out (by rw [show k - 1 + 1=k by omega];exact hx.out);rw [HR.out] at this;omega
         subst hf
         go_wp2_with (first | (go_at_call 101;refine HV.out.mono ?_;rintro e w1 ⟨rfl,hb1⟩;have b1':w1.cell? ⟨w.heap.size,1,none⟩=some (.slice (some ⟨b,off,none⟩) rows.length c):=(Hbox.out.on hb1).cell 1;have c2':w1.cell? ⟨b,off + (k - 1),none⟩=some (.slice A2 y.length C2):=((hb1.cell (p:=⟨b,_,none⟩) hB).trans c2);have hb1':=Lib.hid hb1) | (go_at_call 102;refine (HK.out _ hb1').mono ?_;rintro e w2 ⟨rfl,hb2⟩))
         go_ret
         exact ⟨rfl,bch (bch hb hb1'.out) (by assumption)⟩
        ·go_wp2_with (first | (go_at_call 101;refine HV.out.mono ?_;rintro e w1 ⟨rfl,hb1⟩;have b1':w1.cell? ⟨w.heap.size,1,none⟩=some (.slice (some ⟨b,off,none⟩) rows.length c):=(Hbox.out.on hb1).cell 1;have c2':w1.cell? ⟨b,off + (k - 1),none⟩=some (.slice A2 y.length C2):=((hb1.cell (p:=⟨b,_,none⟩) hB).trans c2);have hb1':=Lib.hid hb1) | (go_at_call 102;refine (HK.out _ hb1').mono ?_;rintro e w2 ⟨rfl,hb2⟩))
         go_roundg (rows.length - (k + 1))
         case measure=>omega
         case rel=>
          refine ⟨k + 1,by omega,rfl,by go_num,bch (bch hb hb1'.out) (by assumption),(Hbox.out.on hb1'.out).on (by assumption),?_⟩
          obtain ⟨j,rfl⟩:∃ j,k=j + 1:=⟨k - 1,by omega⟩
          exact Hp.out.succ hy.out hx.out Hq.out Hw.out (by rw [HR.out];omega)
     ·have hwb:((x.length:Int) != W)=true:=by simp [hw]
      have hf:r=false:=bfalse Hr.out fun ht=>hw (ht.row hx.out).2
      subst hf
      clear hw
      go_wp2
      go_ret
      exact ⟨rfl,hb⟩
    ·go_wp2
     go_ret
     exact ⟨ret_bool (by rw [btrue Hr.out (Hp.out.all (by omega) HQ2.out.1 HQ2.out.2 (by omega))]),hb⟩

set_option maxHeartbeats 400000 in
theorem szTable_ok (W:Int) (A:Option Addr) (c:Nat) (rows:List Row1) (left:Int) (w:World) (hn:rows.length ≤ maxLen) (h0:0 ≤ left) (h1:left ≤ 1048576) (h:Rws w w.heap.size A rows) (r:Int) (hr:szR left rows=r) :
 Calls Tryz.prog 23 #[.agg #[.int .i64 W,.slice A rows.length c],.int .i64 left] w fun e w'=>e=.returned (.int .i64 r) ∧ Below w.heap.size w w':=by
 have Hk:=Lib.hid (fun (z:World) (hz:Below w.heap.size w z)=>szValueSS_ok A c rows left z hn h0 h1 (h.on hz) r hr)
 have hr2:r=-1 ∨ 0 ≤ r:=by rcases szR_range rows left h0 with h2 | h2 <;> omega
 clear hr h
 unfold maxLen at hn
 rcases hr2 with rfl | hr2
 all_goals
  go_enter Tryz.func23,Tryz.ntmps23
  go_wp2_with (go_at_call 43;refine (Hk.out _ (balloc (Below.refl _ _) _)).mono ?_;rintro e w' ⟨rfl,rfl⟩)
  go_ret
  exact ⟨rfl,balloc (Below.refl _ _) _⟩

set_option maxHeartbeats 400000 in
theorem eqTable_ok (W W':Int) (A A':Option Addr) (c c':Nat) (xs ys:List Row1) (w:World) (hn:xs.length ≤ maxLen) (hn':ys.length ≤ maxLen) (h:Rws w w.heap.size A xs) (h':Rws w w.heap.size A' ys) (r:Bool) (hr:r=true ↔ (W=W' ∧ xs=ys)) :
 Calls Tryz.prog 11 #[.agg #[.int .i64 W,.slice A xs.length c],.agg #[.int .i64 W',.slice A' ys.length c']] w fun e w'=>e=.returned (.bool r) ∧ Below w.heap.size w w':=by
 have Hr:=Lib.hid hr
 obtain ⟨d,hd⟩:∃ d,decide (xs=ys)=d:=⟨_,rfl⟩
 have Hk:=Lib.hid (fun (z:World) (hz:Below w.heap.size w z)=>eqValueSS_ok A A' c c' xs ys z hn hn' (h.on hz) (h'.on hz))
 rw [hd] at Hk
 have Hd:=Lib.hid hd
 clear hr h h' hd
 by_cases hW:W=W'
 ·subst hW
  have hrd:r=d:=by
   cases d
   ·exact bfalse Hr.out fun ht=>of_decide_eq_false Hd.out ht.2
   ·exact btrue Hr.out ⟨rfl,of_decide_eq_true Hd.out⟩
  subst hrd
  cases r
  all_goals
   go_enter Tryz.func11,Tryz.ntmps11
   go_wp2_with (go_at_call 32;refine (Hk.out _ (balloc (balloc (Below.refl _ _) _) _)).mono ?_;rintro e w1 ⟨rfl,hb1⟩)
   go_ret
   exact ⟨rfl,bbox2 (by assumption)⟩
 ·have hf:r=false:=bfalse Hr.out fun ht=>hW ht.1
  subst hf
  have hwb:(W != W')=true:=by simp [hW]
  clear hW
  go_enter Tryz.func11,Tryz.ntmps11
  go_wp2
  go_ret
  exact ⟨rfl,balloc (balloc (Below.refl _ _) _) _⟩

theorem resToTable {b:Nat} {v0 v1:Value} (tmps:Array Value) (hp:tmps.getD 2 undef=.pointer (some ⟨b,0,none⟩)) (w:World) (c0:w.cell? ⟨b,0,none⟩=some v0) (c1:w.cell? ⟨b,1,none⟩=some v1) :
 (results Tryz.f30 tmps).run Tryz.prog w=.ok (.agg #[v0,v1]) w:=by
 simp only [Array.getD_eq_getD_getElem?] at hp
 simp [results,Tryz.results30,go_sem,hp,c0,c1]

set_option maxHeartbeats 400000 in
theorem toTable_ok (W:Int) (A:Option Addr) (c:Nat) (rows:List Row1) (w:World) (hn:rows.length ≤ 1048576) (hm:∀ r ∈ rows,r.length ≤ 1048576) (h:Rws w w.heap.size A rows) :
 Calls Tryz.prog 30 #[.agg #[.int .i64 W,.slice A rows.length c]] w fun e w'=>∃ b bs,e=.returned (.agg #[.int .i64 W,.slice (some ⟨b,0,none⟩) rows.length rows.length]) ∧ Below w.heap.size w w' ∧ OwnRs valC 100 85 w' w.heap.size b bs rows []:=by
 have Hk:=Lib.hid (fun (z:World) (hz:Below w.heap.size w z)=>toValueSS_ok A c rows z hn hm (h.on hz))
 clear h hm
 go_enter Tryz.func30,Tryz.ntmps30
 go_wp2_with fail
 refine (Hk.out _ (balloc (balloc (balloc (Below.refl _ _) _) _) _)).mono ?_
 rintro e w1 ⟨rfl,hb1,bs,ho⟩
 have r1:=(Row.third _ _ _ _ _).on hb1
 have r2:=((Row.second _ _ _ _).alloc _).on hb1
 have e0:w1.cell? ⟨w.heap.size + 1 + 1,0,none⟩=some (.int .i64 W):=r1.cell 0
 have e1:w1.cell? ⟨w.heap.size + 1 + 1,1,none⟩=some (.slice none 0 0):=r1.cell 1
 have e2:w1.cell? ⟨w.heap.size + 1,0,none⟩=some (.int .i64 0):=r2.cell 0
 have e3:w1.cell? ⟨w.heap.size + 1,1,none⟩=some (.slice none 0 0):=r2.cell 1
 have g1:w1.frozen? ⟨w.heap.size + 1 + 1,1,none⟩=false:=r1.frozen 1
 have g2:w1.frozen? ⟨w.heap.size + 1,0,none⟩=false:=r2.frozen 0
 have g3:w1.frozen? ⟨w.heap.size + 1,1,none⟩=false:=r2.frozen 1
 have Ho:=Lib.hid ho
 have Hr1:=Lib.hid r1
 have Hr2:=Lib.hid r2
 clear ho r1 r2
 go_wp2
 have rf:=(((Hr2.out.far (p:=⟨w.heap.size + 1 + 1,1,none⟩) (by simp) (.slice (some ⟨w.heap.size + 1 + 1 + 1,0,none⟩) rows.length rows.length)).set 0 (.int .i64 W)).set 1 (.slice (some ⟨w.heap.size + 1 + 1 + 1,0,none⟩) rows.length rows.length))
 refine bodyPost_ret (resToTable _ rfl _ (rf.cell 0) (rf.cell 1)) rfl ?_
 refine ⟨_,bs,rfl,(((bbox3 hb1).setCell (p:=⟨_,_,none⟩) (by simp;omega) _).setCell (p:=⟨_,_,none⟩) (by simp) _).setCell (p:=⟨_,_,none⟩) (by simp) _,?_⟩
 have ho:=Ho.out
 simp only [World.size_alloc] at ho
 exact (((ho.setFar (p:=⟨_,_,none⟩) (by simp) _).setFar (p:=⟨_,_,none⟩) (by simp) _).setFar (p:=⟨_,_,none⟩) (by simp) _).lower (by omega)

end Go.Proofs.YtcbfbgngkdiijaaGreat
