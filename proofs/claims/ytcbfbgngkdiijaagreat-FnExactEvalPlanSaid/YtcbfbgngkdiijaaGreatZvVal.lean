import Derived.Test.YtcbfbgngkdiijaaGreatProg
import Derived.Test.YtcbfbgngkdiijaaGreatZvPln
namespace Go.Proofs.YtcbfbgngkdiijaaGreat
open Go.RowKit Go.Qo
set_option linter.unusedVariables false
set_option linter.unusedSimpArgs false

set_option maxHeartbeats 400000 in
theorem inRange_ok (n lo hi:Int) (w:World) (r:Bool) (hr:(decide (lo ≤ n) && decide (n ≤ hi))=r) :
 Calls Tryz.prog 64 #[.int .i64 n,.int .i64 lo,.int .i64 hi] w fun e w'=>e=.returned (.bool r) ∧ w=w':=by
 subst hr
 by_cases h1:lo ≤ n <;> by_cases h2:n ≤ hi
 all_goals
  go_enter Tryz.func64,Tryz.ntmps64
  go_wp2
  go_ret
  exact ⟨ret_bool (by simp [h1,h2];try omega),rfl⟩

set_option maxHeartbeats 400000 in
theorem validWidth_ok (n:Int) (w:World) (r:Bool) (hr:(decide (1 ≤ n) && decide (n ≤ 6))=r) :
 Calls Tryz.prog 100 #[.int .i64 n] w fun e w'=>e=.returned (.bool r) ∧ w=w':=by
 subst hr
 by_cases h1:1 ≤ n <;> by_cases h2:n ≤ 6
 all_goals
  go_enter Tryz.func100,Tryz.ntmps100
  go_wp2
  go_ret
  exact ⟨ret_bool (by simp [h1,h2];try omega),rfl⟩

set_option maxHeartbeats 400000 in
theorem isNaN_ok (n:Int) (w:World):Calls Tryz.prog 150 #[.int .i64 n] w fun e w'=>e=.returned (.bool false) ∧ w=w':=by
 go_enter Tryz.func150,Tryz.ntmps150
 go_wp2
 go_ret
 exact ⟨ret_bool (by simp),rfl⟩

set_option maxHeartbeats 400000 in
theorem cmpCompare_ok (a b:Int) (w:World):Calls Tryz.prog 136 #[.int .i64 a,.int .i64 b] w fun e w'=>e=.returned (.int .i64 (iCmp a b)) ∧ w=w':=by
 have n1:=Lib.hid (fun w=>isNaN_ok a w)
 have n2:=Lib.hid (fun w=>isNaN_ok b w)
 rcases Int.lt_trichotomy a b with h | h | h
 ·have e:iCmp a b=-1:=by simp [iCmp,h]
  rw [e]
  clear e
  go_enter Tryz.func136,Tryz.ntmps136
  go_wp2_with fail
  refine (n1.out _).mono ?_;rintro e w' ⟨rfl,rfl⟩
  go_wp2_with fail
  refine (n2.out _).mono ?_;rintro e w' ⟨rfl,rfl⟩
  go_wp2
  go_ret
  exact ⟨rfl,rfl⟩
 ·subst h
  have e:iCmp a a=0:=by simp [iCmp]
  rw [e]
  clear e
  go_enter Tryz.func136,Tryz.ntmps136
  go_wp2_with fail
  refine (n1.out _).mono ?_;rintro e w' ⟨rfl,rfl⟩
  go_wp2_with fail
  refine (n2.out _).mono ?_;rintro e w' ⟨rfl,rfl⟩
  go_wp2
  go_ret
  exact ⟨rfl,rfl⟩
 ·have e:iCmp a b=1:=by unfold iCmp;rw [if_neg (by omega),if_pos h]
  rw [e]
  clear e
  have h':¬ a < b:=by omega
  go_enter Tryz.func136,Tryz.ntmps136
  go_wp2_with fail
  refine (n1.out _).mono ?_;rintro e w' ⟨rfl,rfl⟩
  go_wp2_with fail
  refine (n2.out _).mono ?_;rintro e w' ⟨rfl,rfl⟩
  go_wp2
  go_ret
  exact ⟨rfl,rfl⟩


set_option maxHeartbeats 400000 in
theorem specValidValue_ok (v:Val) (w:World) (r:Bool) (hr:vValid v=r) :
 Calls Tryz.prog 93 #[.agg #[.bool v.1,.int .i64 v.2]] w fun e w'=>e=.returned (.bool r) ∧ Below w.heap.size w w':=by
 subst hr
 obtain ⟨nl,n⟩:=v
 have hx:vValid (nl,n)=((decide (-9999 ≤ n) && decide (n ≤ 9999)) && (!nl || n == 0)):=by
  unfold vValid;cases nl <;> simp
  by_cases h:n=0 <;> simp [h]
 obtain ⟨r,hr⟩:∃ r,(decide (-9999 ≤ n) && decide (n ≤ 9999))=r:=⟨_,rfl⟩
 have c1:=Lib.hid (fun w=>inRange_ok n (-9999) 9999 w r hr)
 rw [hx,hr]
 clear hx hr
 cases r <;> cases nl
 all_goals
  go_enter Tryz.func93,Tryz.ntmps93
  go_wp2_with fail
  refine (c1.out _).mono ?_;rintro e w' ⟨rfl,rfl⟩
  go_wp2
  go_ret
  exact ⟨ret_bool (by simp),balloc (Below.refl _ _) _⟩

set_option maxHeartbeats 400000 in
theorem implValid_ok (v:Val) (w:World) (r:Bool) (hr:vValid v=r) :
 Calls Tryz.prog 123 #[.agg #[.bool v.1,.int .i64 v.2]] w fun e w'=>e=.returned (.bool r) ∧ Below w.heap.size w w':=by
 subst hr
 obtain ⟨nl,n⟩:=v
 unfold vValid
 by_cases h1:-9999 ≤ n <;> cases nl
 all_goals
  go_enter Tryz.func123,Tryz.ntmps123
  go_wp2
  go_ret
  exact ⟨ret_bool (by simp [h1];try omega),balloc (Below.refl _ _) _⟩

set_option maxHeartbeats 400000 in
theorem implCompare_ok (a b:Val) (w:World) :
 Calls Tryz.prog 125 #[.agg #[.bool a.1,.int .i64 a.2],.agg #[.bool b.1,.int .i64 b.2]] w fun e w'=>e=.returned (.int .i64 (pCmp a b)) ∧ Below w.heap.size w w':=by
 obtain ⟨na,a⟩:=a
 obtain ⟨nb,b⟩:=b
 have c1:=Lib.hid (fun w=>cmpCompare_ok a b w)
 unfold pCmp
 cases na <;> cases nb
 ·go_enter Tryz.func125,Tryz.ntmps125
  go_wp2_with fail
  refine (c1.out _).mono ?_;rintro e w' ⟨rfl,rfl⟩
  go_wp2
  go_ret
  exact ⟨ret_int (by simp),balloc (balloc (Below.refl _ _) _) _⟩
 all_goals
  go_enter Tryz.func125,Tryz.ntmps125
  go_wp2
  go_ret
  exact ⟨ret_int (by simp),balloc (balloc (Below.refl _ _) _) _⟩

theorem eqlVal {x y:Val} (r:Bool) (hr:decide (x=y)=r) (w:World):(binOp .eql 85 (.agg #[.bool x.1,.int .i64 x.2]) (.agg #[.bool y.1,.int .i64 y.2])).run Tryz.prog w=.ok (.bool r) w:=by
 have hs:Tryz.prog.stoodInHeld 85=false:=by kernel_rfl
 subst hr
 obtain ⟨a,b⟩:=x
 obtain ⟨c,d⟩:=y
 simp [go_sem,hs]
 by_cases h1:a=c <;> by_cases h2:b=d <;> simp [h1,h2]
theorem neqVal {x y:Val} (r:Bool) (hr:decide (x ≠ y)=r) (w:World):(binOp .neq 85 (.agg #[.bool x.1,.int .i64 x.2]) (.agg #[.bool y.1,.int .i64 y.2])).run Tryz.prog w=.ok (.bool r) w:=by
 have hs:Tryz.prog.stoodInHeld 85=false:=by kernel_rfl
 subst hr
 obtain ⟨a,b⟩:=x
 obtain ⟨c,d⟩:=y
 simp [go_sem,hs]
 by_cases h1:a=c <;> by_cases h2:b=d <;> simp [h1,h2]
theorem eqgVal (op:BinOp) (x y:Operand) (xs ys:Array Value) (w:World):(eqGuard op 85 x y (.agg xs) (.agg ys)).run Tryz.prog w=.ok () w:=
 run_eqGuard_agg w op _ x y xs ys (by kernel_rfl)

set_option maxHeartbeats 400000 in
theorem specCompareValues_ok (a b:Val) (w:World) (r:Int) (hr:vCmp a b=r) :
 Calls Tryz.prog 94 #[.agg #[.bool a.1,.int .i64 a.2],.agg #[.bool b.1,.int .i64 b.2]] w fun e w'=>e=.returned (.int .i64 r) ∧ Below w.heap.size w w':=by
 have hg:=eqgVal
 by_cases h:a=b
 ·have he:=eqlVal (x:=a) (y:=b) true (by simp [h])
  have e:vCmp a b=0:=by simp [vCmp,h]
  rw [← hr,e]
  clear e h hr
  go_enter Tryz.func94,Tryz.ntmps94
  go_wp2
  go_ret
  exact ⟨rfl,balloc (balloc (Below.refl _ _) _) _⟩
 ·have he:=eqlVal (x:=a) (y:=b) false (by simp [h])
  have e:vCmp a b=if a.1 || (!b.1 && decide (a.2 < b.2)) then -1 else 1:=by simp [vCmp,h]
  rw [e] at hr
  clear e h
  obtain ⟨na,a⟩:=a
  obtain ⟨nb,b⟩:=b
  have Hr:=Lib.hid hr
  clear hr
  by_cases hlt:a < b <;> cases na <;> cases nb
  all_goals
   dsimp only at *
   go_enter Tryz.func94,Tryz.ntmps94
   go_wp2
   go_ret
   exact ⟨ret_int (by rw [← Hr.out];simp;try omega),balloc (balloc (Below.refl _ _) _) _⟩


set_option maxHeartbeats 400000 in
theorem toValue_ok (v:Val) (w:World) :
 Calls Tryz.prog 78 #[.agg #[.bool v.1,.int .i64 v.2]] w fun e w'=>e=.returned (.agg #[.bool v.1,.int .i64 v.2]) ∧ Below w.heap.size w w':=by
 obtain ⟨a,b⟩:=v
 go_enter Tryz.func78,Tryz.ntmps78
 go_wp2
 exact bodyPost_ret (v:=.agg #[.bool a,.int .i64 b]) (by simp [results,Tryz.results78,go_sem]) rfl ⟨rfl,balloc (balloc (balloc (Below.refl _ _) _) _) _⟩

set_option maxHeartbeats 400000 in
theorem eqValue_ok (x y:Val) (w:World) :
 Calls Tryz.prog 91 #[.agg #[.bool x.1,.int .i64 x.2],.agg #[.bool y.1,.int .i64 y.2]] w fun e w'=>e=.returned (.bool (decide (x=y))) ∧ Below w.heap.size w w':=by
 obtain ⟨a,b⟩:=x
 obtain ⟨a',b'⟩:=y
 go_enter Tryz.func91,Tryz.ntmps91
 go_wp2
 all_goals go_ret
 all_goals refine ⟨ret_bool ?_,balloc (balloc (Below.refl _ _) _) _⟩
 all_goals simp_all

set_option maxHeartbeats 400000 in
theorem szValueS_ok (A:Option Addr) (n c:Nat) (left:Int) (w:World) (hn:n ≤ maxLen) (h0:0 ≤ left) (h1:left ≤ 1048576) (r:Int) (hr:(if left - n < 0 then -1 else left - n)=r) :
 Calls Tryz.prog 63 #[.slice A n c,.int .i64 left] w fun e w'=>e=.returned (.int .i64 r) ∧ w=w':=by
 unfold maxLen at hn
 have Hr:=Lib.hid hr
 clear hr
 by_cases h:left - n < 0
 ·go_enter Tryz.func63,Tryz.ntmps63
  go_wp2
  go_ret
  exact ⟨ret_int (by rw [← Hr.out,if_pos h]),rfl⟩
 ·go_enter Tryz.func63,Tryz.ntmps63
  go_wp2
  go_ret
  exact ⟨ret_int (by rw [← Hr.out,if_neg (by omega)]),rfl⟩

theorem zeroVal:(Tryz.prog.info? 85).map (fun i=>(i.zero,i.size,i.bytes))=some (some (.agg #[.bool false,.int .i64 0]),2,16):=by kernel_rfl

set_option maxHeartbeats 400000 in
theorem toValueS_ok (A:Option Addr) (c:Nat) (xs:List Val) (w:World) (hn:xs.length ≤ 1048576) (h:Sl 2 valC w w.heap.size A xs) :
 Calls Tryz.prog 79 #[.slice A xs.length c] w fun e w'=>e=.returned (.slice (some ⟨w.heap.size,0,none⟩) xs.length xs.length) ∧ Below w.heap.size w w' ∧ Row w' w.heap.size 85 (xs.flatMap valC):=by
 have hmk:=run_make_rowN (P:=Tryz.prog) 100 85 _ _ _ Tryz.underlying100 zeroVal .i64 .i64 xs.length (by omega) (by omega)
 go_enter Tryz.func79,Tryz.ntmps79
 go_wp2
 go_loopg [4] (xs.length) (fun g i wr=>∃ k:Nat,k ≤ xs.length ∧ g=xs.length - k ∧ i=.int .i64 k ∧ Below w.heap.size w wr ∧ Row wr w.heap.size 85 (filled valC [.bool false,.int .i64 0] xs k))
 case atStart=>
  exact ⟨0,by omega,by omega,rfl,balloc (Below.refl _ _) _,(Row.new _ _ _).of ((made_zeros [.bool false,.int .i64 0] xs.length).trans (filled_zero _ _ _).symm)⟩
 case round=>
  obtain ⟨k,hk,rfl,rfl,hb,hrow⟩:=hrel
  by_cases hlt:k < xs.length
  ·obtain ⟨b,off,rfl,hB,c1,c2⟩:=Val.at_ (h.below hb) hlt
   have hx:=Lib.hid (List.getElem?_eq_getElem hlt)
   generalize xs[k]=x at *
   obtain ⟨x1,x2⟩:=x
   dsimp only at *
   have Hrow:=Lib.hid hrow
   clear hrow
   have hlen:=filled_length 2 valC valC_length [.bool false,.int .i64 0] rfl xs hk
   obtain ⟨v1,hv1⟩:∃ v,(filled valC [.bool false,.int .i64 0] xs k)[k * 2]? = some v:=⟨_,List.getElem?_eq_getElem (by omega)⟩
   obtain ⟨v2,hv2⟩:∃ v,(filled valC [.bool false,.int .i64 0] xs k)[k * 2 + 1]? = some v:=⟨_,List.getElem?_eq_getElem (by omega)⟩
   have Hv1:=Lib.hid hv1
   have Hv2:=Lib.hid hv2
   clear hlen hv1 hv2
   go_wp2_with (go_at_call 78;refine (toValue_ok (_,_) _).mono ?_;rintro e w1 ⟨rfl,hb1⟩;have hrow1:=Hrow.out.on hb1;have e1:=(hrow1.cell (k * 2)).trans Hv1.out;have e2:=(hrow1.cell (k * 2 + 1)).trans Hv2.out;have e3:=hrow1.frozen (k * 2);have e4:=hrow1.frozen (k * 2 + 1);have Hrow1:=Lib.hid hrow1;clear hrow1)
   go_roundg (xs.length - (k + 1))
   case measure=>omega
   case rel=>
    exact ⟨k + 1,by omega,rfl,by go_num,((bch hb hb1).setCell (p:=⟨_,_,none⟩) (Nat.le_refl _) _).setCell (p:=⟨_,_,none⟩) (Nat.le_refl _) _,
     ((Hrow1.out.set _ _).set _ _).of (filled_next 2 valC valC_length [.bool false,.int .i64 0] rfl xs hx.out)⟩
  ·go_wp2
   go_ret
   exact ⟨rfl,hb,hrow.of (filled_all _ _ _ (by omega))⟩

set_option maxHeartbeats 400000 in
theorem eqValueS_ok (A A':Option Addr) (c c':Nat) (xs ys:List Val) (w:World) (hn:xs.length ≤ maxLen) (hn':ys.length ≤ maxLen) (h:Sl 2 valC w w.heap.size A xs) (h':Sl 2 valC w w.heap.size A' ys) :
 Calls Tryz.prog 59 #[.slice A xs.length c,.slice A' ys.length c'] w fun e w'=>e=.returned (.bool (decide (xs=ys))) ∧ Below w.heap.size w w':=by
 unfold maxLen at hn hn'
 by_cases hl:xs.length=ys.length
 ·have hl':=Lib.hid hl
  have hle:xs.length ≤ ys.length:=by omega
  have hne:((xs.length:Int) != (ys.length:Int))=false:=by simp [hl]
  clear hl
  go_enter Tryz.func59,Tryz.ntmps59
  go_wp2
  go_loopg [5] (xs.length) (fun g i wr=>∃ k:Nat,k ≤ xs.length ∧ g=xs.length - k ∧ i=.int .i64 k ∧ Below w.heap.size w wr ∧ xs.take k=ys.take k)
  case atStart=>exact ⟨0,by omega,by omega,rfl,Below.refl _ _,rfl⟩
  case round=>
   obtain ⟨k,hk,rfl,rfl,hb,hp⟩:=hrel
   have Hp:=Lib.hid hp
   clear hp
   by_cases hlt:k < xs.length
   ·obtain ⟨b,off,rfl,hB,c1,c2⟩:=Val.at_ (h.below hb) hlt
    obtain ⟨b',off',rfl,hB',c1',c2'⟩:=Val.at_ (h'.below hb) (i:=k) (by omega)
    have hx:=Lib.hid (List.getElem?_eq_getElem hlt)
    have hy:=Lib.hid (List.getElem?_eq_getElem (show k < ys.length by omega))
    generalize xs[k]=x at *
    generalize ys[k]=y at *
    have hsz:=hb.size
    have d1:=fun z:Aft wr.heap.size wr=>z.cell (by omega) c1
    have d2:=fun z:Aft wr.heap.size wr=>z.cell (by omega) c2
    have d3:=fun z:Aft wr.heap.size wr=>z.cell (by omega) c1'
    have d4:=fun z:Aft wr.heap.size wr=>z.cell (by omega) c2'
    have hlt':k < ys.length:=by omega
    obtain ⟨r,hr⟩:∃ r,decide (x=y)=r:=⟨_,rfl⟩
    have key:=fun w=>eqValue_ok x y w
    rw [hr] at key
    have Hk:=Lib.hid key
    have Hr:=Lib.hid hr
    clear key hr
    go_wp2
    refine wp_region_aft wr.heap.size (by kernel_rfl) (by kernel_rfl) ?_
    repeat (go_big_quiet_step ((go_at_call 91;exact Calls.aft (Nat.le_refl _) (Hk.out _))))
    refine wpQuiet_nil ?_
    intro _ hw'
    obtain ⟨⟨w1,hb1⟩,rfl⟩:=hw'
    cases r
    ·go_wp2
     go_ret
     exact ⟨ret_bool (decide_eq_false (ne_of_at hx.out hy.out (of_decide_eq_false Hr.out))).symm,bch hb hb1⟩
    ·go_wp2
     go_roundg (xs.length - (k + 1))
     case measure=>omega
     case rel=>exact ⟨k + 1,by omega,rfl,by go_num,bch hb hb1,take_eq_succ Hp.out hx.out (of_decide_eq_true Hr.out ▸ hy.out)⟩
   ·go_wp2
    go_ret
    exact ⟨ret_bool (decide_eq_true (eq_of_take Hp.out (by omega) (by have:=hl'.out;omega))).symm,hb⟩
 ·go_enter Tryz.func59,Tryz.ntmps59
  go_wp2
  go_ret
  exact ⟨ret_bool (decide_eq_false fun he=>hl (by rw [he])).symm,Below.refl _ _⟩


set_option maxHeartbeats 400000 in
theorem compareFunc_ok (A A':Option Addr) (c c':Nat) (xs ys:List Val) (w:World) (hn:xs.length ≤ maxLen) (hn':ys.length ≤ maxLen) (h:Sl 2 valC w w.heap.size A xs) (h':Sl 2 valC w w.heap.size A' ys) :
 Calls Tryz.prog 124 #[.slice A xs.length c,.slice A' ys.length c',.func (.func 125) #[] #[]] w fun e w'=>e=.returned (.int .i64 (rpCmp xs ys)) ∧ Below w.heap.size w w':=by
 unfold maxLen at hn hn'
 go_enter Tryz.func124,Tryz.ntmps124
 go_wp2
 go_loopg [13] (xs.length) (fun g i wr=>∃ k:Nat,k ≤ xs.length ∧ k ≤ ys.length ∧ g=xs.length - k ∧ i=.int .i64 k ∧ Below w.heap.size w wr ∧ ∀ i x y,i < k → xs[i]? = some x → ys[i]? = some y → pCmp x y=0)
 case atStart=>exact ⟨0,by omega,by omega,by omega,rfl,Below.refl _ _,agree_zero⟩
 case round=>
  obtain ⟨k,hk,hk',rfl,rfl,hb,hp⟩:=hrel
  have Hp:=Lib.hid hp
  clear hp
  by_cases hlt:k < xs.length
  ·obtain ⟨b,off,rfl,hB,c1,c2⟩:=Val.at_ (h.below hb) hlt
   have hx:=Lib.hid (List.getElem?_eq_getElem hlt)
   generalize xs[k]=x at *
   have hsz:=hb.size
   by_cases hlt':k < ys.length
   ·obtain ⟨b',off',rfl,hB',c1',c2'⟩:=Val.at_ (h'.below hb) hlt'
    have hy:=Lib.hid (List.getElem?_eq_getElem hlt')
    generalize ys[k]=y at *
    have c3:∀ o,(wr.alloc o).cell? ⟨b',off' + k * 2,none⟩=some (.bool y.1):=fun o=>(World.cell?_alloc_lt _ _ _ (by simp;omega)).trans c1'
    have c4:∀ o,(wr.alloc o).cell? ⟨b',off' + k * 2 + 1,none⟩=some (.int .i64 y.2):=fun o=>(World.cell?_alloc_lt _ _ _ (by simp;omega)).trans c2'
    obtain ⟨r,hr⟩:∃ r,pCmp x y=r:=⟨_,rfl⟩
    have key:=fun w=>implCompare_ok x y w
    rw [hr] at key
    have Hk:=Lib.hid key
    have Hr:=Lib.hid hr
    clear key hr
    by_cases h0:r=0
    ·subst h0
     go_wp2_with (go_at_call 125;refine (Hk.out _).mono ?_;rintro e w1 ⟨rfl,hb1⟩)
     go_roundg (xs.length - (k + 1))
     case measure=>omega
     case rel=>exact ⟨k + 1,by omega,by omega,rfl,by go_num,bch (balloc (balloc hb _) _) hb1,agree_succ Hp.out hx.out hy.out Hr.out⟩
    ·have hne:(r != 0)=true:=by simp [h0]
     have H0:=Lib.hid h0
     clear h0
     go_wp2_with (go_at_call 125;refine (Hk.out _).mono ?_;rintro e w1 ⟨rfl,hb1⟩)
     go_ret
     exact ⟨ret_int (by rw [rpCmp_at Hp.out hx.out hy.out (by rw [Hr.out];exact H0.out),Hr.out]),bch (balloc (balloc hb _) _) (by assumption)⟩
   ·have hy:k=ys.length:=by omega
    subst hy
    have e:rpCmp xs ys=1:=by
     rw [rpCmp_drop xs ys ys.length (by omega) (by omega) Hp.out,List.drop_length,List.drop_eq_getElem_cons hlt];rfl
    have He:=Lib.hid e
    clear e
    go_wp2
    go_ret
    exact ⟨ret_int He.out.symm,balloc hb _⟩
  ·have hx:k=xs.length:=by omega
   subst hx
   have e:rpCmp xs ys=if xs.length < ys.length then -1 else 0:=by
    rw [rpCmp_drop xs ys xs.length (by omega) (by omega) Hp.out,List.drop_length]
    split
    ·rw [List.drop_eq_getElem_cons (by assumption)];rfl
    ·rw [List.drop_eq_nil_of_le (by omega)];rfl
   have He:=Lib.hid e
   clear e
   by_cases hl:xs.length < ys.length
   all_goals
    go_wp2
    go_ret
    exact ⟨ret_int (by rw [He.out];first | rw [if_pos (by omega)] | rw [if_neg (by omega)]),hb⟩

set_option maxHeartbeats 400000 in
theorem implCompareRows_ok (A A':Option Addr) (c c':Nat) (xs ys:List Val) (w:World) (hn:xs.length ≤ maxLen) (hn':ys.length ≤ maxLen) (h:Sl 2 valC w w.heap.size A xs) (h':Sl 2 valC w w.heap.size A' ys) :
 Calls Tryz.prog 102 #[.slice A xs.length c,.slice A' ys.length c'] w fun e w'=>e=.returned (.int .i64 (rpCmp xs ys)) ∧ Below w.heap.size w w':=by
 have key:=Lib.hid (compareFunc_ok A A' c c' xs ys w hn hn' h h')
 unfold maxLen at hn hn'
 go_enter Tryz.func102,Tryz.ntmps102
 go_wp2_with fail
 refine key.out.mono ?_;rintro e w1 ⟨rfl,hb1⟩
 go_wp2
 go_ret
 exact ⟨rfl,hb1⟩

set_option maxHeartbeats 400000 in
theorem specCompareRows_ok (A A':Option Addr) (c c':Nat) (xs ys:List Val) (w:World) (hn:xs.length ≤ maxLen) (hn':ys.length ≤ maxLen) (h:Sl 2 valC w w.heap.size A xs) (h':Sl 2 valC w w.heap.size A' ys) (R:Int) (hR:rCmp xs ys=R) :
 Calls Tryz.prog 70 #[.slice A xs.length c,.slice A' ys.length c'] w fun e w'=>e=.returned (.int .i64 R) ∧ Below w.heap.size w w':=by
 have HR:=Lib.hid hR
 clear hR
 unfold maxLen at hn hn'
 go_enter Tryz.func70,Tryz.ntmps70
 go_wp2
 go_loopg [5] (xs.length) (fun g i wr=>∃ k:Nat,k ≤ xs.length ∧ k ≤ ys.length ∧ g=xs.length - k ∧ i=.int .i64 k ∧ Below w.heap.size w wr ∧ ∀ i x y,i < k → xs[i]? = some x → ys[i]? = some y → vCmp x y=0)
 case atStart=>exact ⟨0,by omega,by omega,by omega,rfl,Below.refl _ _,agree_zero⟩
 case round=>
  obtain ⟨k,hk,hk',rfl,rfl,hb,hp⟩:=hrel
  have Hp:=Lib.hid hp
  clear hp
  have hsz:=hb.size
  by_cases hlt:k < xs.length
  ·by_cases hlt':k < ys.length
   ·obtain ⟨b,off,rfl,hB,c1,c2⟩:=Val.at_ (h.below hb) hlt
    obtain ⟨b',off',rfl,hB',c1',c2'⟩:=Val.at_ (h'.below hb) hlt'
    have hx:=Lib.hid (List.getElem?_eq_getElem hlt)
    have hy:=Lib.hid (List.getElem?_eq_getElem hlt')
    generalize xs[k]=x at *
    generalize ys[k]=y at *
    have d1:=fun z:Aft wr.heap.size wr=>z.cell (by omega) c1
    have d2:=fun z:Aft wr.heap.size wr=>z.cell (by omega) c2
    have d3:=fun z:Aft wr.heap.size wr=>z.cell (by omega) c1'
    have d4:=fun z:Aft wr.heap.size wr=>z.cell (by omega) c2'
    obtain ⟨r,hr⟩:∃ r,vCmp x y=r:=⟨_,rfl⟩
    have Hk:=Lib.hid (fun w=>specCompareValues_ok x y w r hr)
    have Hr:=Lib.hid hr
    clear hr
    by_cases h0:r=0
    ·subst h0
     go_wp2
     refine wp_region_aft wr.heap.size (by kernel_rfl) (by kernel_rfl) ?_
     repeat (go_big_quiet_step ((go_at_call 94;exact Calls.aft (Nat.le_refl _) (Hk.out _))))
     refine wpQuiet_nil ?_
     intro _ hw'
     obtain ⟨⟨w1,hb1⟩,rfl⟩:=hw'
     go_wp2
     go_roundg (xs.length - (k + 1))
     case measure=>omega
     case rel=>exact ⟨k + 1,by omega,by omega,rfl,by go_num,bch hb hb1,agree_succ Hp.out hx.out hy.out Hr.out⟩
    ·have hne:(r != 0)=true:=by simp [h0]
     have H0:=Lib.hid h0
     clear h0
     go_wp2
     refine wp_region_aft wr.heap.size (by kernel_rfl) (by kernel_rfl) ?_
     repeat (go_big_quiet_step ((go_at_call 94;exact Calls.aft (Nat.le_refl _) (Hk.out _))))
     refine wpQuiet_nil ?_
     intro _ hw'
     obtain ⟨⟨w1,hb1⟩,rfl⟩:=hw'
     go_wp2
     go_ret
     exact ⟨ret_int (by rw [← HR.out,rCmp_at Hp.out hx.out hy.out (by rw [Hr.out];exact H0.out),Hr.out]),bch hb hb1⟩
   ·have e:=Lib.hid (rCmp_end Hp.out (by omega) (by omega) (Or.inr (show k=ys.length by omega)))
    go_wp2
    go_ret
    exact ⟨ret_int (by rw [← HR.out,e.out]),hb⟩
  ·have e:=Lib.hid (rCmp_end Hp.out (by omega) (by omega) (Or.inl (show k=xs.length by omega)))
   go_wp2
   go_ret
   exact ⟨ret_int (by rw [← HR.out,e.out]),hb⟩

end Go.Proofs.YtcbfbgngkdiijaaGreat
