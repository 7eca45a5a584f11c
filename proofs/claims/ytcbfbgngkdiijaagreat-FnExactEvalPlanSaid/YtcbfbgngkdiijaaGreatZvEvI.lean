import Derived.Test.YtcbfbgngkdiijaaGreatProg
import Derived.Test.YtcbfbgngkdiijaaGreatZvEvp
import Derived.Test.YtcbfbgngkdiijaaGreatZvPls
import Derived.Test.YtcbfbgngkdiijaaGreatZvGg
import Derived.Test.YtcbfbgngkdiijaaGreatZvRgG
namespace Go.Proofs.YtcbfbgngkdiijaaGreat
open Go.RowKit Go.Qo
set_option linter.unusedVariables false
set_option linter.unusedSimpArgs false

theorem truthOf_ok (v:Val) (w:World):Calls Tryz.prog 107 #[.agg #[.bool v.1,.int .i64 v.2]] w fun e w'=>e=.returned (.int .i64 (trI v)) ∧ Below w.heap.size w w':=by
 obtain ⟨n,v⟩:=v
 cases n
 ·by_cases h:v=0
  ·subst h
   go_enter Tryz.func107,Tryz.ntmps107
   go_wp2
   go_ret
   exact ⟨rfl,balloc (Below.refl _ _) _⟩
  ·have hb:(v == 0)=false:=by simpa using h
   have Hz:=Lib.hid (show trI (false,v)=2 by simp [trI,h])
   clear h
   go_enter Tryz.func107,Tryz.ntmps107
   go_wp2
   go_ret
   exact ⟨ret_int Hz.out.symm,balloc (Below.refl _ _) _⟩
 ·go_enter Tryz.func107,Tryz.ntmps107
  go_wp2
  go_ret
  exact ⟨rfl,balloc (Below.refl _ _) _⟩
theorem vbox {w1:World} {b:Nat} {x y:Value} (h:Row w1 b 85 [x,y]):b < w1.heap.size ∧ w1.frozen? ⟨b,0,none⟩=false ∧ w1.frozen? ⟨b,1,none⟩=false ∧ w1.cell? ⟨b,0,none⟩=some x ∧ w1.cell? ⟨b,1,none⟩=some y:=⟨h.lt,h.frozen 0,h.frozen 1,h.cell 0,h.cell 1⟩
theorem flag_ok (t:Bool) (w:World):Calls Tryz.prog 129 #[.bool t] w fun e w'=>e=.returned (.agg #[.bool (flagV t).1,.int .i64 (flagV t).2]) ∧ Below w.heap.size w w':=by
 obtain ⟨n,hn⟩:∃ n,(flagV t).2=n:=⟨_,rfl⟩
 have hf:(flagV t).1=false:=rfl
 have hn2:n=if t then 1 else 0:=by rw [← hn];rfl
 rw [hn,hf]
 have HN:=Lib.hid (fun m z=>implNumber_ok m z)
 have HR0:=Lib.hid (Row.new w 85 #[.bool false,.int .i64 0])
 have B0:=Lib.hid (balloc (Below.refl w.heap.size w) (.cells #[.bool false,.int .i64 0] 85))
 clear hn hf
 cases t
 ·simp only [if_true,if_false,Bool.false_eq_true] at hn2
  subst hn2
  go_enter Tryz.func129,Tryz.ntmps129
  go_wp2_with fail
  refine (HN.out _ _).mono ?_
  rintro e w1 ⟨rfl,hb1⟩
  obtain ⟨q0,q1,q2,q3,q4⟩:=vbox (HR0.out.on hb1)
  have H1:=Lib.hid (bch B0.out hb1)
  clear hb1
  go_wp2
  exact bodyPost_ret (v:=.agg #[.bool false,.int .i64 0]) (by simp [results,Tryz.results129,go_sem,q0,q1,q2,q3,q4]) rfl ⟨rfl,below_put H1.out (Nat.le_refl _) _ _⟩
 ·simp only [if_true,if_false,Bool.false_eq_true] at hn2
  subst hn2
  go_enter Tryz.func129,Tryz.ntmps129
  go_wp2_with fail
  refine (HN.out _ _).mono ?_
  rintro e w1 ⟨rfl,hb1⟩
  obtain ⟨q0,q1,q2,q3,q4⟩:=vbox (HR0.out.on hb1)
  have H1:=Lib.hid (bch B0.out hb1)
  clear hb1
  go_wp2
  exact bodyPost_ret (v:=.agg #[.bool false,.int .i64 1]) (by simp [results,Tryz.results129,go_sem,q0,q1,q2,q3,q4]) rfl ⟨rfl,below_put H1.out (Nat.le_refl _) _ _⟩
theorem truthValue_ok (t:Int) (ht:0 ≤ t ∧ t ≤ 2) (w:World):Calls Tryz.prog 128 #[.int .i64 t] w fun e w'=>e=.returned (.agg #[.bool (ofTr t).1,.int .i64 (ofTr t).2]) ∧ Below w.heap.size w w':=by
 have HN:=Lib.hid (fun z=>implNull_ok z)
 have HF:=Lib.hid (fun m z=>flag_ok m z)
 have HR0:=Lib.hid (Row.new w 85 #[.bool false,.int .i64 0])
 have B0:=Lib.hid (balloc (Below.refl w.heap.size w) (.cells #[.bool false,.int .i64 0] 85))
 have:t=0 ∨ t=1 ∨ t=2:=by omega
 clear ht
 rcases this with rfl | rfl | rfl
 ·go_enter Tryz.func128,Tryz.ntmps128
  go_wp2_with fail
  refine (HF.out _ _).mono ?_
  rintro e w1 ⟨rfl,hb1⟩
  obtain ⟨q0,q1,q2,q3,q4⟩:=vbox (HR0.out.on hb1)
  have H1:=Lib.hid (bch B0.out hb1)
  clear hb1
  go_wp2
  exact bodyPost_ret (v:=.agg #[.bool false,.int .i64 0]) (by simp [results,Tryz.results128,go_sem,q0,q1,q2,q3,q4,flagV]) rfl ⟨rfl,below_put H1.out (Nat.le_refl _) _ _⟩
 ·go_enter Tryz.func128,Tryz.ntmps128
  go_wp2_with fail
  refine (HN.out _).mono ?_
  rintro e w1 ⟨rfl,hb1⟩
  obtain ⟨q0,q1,q2,q3,q4⟩:=vbox (HR0.out.on hb1)
  have H1:=Lib.hid (bch B0.out hb1)
  clear hb1
  go_wp2
  exact bodyPost_ret (v:=.agg #[.bool true,.int .i64 0]) (by simp [results,Tryz.results128,go_sem,q0,q1,q2,q3,q4]) rfl ⟨rfl,below_put H1.out (Nat.le_refl _) _ _⟩
 ·go_enter Tryz.func128,Tryz.ntmps128
  go_wp2_with fail
  refine (HF.out _ _).mono ?_
  rintro e w1 ⟨rfl,hb1⟩
  obtain ⟨q0,q1,q2,q3,q4⟩:=vbox (HR0.out.on hb1)
  have H1:=Lib.hid (bch B0.out hb1)
  clear hb1
  go_wp2
  exact bodyPost_ret (v:=.agg #[.bool false,.int .i64 1]) (by simp [results,Tryz.results128,go_sem,q0,q1,q2,q3,q4,flagV]) rfl ⟨rfl,below_put H1.out (Nat.le_refl _) _ _⟩

theorem mul_bd {a b:Int} (ha:-9999 ≤ a ∧ a ≤ 9999) (hb:-9999 ≤ b ∧ b ≤ 9999):-100000000 ≤ a * b ∧ a * b ≤ 100000000:=by
 have h:=Int.natAbs_mul a b
 have h1:a.natAbs ≤ 9999:=by omega
 have h2:b.natAbs ≤ 9999:=by omega
 have h3:=Nat.mul_le_mul h1 h2
 rw [← h] at h3
 omega
set_option maxRecDepth 20000 in
set_option maxHeartbeats 4000000 in
theorem combined_ok (k:Int) (a b:Val) (w:World) (hk:3 ≤ k ∧ k ≤ 9) (ha:vValid a=true) (hb:vValid b=true) :
 Calls Tryz.prog 130 #[.int .i64 k,.agg #[.bool a.1,.int .i64 a.2],.agg #[.bool b.1,.int .i64 b.2]] w fun e w'=>e=.returned (.agg #[.bool (combV k a b).1,.int .i64 (combV k a b).2]) ∧ Below w.heap.size w w':=by
 obtain ⟨⟨rn,rm⟩,hr⟩:∃ v,combV k a b=v:=⟨_,rfl⟩
 rw [hr]
 have hra:=vValid_range ha
 have hrb:=vValid_range hb
 have hta:=trI_range a
 have htb:=trI_range b
 have TA:=fun z=>truthOf_ok a z
 have TB:=fun z=>truthOf_ok b z
 have HC:combV k a b=if k=8 then ofTr (min (trI a) (trI b)) else if k=9 then ofTr (max (trI a) (trI b)) else if a.1 || b.1 then (true,0) else if k=3 then numV (a.2 + b.2) else if k=4 then numV (a.2 - b.2) else if k=5 then numV (a.2 * b.2) else if k=6 then flagV (decide (a.2=b.2)) else flagV (decide (a.2 < b.2)):=rfl
 rw [hr] at HC
 obtain ⟨ta,hTa⟩:∃ t,trI a=t:=⟨_,rfl⟩
 obtain ⟨tb,hTb⟩:∃ t,trI b=t:=⟨_,rfl⟩
 rw [hTa] at hta TA HC
 rw [hTb] at htb TB HC
 clear hr ha hb hTa hTb
 obtain ⟨an,av⟩:=a
 obtain ⟨bn,bv⟩:=b
 dsimp only at *
 have HTA:=Lib.hid TA
 have HTB:=Lib.hid TB
 obtain ⟨W0,hW0⟩:∃ z,((w.alloc (.cells #[.bool an,.int .i64 av] 85)).alloc (.cells #[.bool bn,.int .i64 bv] 85)).alloc (.cells #[.bool false,.int .i64 0] 85)=z:=⟨_,rfl⟩
 have B0:Below w.heap.size w W0:=by rw [← hW0];exact balloc (balloc (balloc (Below.refl _ _) _) _) _
 have r0:Row W0 w.heap.size 85 [.bool an,.int .i64 av]:=by rw [← hW0];exact ((Row.new _ _ _).alloc _).alloc _
 have r1:Row W0 (w.heap.size + 1) 85 [.bool bn,.int .i64 bv]:=by rw [← hW0];exact (Row.second _ _ _ _).alloc _
 have r2:Row W0 (w.heap.size + 2) 85 [.bool false,.int .i64 0]:=by rw [← hW0];exact Row.third _ _ _ _ _
 have BX:=Lib.hid (fun (z:World) (hz:Below W0.heap.size W0 z)=>show (z.cell? ⟨w.heap.size,0,none⟩=some (.bool an) ∧ z.cell? ⟨w.heap.size,1,none⟩=some (.int .i64 av) ∧ z.cell? ⟨w.heap.size + 1,0,none⟩=some (.bool bn) ∧ z.cell? ⟨w.heap.size + 1,1,none⟩=some (.int .i64 bv)) ∧ Row z (w.heap.size + 2) 85 [.bool false,.int .i64 0] from ⟨⟨(r0.on hz).cell 0,(r0.on hz).cell 1,(r1.on hz).cell 0,(r1.on hz).cell 1⟩,r2.on hz⟩)
 have HW0:=Lib.hid hW0
 have HB0:=Lib.hid B0
 have HCH:=Lib.hid HC
 obtain ⟨a0,a1,b0,b1⟩:=(BX.out _ (Below.refl _ _)).1
 clear TA TB r0 r1 r2 B0 hW0 HC
 have Hk:=Lib.hid hk
 have hcase:k=8 ∨ k=9 ∨ (¬ k=8 ∧ ¬ k=9):=by omega
 clear hk
 rcases hcase with rfl | rfl | ⟨hk8,hk9⟩
 ·have HTV:=Lib.hid (fun z=>show Calls Tryz.prog 128 #[.int .i64 (if tb < ta then tb else ta)] z fun e w'=>e=.returned (.agg #[.bool rn,.int .i64 rm]) ∧ Below z.heap.size z w' from by
   have e:(if tb < ta then tb else ta)=min ta tb:=by split <;> omega
   have:=truthValue_ok (min ta tb) (by omega) z
   have h:=HCH.out
   rw [if_pos rfl] at h
   rw [← h] at this
   rw [e]
   exact this)
  go_enter Tryz.func130,Tryz.ntmps130
  go_upto_region 2 with fail
  rw [HW0.out]
  obtain ⟨u0,hu0⟩:∃ z,W0.drew=z:=⟨_,rfl⟩
  have Bu0:=Lib.hid (show Below W0.heap.size W0 u0 from hu0 ▸ (Below.refl _ _).drew)
  have Hu0:=Lib.hid hu0
  clear hu0
  refine wp_region_g 6 (fun z=>z.cell? ⟨w.heap.size,0,none⟩=some (.bool an) ∧ z.cell? ⟨w.heap.size,1,none⟩=some (.int .i64 av) ∧ z.cell? ⟨w.heap.size + 1,0,none⟩=some (.bool bn) ∧ z.cell? ⟨w.heap.size + 1,1,none⟩=some (.int .i64 bv)) (by kernel_rfl) ?_ (fun hHeld=>?_)
  ·exact (BX.out _ (Below.refl _ _).drew).1
  rw [Hu0.out] at hHeld ⊢
  refine tkH (i:=0) rfl (by assumption) ?_
  try simp only [Act.put,sTA,sC0,sCS]
  refine tkH (i:=2) rfl (by assumption) ?_
  try simp only [Act.put,sTA,sC0,sCS]
  refine rdG (i:=1) (by kernel_rfl) rfl (fun K hK=>?_)
  go_simp
  go_at_call 107
  refine (HTA.out u0).mono ?_
  rintro e y1 ⟨rfl,hb⟩
  have By1:=Lib.hid (bch Bu0.out hb)
  clear hb
  refine hK.out _ _ ?hS3 (fun hHeld=>?_)
  case hS3=>exact fun _=>(BX.out _ By1.out).1
  replace hHeld:=hHeld (by decide)
  clear hK K
  try simp only [Act.put,sTA,sC0,sCS]
  refine rdG (i:=3) (by kernel_rfl) rfl (fun K hK=>?_)
  go_simp
  go_at_call 107
  refine (HTB.out y1).mono ?_
  rintro e y2 ⟨rfl,hb⟩
  have By2:=Lib.hid (bch By1.out hb)
  clear hb
  refine hK.out _ _ ?hS4 (fun hHeld=>?_)
  case hS4=>exact fun _=>(BX.out _ By2.out).1
  replace hHeld:=hHeld (by decide)
  clear hK K
  try simp only [Act.put,sTA,sC0,sCS]
  refine rdG (i:=4) (by kernel_rfl) rfl (fun K hK=>?_)
  go_simp
  refine hK.out _ _ ?hS5 (fun hHeld=>?_)
  case hS5=>exact fun _=>(BX.out _ By2.out).1
  replace hHeld:=hHeld (by decide)
  clear hK K
  try simp only [Act.put,sTA,sC0,sCS]
  refine rdG (i:=5) (by kernel_rfl) rfl (fun K hK=>?_)
  go_simp
  go_at_call 128
  try rw [show min ta tb=(if tb < ta then tb else ta) by split <;> omega]
  refine (HTV.out y2).mono ?_
  rintro e y3 ⟨rfl,hb⟩
  have By3:=Lib.hid (bch By2.out hb)
  clear hb
  refine hK.out _ _ ?hS6 (fun hHeld=>?_)
  case hS6=>exact fun _=>(BX.out _ By3.out).1
  replace hHeld:=hHeld (by decide)
  clear hK K
  try simp only [Act.put,sTA,sC0,sCS]
  refine rdG (i:=6) (by kernel_rfl) rfl (fun K hK=>?_)
  obtain ⟨q0,q1,q2,q3,q4⟩:=vbox ((BX.out _ By3.out).2)
  go_simp
  refine hK.out _ _ ?hS7 (fun hHeld=>?_)
  case hS7=>exact fun h=>absurd rfl h
  clear hK K
  try simp only [Act.put,sTA,sC0,sCS]
  refine wpAnyG_done (by kernel_rfl) ?_ _
  go_wp2
  all_goals exact bodyPost_ret (v:=.agg #[.bool rn,.int .i64 rm]) (by simp [results,Tryz.results130,go_sem,q0,q1,q2,q3,q4]) rfl ⟨rfl,below_put (bch HB0.out By3.out) (by omega) _ _⟩
 ·have HTV:=Lib.hid (fun z=>show Calls Tryz.prog 128 #[.int .i64 (if ta < tb then tb else ta)] z fun e w'=>e=.returned (.agg #[.bool rn,.int .i64 rm]) ∧ Below z.heap.size z w' from by
   have e:(if ta < tb then tb else ta)=max ta tb:=by split <;> omega
   have:=truthValue_ok (max ta tb) (by omega) z
   have h:=HCH.out
   rw [if_neg (by decide),if_pos rfl] at h
   rw [← h] at this
   rw [e]
   exact this)
  go_enter Tryz.func130,Tryz.ntmps130
  go_upto_region 4 with fail
  rw [HW0.out]
  obtain ⟨u0,hu0⟩:∃ z,W0.drew=z:=⟨_,rfl⟩
  have Bu0:=Lib.hid (show Below W0.heap.size W0 u0 from hu0 ▸ (Below.refl _ _).drew)
  have Hu0:=Lib.hid hu0
  clear hu0
  refine wp_region_g 6 (fun z=>z.cell? ⟨w.heap.size,0,none⟩=some (.bool an) ∧ z.cell? ⟨w.heap.size,1,none⟩=some (.int .i64 av) ∧ z.cell? ⟨w.heap.size + 1,0,none⟩=some (.bool bn) ∧ z.cell? ⟨w.heap.size + 1,1,none⟩=some (.int .i64 bv)) (by kernel_rfl) ?_ (fun hHeld=>?_)
  ·exact (BX.out _ (Below.refl _ _).drew).1
  rw [Hu0.out] at hHeld ⊢
  refine tkH (i:=0) rfl (by assumption) ?_
  try simp only [Act.put,sTA,sC0,sCS]
  refine tkH (i:=2) rfl (by assumption) ?_
  try simp only [Act.put,sTA,sC0,sCS]
  refine rdG (i:=1) (by kernel_rfl) rfl (fun K hK=>?_)
  go_simp
  go_at_call 107
  refine (HTA.out u0).mono ?_
  rintro e y1 ⟨rfl,hb⟩
  have By1:=Lib.hid (bch Bu0.out hb)
  clear hb
  refine hK.out _ _ ?hS10 (fun hHeld=>?_)
  case hS10=>exact fun _=>(BX.out _ By1.out).1
  replace hHeld:=hHeld (by decide)
  clear hK K
  try simp only [Act.put,sTA,sC0,sCS]
  refine rdG (i:=3) (by kernel_rfl) rfl (fun K hK=>?_)
  go_simp
  go_at_call 107
  refine (HTB.out y1).mono ?_
  rintro e y2 ⟨rfl,hb⟩
  have By2:=Lib.hid (bch By1.out hb)
  clear hb
  refine hK.out _ _ ?hS11 (fun hHeld=>?_)
  case hS11=>exact fun _=>(BX.out _ By2.out).1
  replace hHeld:=hHeld (by decide)
  clear hK K
  try simp only [Act.put,sTA,sC0,sCS]
  refine rdG (i:=4) (by kernel_rfl) rfl (fun K hK=>?_)
  go_simp
  refine hK.out _ _ ?hS12 (fun hHeld=>?_)
  case hS12=>exact fun _=>(BX.out _ By2.out).1
  replace hHeld:=hHeld (by decide)
  clear hK K
  try simp only [Act.put,sTA,sC0,sCS]
  refine rdG (i:=5) (by kernel_rfl) rfl (fun K hK=>?_)
  go_simp
  go_at_call 128
  try rw [show max ta tb=(if ta < tb then tb else ta) by split <;> omega]
  refine (HTV.out y2).mono ?_
  rintro e y3 ⟨rfl,hb⟩
  have By3:=Lib.hid (bch By2.out hb)
  clear hb
  refine hK.out _ _ ?hS13 (fun hHeld=>?_)
  case hS13=>exact fun _=>(BX.out _ By3.out).1
  replace hHeld:=hHeld (by decide)
  clear hK K
  try simp only [Act.put,sTA,sC0,sCS]
  refine rdG (i:=6) (by kernel_rfl) rfl (fun K hK=>?_)
  obtain ⟨q0,q1,q2,q3,q4⟩:=vbox ((BX.out _ By3.out).2)
  go_simp
  refine hK.out _ _ ?hS14 (fun hHeld=>?_)
  case hS14=>exact fun h=>absurd rfl h
  clear hK K
  try simp only [Act.put,sTA,sC0,sCS]
  refine wpAnyG_done (by kernel_rfl) ?_ _
  go_wp2
  all_goals exact bodyPost_ret (v:=.agg #[.bool rn,.int .i64 rm]) (by simp [results,Tryz.results130,go_sem,q0,q1,q2,q3,q4]) rfl ⟨rfl,below_put (bch HB0.out By3.out) (by omega) _ _⟩
 ·have HCH2:=HCH.out
  rw [if_neg hk8,if_neg hk9] at HCH2
  have hk8':(k == 8)=false:=by simpa using hk8
  have hk9':(k == 9)=false:=by simpa using hk9
  have HNUL:=Lib.hid (fun z=>implNull_ok z)
  have hnul:(an || bn)=true ∨ (an=false ∧ bn=false):=by cases an <;> cases bn <;> simp
  rcases hnul with hnul | ⟨rfl,rfl⟩
  ·rw [if_pos hnul] at HCH2
   injection HCH2 with hrn hrm
   subst hrn
   subst hrm
   cases an
   ·have hb:bn=true:=by simpa using hnul
    subst hb
    clear a0 a1 b0 b1
    obtain ⟨a0,a1,b0,b1⟩:=(BX.out _ (Below.refl _ _)).1
    go_enter Tryz.func130,Tryz.ntmps130
    go_upto_region 1 with fail
    rw [HW0.out]
    go_wp2_with fail
    refine (HNUL.out _).mono ?_
    rintro e y3 ⟨rfl,hb⟩
    have By3:=Lib.hid hb
    clear hb
    obtain ⟨q0,q1,q2,q3,q4⟩:=vbox ((BX.out _ By3.out).2)
    go_wp2
    exact bodyPost_ret (v:=.agg #[.bool true,.int .i64 0]) (by simp [results,Tryz.results130,go_sem,q0,q1,q2,q3,q4]) rfl ⟨rfl,below_put (bch HB0.out By3.out) (by omega) _ _⟩
   ·clear hnul
    clear a0 a1 b0 b1
    obtain ⟨a0,a1,b0,b1⟩:=(BX.out _ (Below.refl _ _)).1
    go_enter Tryz.func130,Tryz.ntmps130
    go_upto_region 1 with fail
    rw [HW0.out]
    go_wp2_with fail
    refine (HNUL.out _).mono ?_
    rintro e y3 ⟨rfl,hb⟩
    have By3:=Lib.hid hb
    clear hb
    obtain ⟨q0,q1,q2,q3,q4⟩:=vbox ((BX.out _ By3.out).2)
    go_wp2
    exact bodyPost_ret (v:=.agg #[.bool true,.int .i64 0]) (by simp [results,Tryz.results130,go_sem,q0,q1,q2,q3,q4]) rfl ⟨rfl,below_put (bch HB0.out By3.out) (by omega) _ _⟩
  ·simp only [Bool.or_self,Bool.false_eq_true,if_false] at HCH2
   have hkk:k=3 ∨ k=4 ∨ k=5 ∨ k=6 ∨ k=7:=by have:=Hk.out;omega
   clear hk8 hk9 hk8' hk9' HTA HTB
   rcases hkk with rfl | rfl | rfl | rfl | rfl
   ·skip
    have hww:IntKind.i64.wrap (av + bv)=av + bv:=IntWalk.i64_in _ (by omega)
    have HTN:=Lib.hid (fun z=>show Calls Tryz.prog 138 #[.int .i64 (av + bv)] z fun e w'=>e=.returned (.agg #[.bool rn,.int .i64 rm]) ∧ Below z.heap.size z w' from by
     have:=numberOrNull_ok (av + bv) z
     have h:=HCH2
     simp only [show ((3:Int)=3)=True from by simp,show ((3:Int)=4)=False from by simp,show ((3:Int)=5)=False from by simp,show ((3:Int)=6)=False from by simp,if_true,if_false] at h
     rw [← h] at this
     exact this)
    clear HCH2
    go_enter Tryz.func130,Tryz.ntmps130
    go_upto_region 1 with fail
    rw [HW0.out]
    go_wp2_with fail
    refine (HTN.out _).mono ?_
    rintro e y3 ⟨rfl,hb⟩
    have By3:=Lib.hid hb
    clear hb
    obtain ⟨q0,q1,q2,q3,q4⟩:=vbox ((BX.out _ By3.out).2)
    go_wp2
    exact bodyPost_ret (v:=.agg #[.bool rn,.int .i64 rm]) (by simp [results,Tryz.results130,go_sem,q0,q1,q2,q3,q4]) rfl ⟨rfl,below_put (bch HB0.out By3.out) (by omega) _ _⟩
   ·skip
    have hww:IntKind.i64.wrap (av - bv)=av - bv:=IntWalk.i64_in _ (by omega)
    have HTN:=Lib.hid (fun z=>show Calls Tryz.prog 138 #[.int .i64 (av - bv)] z fun e w'=>e=.returned (.agg #[.bool rn,.int .i64 rm]) ∧ Below z.heap.size z w' from by
     have:=numberOrNull_ok (av - bv) z
     have h:=HCH2
     simp only [show ((4:Int)=3)=False from by simp,show ((4:Int)=4)=True from by simp,show ((4:Int)=5)=False from by simp,show ((4:Int)=6)=False from by simp,if_true,if_false] at h
     rw [← h] at this
     exact this)
    clear HCH2
    go_enter Tryz.func130,Tryz.ntmps130
    go_upto_region 1 with fail
    rw [HW0.out]
    go_wp2_with fail
    refine (HTN.out _).mono ?_
    rintro e y3 ⟨rfl,hb⟩
    have By3:=Lib.hid hb
    clear hb
    obtain ⟨q0,q1,q2,q3,q4⟩:=vbox ((BX.out _ By3.out).2)
    go_wp2
    exact bodyPost_ret (v:=.agg #[.bool rn,.int .i64 rm]) (by simp [results,Tryz.results130,go_sem,q0,q1,q2,q3,q4]) rfl ⟨rfl,below_put (bch HB0.out By3.out) (by omega) _ _⟩
   ·skip
    have hpr:=mul_bd hra hrb
    have hww:IntKind.i64.wrap (av * bv)=av * bv:=IntWalk.i64_in _ (by omega)
    have HTN:=Lib.hid (fun z=>show Calls Tryz.prog 138 #[.int .i64 (av * bv)] z fun e w'=>e=.returned (.agg #[.bool rn,.int .i64 rm]) ∧ Below z.heap.size z w' from by
     have:=numberOrNull_ok (av * bv) z
     have h:=HCH2
     simp only [show ((5:Int)=3)=False from by simp,show ((5:Int)=4)=False from by simp,show ((5:Int)=5)=True from by simp,show ((5:Int)=6)=False from by simp,if_true,if_false] at h
     rw [← h] at this
     exact this)
    clear HCH2
    go_enter Tryz.func130,Tryz.ntmps130
    go_upto_region 1 with fail
    rw [HW0.out]
    go_wp2_with fail
    refine (HTN.out _).mono ?_
    rintro e y3 ⟨rfl,hb⟩
    have By3:=Lib.hid hb
    clear hb
    obtain ⟨q0,q1,q2,q3,q4⟩:=vbox ((BX.out _ By3.out).2)
    go_wp2
    exact bodyPost_ret (v:=.agg #[.bool rn,.int .i64 rm]) (by simp [results,Tryz.results130,go_sem,q0,q1,q2,q3,q4]) rfl ⟨rfl,below_put (bch HB0.out By3.out) (by omega) _ _⟩
   ·skip
    obtain ⟨t,ht⟩:∃ t,(av == bv)=t:=⟨_,rfl⟩
    have HTN:=Lib.hid (fun z=>show Calls Tryz.prog 129 #[.bool t] z fun e w'=>e=.returned (.agg #[.bool rn,.int .i64 rm]) ∧ Below z.heap.size z w' from by
     have:=flag_ok t z
     have h:=HCH2
     simp only [show ((6:Int)=3)=False from by simp,show ((6:Int)=4)=False from by simp,show ((6:Int)=5)=False from by simp,show ((6:Int)=6)=True from by simp,if_true,if_false] at h
     have e2:(decide (av=bv))=t:=by rw [← ht];try rfl
     rw [e2] at h
     rw [← h] at this
     exact this)
    clear HCH2
    go_enter Tryz.func130,Tryz.ntmps130
    go_upto_region 1 with fail
    rw [HW0.out]
    go_wp2_with fail
    refine (HTN.out _).mono ?_
    rintro e y3 ⟨rfl,hb⟩
    have By3:=Lib.hid hb
    clear hb
    obtain ⟨q0,q1,q2,q3,q4⟩:=vbox ((BX.out _ By3.out).2)
    go_wp2
    exact bodyPost_ret (v:=.agg #[.bool rn,.int .i64 rm]) (by simp [results,Tryz.results130,go_sem,q0,q1,q2,q3,q4]) rfl ⟨rfl,below_put (bch HB0.out By3.out) (by omega) _ _⟩
   ·skip
    obtain ⟨t,ht⟩:∃ t,(decide (av < bv))=t:=⟨_,rfl⟩
    have HTN:=Lib.hid (fun z=>show Calls Tryz.prog 129 #[.bool t] z fun e w'=>e=.returned (.agg #[.bool rn,.int .i64 rm]) ∧ Below z.heap.size z w' from by
     have:=flag_ok t z
     have h:=HCH2
     simp only [show ((7:Int)=3)=False from by simp,show ((7:Int)=4)=False from by simp,show ((7:Int)=5)=False from by simp,show ((7:Int)=6)=False from by simp,if_true,if_false] at h
     have e2:(decide (av < bv))=t:=by rw [← ht];try rfl
     rw [e2] at h
     rw [← h] at this
     exact this)
    clear HCH2
    go_enter Tryz.func130,Tryz.ntmps130
    go_upto_region 1 with fail
    rw [HW0.out]
    go_wp2_with fail
    refine (HTN.out _).mono ?_
    rintro e y3 ⟨rfl,hb⟩
    have By3:=Lib.hid hb
    clear hb
    obtain ⟨q0,q1,q2,q3,q4⟩:=vbox ((BX.out _ By3.out).2)
    go_wp2
    exact bodyPost_ret (v:=.agg #[.bool rn,.int .i64 rm]) (by simp [results,Tryz.results130,go_sem,q0,q1,q2,q3,q4]) rfl ⟨rfl,below_put (bch HB0.out By3.out) (by omega) _ _⟩
def VaI (x:Ex):Prop:=∀ (f:FE) (b o:Nat) (row:Row1) (A:Option Addr) (c:Nat) (W d:Int) (w:World),b < w.heap.size → FeAt w b o f → ExIn w w.heap.size f x → ExOk W d x → RowOk W row → Sl 2 valC w w.heap.size A row →
 Calls Tryz.prog 108 #[.pointer (some ⟨b,o,none⟩),.slice A row.length c] w fun e w'=>e=.returned (.agg #[.bool (exVal row x).1,.int .i64 (exVal row x).2]) ∧ Below w.heap.size w w'
theorem feAt_belowI {w w':World} {B b o:Nat} {f:FE} (h:FeAt w b o f) (hb:Below B w w') (hB:b < B):FeAt w' b o f:=
 ⟨(hb.cell (p:=⟨_,_,none⟩) hB).trans h.1,(hb.cell (p:=⟨_,_,none⟩) hB).trans h.2.1,(hb.cell (p:=⟨_,_,none⟩) hB).trans h.2.2.1,(hb.cell (p:=⟨_,_,none⟩) hB).trans h.2.2.2.1,(hb.cell (p:=⟨_,_,none⟩) hB).trans h.2.2.2.2⟩
theorem exOk_kind {W d:Int} {x:Ex} (h:ExOk W d x):1 ≤ x.kind ∧ x.kind ≤ 11:=by
 have h1:=(exOk_iff.1 h).1
 unfold kidsK at h1
 split at h1
 ·omega
 ·split at h1
  ·omega
  ·split at h1 <;> omega
set_option maxRecDepth 20000 in
set_option maxHeartbeats 8000000 in
theorem value_ok:∀ x:Ex,VaI x:=Ex.ind fun x ih f b o row A c W d w hbw hat h hok hro hsl=>by
 obtain ⟨a1,a2,a3,a4,a5,a6⟩:=h.flat
 have hkr:=exOk_kind hok
 obtain ⟨ok1,ok2,ok3,ok4⟩:=exOk_iff.1 hok
 have hr6:=rowValid_len hro.1
 obtain ⟨⟨rn,rm⟩,hr⟩:∃ v,exVal row x=v:=⟨_,rfl⟩
 rw [hr]
 have HR:=Lib.hid (show ((rn,rm):Val)=topV row x.kind x.col x.val (kidV row x 0) (kidV row x 1) by rw [← hr];exact exVal_eq row x)
 have HKV:=Lib.hid (fun (i:Nat) (hi:i < x.kids.length)=>show vValid (exVal row x.kids[i])=true from exVal_valid hro _ _ (ok3 _ (List.getElem_mem hi)))
 have HVX:=Lib.hid (fun (i:Nat) (hi:i < x.kids.length) (z:World) (hz:Below w.heap.size w z)=>show ∃ b1 o1,f.sv.A=some ⟨b1,o1,none⟩ ∧ b1 < z.heap.size ∧ Calls Tryz.prog 108 #[.pointer (some ⟨b1,o1 + i * 5,none⟩),.slice A row.length c] z (fun e w'=>e=.returned (.agg #[.bool (exVal row x.kids[i]).1,.int .i64 (exVal row x.kids[i]).2]) ∧ Below z.heap.size z w') from by
  obtain ⟨b1,o1,g,e1,e2,e3,e4⟩:=(h.on hz).kid hi
  exact ⟨b1,o1,e1,e2,ih _ (List.getElem_mem hi) g b1 _ row A c W (d - 1) z e2 e3 e4 (ok3 _ (List.getElem_mem hi)) hro (hsl.on hz)⟩)
 obtain ⟨W0,hW0⟩:∃ z,w.alloc (.cells #[.bool false,.int .i64 0] 85)=z:=⟨_,rfl⟩
 have B0:Below w.heap.size w W0:=by rw [← hW0];exact balloc (Below.refl _ _) _
 have r0:Row W0 w.heap.size 85 [.bool false,.int .i64 0]:=by rw [← hW0];exact Row.new _ _ _
 have BX:=Lib.hid (fun (z:World) (hz:Below W0.heap.size W0 z)=>show (z.cell? ⟨b,o,none⟩=some (.int .i64 x.kind) ∧ z.cell? ⟨b,o + 1,none⟩=some (.int .i64 x.col) ∧ z.cell? ⟨b,o + 2,none⟩=some (.bool x.val.1) ∧ z.cell? ⟨b,o + 3,none⟩=some (.int .i64 x.val.2) ∧ z.cell? ⟨b,o + 4,none⟩=some (.slice f.sv.A x.kids.length f.sv.c)) ∧ Row z w.heap.size 85 [.bool false,.int .i64 0] from by
  obtain ⟨c0,c1,c2,c3,c4⟩:=feAt_belowI hat (bch B0 hz) hbw
  rw [a1] at c0
  rw [a2] at c1
  rw [a3] at c2 c3
  rw [a4] at c4
  exact ⟨⟨c0,c1,c2,c3,c4⟩,r0.on hz⟩)
 have HSL:=Lib.hid (fun (z:World) (hz:Below w.heap.size w z)=>hsl.on hz)
 have HW0:=Lib.hid hW0
 have HB0:=Lib.hid B0
 have HOK:=Lib.hid (And.intro ok1 ok4)
 have HRO:=Lib.hid hro
 obtain ⟨⟨c0,c1,c2,c3,c4⟩,_⟩:=BX.out _ (Below.refl _ _)
 have q0:=r0.lt
 have q1:=r0.frozen 0
 have q2:=r0.frozen 1
 have hk2:=hok.kids_le
 clear hat h hok hro hsl ih hr a1 a2 a3 a4 a5 a6 ok1 ok2 ok3 ok4 r0 B0 hW0
 by_cases hk1:x.kind=1
 ·have hl:=HOK.out.2
  unfold LocOk at hl
  rw [if_pos hk1] at hl
  have hlen:=HRO.out.2
  obtain ⟨j,hj⟩:=Int.eq_ofNat_of_zero_le hl.1.1
  have hjl:j < row.length:=by omega
  have hz:=HR.out
  unfold topV at hz
  rw [if_pos hk1,hj] at hz
  unfold getV at hz
  rw [Int.toNat_natCast,List.getD_eq_getElem?_getD,List.getElem?_eq_getElem hjl] at hz
  obtain ⟨bs,os,hA,hB,v0,v1⟩:=Val.at_ (HSL.out _ HB0.out) hjl
  have hz:((rn,rm):Val)=row[j]:=hz
  rw [← hz] at v0 v1
  have hjI:(j:Int) < (row.length:Int):=by omega
  rw [hj] at c1
  rw [hk1] at c0
  obtain ⟨_,e0⟩:=BX.out _ (Below.refl _ _)
  have e1:W0.cell? ⟨w.heap.size,0,none⟩=some (.bool false):=e0.cell 0
  have e2:W0.cell? ⟨w.heap.size,1,none⟩=some (.int .i64 0):=e0.cell 1
  subst hA
  clear hl hz hk1 hj hkr hk2 e0 hlen
  go_enter Tryz.func108,Tryz.ntmps108
  go_upto_region 1 with fail
  rw [HW0.out]
  go_wp2
  exact bodyPost_ret (v:=.agg #[.bool rn,.int .i64 rm]) (by simp [results,Tryz.results108,go_sem,q0,q1,q2,e1,e2]) rfl ⟨rfl,below_put HB0.out (Nat.le_refl _) _ _⟩
 have hk1':(x.kind == 1)=false:=by simpa using hk1
 by_cases hkk2:x.kind=2
 ·have hz:=HR.out
  unfold topV at hz
  rw [if_neg hk1,if_pos hkk2] at hz
  rw [← hz] at c2 c3
  rw [hkk2] at c0
  obtain ⟨_,e0⟩:=BX.out _ (Below.refl _ _)
  have e1:W0.cell? ⟨w.heap.size,0,none⟩=some (.bool false):=e0.cell 0
  have e2:W0.cell? ⟨w.heap.size,1,none⟩=some (.int .i64 0):=e0.cell 1
  clear hz hk1 hk1' hkk2 hkr hk2 e0
  go_enter Tryz.func108,Tryz.ntmps108
  go_upto_region 1 with fail
  rw [HW0.out]
  go_wp2
  exact bodyPost_ret (v:=.agg #[.bool rn,.int .i64 rm]) (by simp [results,Tryz.results108,go_sem,q0,q1,q2,e1,e2]) rfl ⟨rfl,below_put HB0.out (Nat.le_refl _) _ _⟩
 have hkk2':(x.kind == 2)=false:=by simpa using hkk2
 have hp0:0 < x.kids.length:=by have:=HOK.out.1;unfold kidsK at this;rw [if_neg (by omega)] at this;split at this <;> (try split at this) <;> omega
 have hpI:(0:Int) < (x.kids.length:Int):=by omega
 have HZ:=Lib.hid (show ((rn,rm):Val)=if x.kind=10 then ofTr (2 - trI (kidV row x 0)) else if x.kind=11 then flagV (kidV row x 0).1 else combV x.kind (kidV row x 0) (kidV row x 1) by
  have hz:=HR.out
  unfold topV at hz
  rwa [if_neg hk1,if_neg hkk2] at hz)
 obtain ⟨b1,o1,hA1,hb1,HC0⟩:=HVX.out 0 hp0 W0 HB0.out
 have hV0:=HKV.out 0 hp0
 have HKE:=Lib.hid (kidV_at (row:=row) hp0)
 obtain ⟨⟨an,av⟩,hav⟩:∃ v,exVal row x.kids[0]=v:=⟨_,rfl⟩
 rw [hav] at HC0 hV0 HKE
 simp only [Nat.zero_mul,Nat.add_zero] at HC0
 have HCC:=Lib.hid HC0
 have HA1:=Lib.hid hA1
 have HV0:=Lib.hid hV0
 rw [hA1] at c4
 clear hA1 hV0 HC0 hav HR hk1 hkk2
 go_enter Tryz.func108,Tryz.ntmps108
 go_upto_region 1 with fail
 rw [HW0.out]
 go_wp2_with fail
 refine HCC.out.mono ?_
 rintro e w1 ⟨rfl,hbb1⟩
 obtain ⟨W1,hW1⟩:∃ z,w1.alloc (.cells #[.bool an,.int .i64 av] 85)=z:=⟨_,rfl⟩
 have bw1:Below W0.heap.size W0 W1:=by rw [← hW1];exact bch hbb1 (balloc (Below.refl _ _) _)
 have ra1:Row W1 w1.heap.size 85 [.bool an,.int .i64 av]:=by rw [← hW1];exact Row.new _ _ _
 have HB1:=Lib.hid bw1
 have HRA:=Lib.hid ra1
 have HW1:=Lib.hid hW1
 clear c0 c1 c2 c3 c4 hbb1 bw1 ra1 hW1 q0 q1 q2
 have BY:=Lib.hid (fun (z:World) (hz:Below W1.heap.size W1 z)=>show (z.cell? ⟨b,o,none⟩=some (.int .i64 x.kind) ∧ z.cell? ⟨b,o + 4,none⟩=some (.slice (some ⟨b1,o1,none⟩) x.kids.length f.sv.c) ∧ z.cell? ⟨w1.heap.size,0,none⟩=some (.bool an) ∧ z.cell? ⟨w1.heap.size,1,none⟩=some (.int .i64 av)) ∧ Row z w.heap.size 85 [.bool false,.int .i64 0] from by
  obtain ⟨⟨c0,c1,c2,c3,c4⟩,q⟩:=BX.out z (bch HB1.out hz)
  rw [HA1.out] at c4
  exact ⟨⟨c0,c4,(HRA.out.on hz).cell 0,(HRA.out.on hz).cell 1⟩,q⟩)
 obtain ⟨⟨c0,c4,d0,d1⟩,_⟩:=BY.out _ (Below.refl _ _)
 go_upto_region 7 with fail
 rw [HW1.out]
 by_cases hk10:x.kind=10
 ·have hz:=HZ.out
  rw [if_pos hk10,HKE.out] at hz
  have htr:=trI_range ((an,av):Val)
  have HT:=Lib.hid (fun z=>show Calls Tryz.prog 107 #[.agg #[.bool an,.int .i64 av]] z fun e w'=>e=.returned (.int .i64 (trI (an,av))) ∧ Below z.heap.size z w' from truthOf_ok (an,av) z)
  obtain ⟨ta,hta⟩:∃ t,trI ((an,av):Val)=t:=⟨_,rfl⟩
  rw [hta] at hz htr HT
  have hw2:IntKind.i64.wrap (2 - ta)=2 - ta:=IntWalk.i64_in _ (by omega)
  have HTV:=Lib.hid (fun z=>show Calls Tryz.prog 128 #[.int .i64 (2 - ta)] z fun e w'=>e=.returned (.agg #[.bool rn,.int .i64 rm]) ∧ Below z.heap.size z w' from by
   have:=truthValue_ok (2 - ta) (by omega) z
   rw [← hz] at this
   exact this)
  rw [hk10] at c0
  clear hz hta hk10 hkr hk1' hkk2'
  go_wp2_with fail
  refine (HT.out _).mono ?_
  rintro e w2 ⟨rfl,hb2⟩
  have H2:=Lib.hid hb2
  clear hb2
  go_wp2_with fail
  refine (HTV.out _).mono ?_
  rintro e w3 ⟨rfl,hb3⟩
  have H3:=Lib.hid (bch H2.out hb3)
  clear hb3 c0 c4 d0 d1
  obtain ⟨q0,q1,q2,q3,q4⟩:=vbox ((BY.out _ H3.out).2)
  go_wp2
  exact bodyPost_ret (v:=.agg #[.bool rn,.int .i64 rm]) (by simp [results,Tryz.results108,go_sem,q0,q1,q2,q3,q4]) rfl ⟨rfl,below_put (bch HB0.out (bch HB1.out H3.out)) (Nat.le_refl _) _ _⟩
 have hk10':(x.kind == 10)=false:=by simpa using hk10
 by_cases hk11:x.kind=11
 ·have hz:=HZ.out
  rw [if_neg hk10,if_pos hk11,HKE.out] at hz
  have HT:=Lib.hid (fun z=>show Calls Tryz.prog 129 #[.bool an] z fun e w'=>e=.returned (.agg #[.bool rn,.int .i64 rm]) ∧ Below z.heap.size z w' from by
   have:=flag_ok an z
   rw [← hz] at this
   exact this)
  rw [hk11] at c0
  clear hz hk10 hk11 hkr hk1' hkk2' hk10'
  go_wp2_with fail
  refine (HT.out _).mono ?_
  rintro e w3 ⟨rfl,hb3⟩
  have H3:=Lib.hid hb3
  clear hb3 c0 c4 d0 d1
  obtain ⟨q0,q1,q2,q3,q4⟩:=vbox ((BY.out _ H3.out).2)
  go_wp2
  exact bodyPost_ret (v:=.agg #[.bool rn,.int .i64 rm]) (by simp [results,Tryz.results108,go_sem,q0,q1,q2,q3,q4]) rfl ⟨rfl,below_put (bch HB0.out (bch HB1.out H3.out)) (Nat.le_refl _) _ _⟩
 ·have hk11':(x.kind == 11)=false:=by simpa using hk11
  have hz:=HZ.out
  rw [if_neg hk10,if_neg hk11,HKE.out] at hz
  have hl2:x.kids.length=2:=by have:=HOK.out.1;unfold kidsK at this;rw [if_neg (by simp at hk1' hkk2';omega),if_neg (by omega)] at this;split at this <;> omega
  have hp1:1 < x.kids.length:=by omega
  have hpI1:(1:Int) < (x.kids.length:Int):=by omega
  have hV1:=HKV.out 1 hp1
  rw [kidV_at (row:=row) hp1] at hz
  obtain ⟨⟨bn,bv⟩,hbv⟩:∃ v,exVal row x.kids[1]=v:=⟨_,rfl⟩
  have HC1:=Lib.hid (fun (z:World) (hz:Below W1.heap.size W1 z)=>show Calls Tryz.prog 108 #[.pointer (some ⟨b1,o1 + 5,none⟩),.slice A row.length c] z (fun e w'=>e=.returned (.agg #[.bool bn,.int .i64 bv]) ∧ Below z.heap.size z w') from by
   obtain ⟨b2,o2,e1,e2,e3⟩:=HVX.out 1 hp1 z (bch HB0.out (bch HB1.out hz))
   rw [HA1.out] at e1
   cases e1
   rw [hbv] at e3
   simpa using e3)
  rw [hbv] at hz hV1
  have HCM:=Lib.hid (fun z=>show Calls Tryz.prog 130 #[.int .i64 x.kind,.agg #[.bool an,.int .i64 av],.agg #[.bool bn,.int .i64 bv]] z fun e w'=>e=.returned (.agg #[.bool rn,.int .i64 rm]) ∧ Below z.heap.size z w' from by
   have:=combined_ok x.kind (an,av) (bn,bv) z (by simp at hk1' hkk2';omega) HV0.out hV1
   rw [← hz] at this
   exact this)
  clear hz hbv hV1 hk10 hk11 hkr
  go_upto_region 12 with fail
  obtain ⟨u0,hu0⟩:∃ z,W1.drew=z:=⟨_,rfl⟩
  have Bu0:=Lib.hid (show Below W1.heap.size W1 u0 from hu0 ▸ (Below.refl _ _).drew)
  have Hu0:=Lib.hid hu0
  clear hu0
  refine wp_region_g 13 (fun z=>z.cell? ⟨b,o,none⟩=some (.int .i64 x.kind) ∧ z.cell? ⟨b,o + 4,none⟩=some (.slice (some ⟨b1,o1,none⟩) x.kids.length f.sv.c) ∧ z.cell? ⟨w1.heap.size,0,none⟩=some (.bool an) ∧ z.cell? ⟨w1.heap.size,1,none⟩=some (.int .i64 av)) (by kernel_rfl) ?_ (fun hHeld=>?_)
  ·exact (BY.out _ (Below.refl _ _).drew).1
  rw [Hu0.out] at hHeld ⊢
  refine tkH (i:=0) rfl (by assumption) ?_
  try simp only [Act.put,sTA,sC0,sCS]
  refine tkH (i:=1) rfl (by assumption) ?_
  try simp only [Act.put,sTA,sC0,sCS]
  refine tkH (i:=2) rfl (by assumption) ?_
  try simp only [Act.put,sTA,sC0,sCS]
  refine tkH (i:=3) rfl (by assumption) ?_
  try simp only [Act.put,sTA,sC0,sCS]
  refine tkH (i:=4) rfl (by assumption) ?_
  try simp only [Act.put,sTA,sC0,sCS]
  refine tkH (i:=5) rfl (by assumption) ?_
  try simp only [Act.put,sTA,sC0,sCS]
  refine tkH (i:=6) rfl (by assumption) ?_
  try simp only [Act.put,sTA,sC0,sCS]
  refine tkH (i:=7) rfl (by assumption) ?_
  try simp only [Act.put,sTA,sC0,sCS]
  refine tkH (i:=8) rfl (by assumption) ?_
  try simp only [Act.put,sTA,sC0,sCS]
  refine tkH (i:=9) rfl (by assumption) ?_
  try simp only [Act.put,sTA,sC0,sCS]
  refine tkH (i:=10) rfl (by assumption) ?_
  try simp only [Act.put,sTA,sC0,sCS]
  refine rdG (i:=11) (by kernel_rfl) rfl (fun K hK=>?_)
  go_simp
  go_at_call 108
  refine (HC1.out u0 Bu0.out).mono ?_
  rintro e y1 ⟨rfl,hb⟩
  have By1:=Lib.hid (bch Bu0.out hb)
  clear hb
  refine hK.out _ _ ?hS26 (fun hHeld=>?_)
  case hS26=>exact fun _=>(BY.out _ By1.out).1
  replace hHeld:=hHeld (by decide)
  clear hK K
  try simp only [Act.put,sTA,sC0,sCS]
  refine rdG (i:=12) (by kernel_rfl) rfl (fun K hK=>?_)
  go_simp
  go_at_call 130
  refine (HCM.out y1).mono ?_
  rintro e y2 ⟨rfl,hb⟩
  have By2:=Lib.hid (bch By1.out hb)
  clear hb
  refine hK.out _ _ ?hS27 (fun hHeld=>?_)
  case hS27=>exact fun _=>(BY.out _ By2.out).1
  replace hHeld:=hHeld (by decide)
  clear hK K
  try simp only [Act.put,sTA,sC0,sCS]
  refine rdG (i:=13) (by kernel_rfl) rfl (fun K hK=>?_)
  obtain ⟨q0,q1,q2,q3,q4⟩:=vbox ((BY.out _ By2.out).2)
  go_simp
  refine hK.out _ _ ?hS28 (fun hHeld=>?_)
  case hS28=>exact fun h=>absurd rfl h
  clear hK K
  try simp only [Act.put,sTA,sC0,sCS]
  refine wpAnyG_done (by kernel_rfl) ?_ _
  go_wp2
  exact bodyPost_ret (v:=.agg #[.bool rn,.int .i64 rm]) (by simp [results,Tryz.results108,go_sem,q0,q1,q2,q3,q4]) rfl ⟨rfl,below_put (bch HB0.out (bch HB1.out By2.out)) (Nat.le_refl _) _ _⟩
end Go.Proofs.YtcbfbgngkdiijaaGreat
