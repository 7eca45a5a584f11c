import Derived.Test.YtcbfbgngkdiijaaGreatProg
import Derived.Test.YtcbfbgngkdiijaaGreatZvEvI
import Derived.Test.YtcbfbgngkdiijaaGreatZvGd
import Derived.Test.YtcbfbgngkdiijaaGreatZvGa
namespace Go.Proofs.YtcbfbgngkdiijaaGreat
open Go.RowKit Go.Qo
set_option linter.unusedVariables false
set_option linter.unusedSimpArgs false

theorem trS_I (v:Val):trS v=if trI v=1 then 2 else if trI v=0 then 0 else 1:=by
 unfold trS trI
 by_cases h:v.1=true
 ·simp [h]
 ·by_cases h2:v.2=0
  ·simp [h,h2]
  ·simp [h,h2]
theorem andT_comb (a b:Val):ofT (andT (trS a) (trS b))=ofTr (min (trI a) (trI b)):=by
 rw [trS_I,trS_I]
 have h1:=trI_range a
 have h2:=trI_range b
 generalize trI a=x at *
 generalize trI b=y at *
 have hx:x=0 ∨ x=1 ∨ x=2:=by omega
 have hy:y=0 ∨ y=1 ∨ y=2:=by omega
 rcases hx with rfl | rfl | rfl <;> rcases hy with rfl | rfl | rfl <;> decide
theorem orT_comb (a b:Val):ofT (notT (andT (notT (trS a)) (notT (trS b))))=ofTr (max (trI a) (trI b)):=by
 rw [trS_I,trS_I]
 have h1:=trI_range a
 have h2:=trI_range b
 generalize trI a=x at *
 generalize trI b=y at *
 have hx:x=0 ∨ x=1 ∨ x=2:=by omega
 have hy:y=0 ∨ y=1 ∨ y=2:=by omega
 rcases hx with rfl | rfl | rfl <;> rcases hy with rfl | rfl | rfl <;> decide
theorem notT_range {a:Int} (h:a=0 ∨ a=1 ∨ a=2):notT a=0 ∨ notT a=1 ∨ notT a=2:=by rcases h with rfl | rfl | rfl <;> decide
theorem andT_range (a b:Int):andT a b=0 ∨ andT a b=1 ∨ andT a b=2:=by
 unfold andT
 split
 ·exact .inl rfl
 ·split
  ·exact .inr (.inl rfl)
  ·exact .inr (.inr rfl)

set_option maxRecDepth 20000 in
set_option maxHeartbeats 4000000 in
theorem specCombine_ok (k:Int) (a b:Val) (w:World) (hk:3 ≤ k ∧ k ≤ 9) (ha:vValid a=true) (hb:vValid b=true) :
 Calls Tryz.prog 99 #[.int .i64 k,.agg #[.bool a.1,.int .i64 a.2],.agg #[.bool b.1,.int .i64 b.2]] w fun e w'=>e=.returned (.agg #[.bool (combV k a b).1,.int .i64 (combV k a b).2]) ∧ Below w.heap.size w w':=by
 obtain ⟨⟨rn,rm⟩,hr⟩:∃ v,combV k a b=v:=⟨_,rfl⟩
 rw [hr]
 have hra:=vValid_range ha
 have hrb:=vValid_range hb
 have hta:=trS_range a
 have htb:=trS_range b
 have TA:=fun z=>specTruth_ok a z
 have TB:=fun z=>specTruth_ok b z
 have HC:combV k a b=if k=8 then ofT (andT (trS a) (trS b)) else if k=9 then ofT (notT (andT (notT (trS a)) (notT (trS b)))) else if a.1 || b.1 then (true,0) else if k=3 then numV (a.2 + b.2) else if k=4 then numV (a.2 - b.2) else if k=5 then numV (a.2 * b.2) else if k=6 then flagV (decide (a.2=b.2)) else flagV (decide (a.2 < b.2)):=by rw [andT_comb,orT_comb];rfl
 rw [hr] at HC
 obtain ⟨ta,hTa⟩:∃ t,trS a=t:=⟨_,rfl⟩
 obtain ⟨tb,hTb⟩:∃ t,trS b=t:=⟨_,rfl⟩
 rw [hTa] at hta TA HC
 rw [hTb] at htb TB HC
 clear hr ha hb hTa hTb
 obtain ⟨an,av⟩:=a
 obtain ⟨bn,bv⟩:=b
 dsimp only at *
 have HTA:=Lib.hid TA
 have HTB:=Lib.hid TB
 have Hta:=Lib.hid hta
 have Htb:=Lib.hid htb
 obtain ⟨W0,hW0⟩:∃ z,((w.alloc (.cells #[.bool an,.int .i64 av] 85)).alloc (.cells #[.bool bn,.int .i64 bv] 85)).alloc (.cells #[.bool false,.int .i64 0] 85)=z:=⟨_,rfl⟩
 have B0:Below w.heap.size w W0:=by rw [← hW0];exact balloc (balloc (balloc (Below.refl _ _) _) _) _
 have r0:Row W0 w.heap.size 85 [.bool an,.int .i64 av]:=by rw [← hW0];exact ((Row.new _ _ _).alloc _).alloc _
 have r1:Row W0 (w.heap.size + 1) 85 [.bool bn,.int .i64 bv]:=by rw [← hW0];exact (Row.second _ _ _ _).alloc _
 have r2:Row W0 (w.heap.size + 2) 85 [.bool false,.int .i64 0]:=by rw [← hW0];exact Row.third _ _ _ _ _
 have BX:=Lib.hid (fun (z:World) (hz:Below W0.heap.size W0 z)=>show (z.cell? ⟨w.heap.size,0,none⟩=some (.bool an) ∧ z.cell? ⟨w.heap.size,1,none⟩=some (.int .i64 av) ∧ z.cell? ⟨w.heap.size + 1,0,none⟩=some (.bool bn) ∧ z.cell? ⟨w.heap.size + 1,1,none⟩=some (.int .i64 bv)) ∧ Row z (w.heap.size + 2) 85 [.bool false,.int .i64 0] from ⟨⟨(r0.on hz).cell 0,(r0.on hz).cell 1,(r1.on hz).cell 0,(r1.on hz).cell 1⟩,r2.on hz⟩)
 have HW0:=Lib.hid hW0
 have HB0:=Lib.hid B0
 have HCH:=Lib.hid HC
 obtain ⟨a0,a1,b0,b1⟩:=(BX.out _ (Below.refl _ _)).1
 obtain ⟨q0,q1,q2,q3,q4⟩:=vbox ((BX.out _ (Below.refl _ _)).2)
 clear TA TB r0 r1 r2 B0 hW0 HC hta htb
 have Hk:=Lib.hid hk
 have hcase:k=8 ∨ k=9 ∨ (¬ k=8 ∧ ¬ k=9):=by omega
 clear hk
 rcases hcase with rfl | rfl | ⟨hk8,hk9⟩
 ·have HAN:=Lib.hid (fun (z:World)=>show Calls Tryz.prog 121 #[.int .i64 ta,.int .i64 tb] z fun e w'=>e=.returned (.int .i64 (andT ta tb)) ∧ Below z.heap.size z w' from (andTruth_ok ta tb z Hta.out Htb.out).mono fun e z' h=>⟨h.1,h.2 ▸ Below.refl _ _⟩)
  have HOF:=Lib.hid (fun (z:World)=>show Calls Tryz.prog 96 #[.int .i64 (andT ta tb)] z fun e w'=>e=.returned (.agg #[.bool rn,.int .i64 rm]) ∧ Below z.heap.size z w' from by
   have:=ofTruth_ok (andT ta tb) z (andT_range _ _)
   have h:=HCH.out
   rw [if_pos rfl] at h
   rw [← h] at this
   exact this)
  clear q0 q1 q2 q3 q4
  go_enter Tryz.func99,Tryz.ntmps99
  go_upto_region 3 with fail
  rw [HW0.out]
  obtain ⟨u0,hu0⟩:∃ z,W0.drew=z:=⟨_,rfl⟩
  have Bu0:=Lib.hid (show Below W0.heap.size W0 u0 from hu0 ▸ (Below.refl _ _).drew)
  have Hu0:=Lib.hid hu0
  clear hu0
  refine wp_region_g 6 (fun z=>z.cell? ⟨w.heap.size,0,none⟩=some (.bool an) ∧ z.cell? ⟨w.heap.size,1,none⟩=some (.int .i64 av) ∧ z.cell? ⟨w.heap.size + 1,0,none⟩=some (.bool bn) ∧ z.cell? ⟨w.heap.size + 1,1,none⟩=some (.int .i64 bv)) (by kernel_rfl) ?_ (fun hHeld=>?_)
  ·exact (BX.out _ (Below.refl _ _).drew).1
  rw [Hu0.out] at hHeld ⊢
  refine tkH (i:=0) rfl (by assumption) ?_
  try simp only [Act.put,sTA,sC0,sCS]
  refine tkH (i:=2) rfl (by assumption) ?_
  try simp only [Act.put,sTA,sC0,sCS]
  refine rdG (i:=1) (by kernel_rfl) rfl (fun K hK=>?_)
  go_simp
  go_at_call 95
  refine (HTA.out u0).mono ?_
  rintro e y1 ⟨rfl,hb⟩
  have By1:=Lib.hid (bch Bu0.out hb)
  clear hb
  refine hK.out _ _ ?hS3 (fun hHeld=>?_)
  case hS3=>exact fun _=>(BX.out _ By1.out).1
  replace hHeld:=hHeld (by decide)
  clear hK K
  try simp only [Act.put,sTA,sC0,sCS]
  refine rdG (i:=3) (by kernel_rfl) rfl (fun K hK=>?_)
  go_simp
  go_at_call 95
  refine (HTB.out y1).mono ?_
  rintro e y2 ⟨rfl,hb⟩
  have By2:=Lib.hid (bch By1.out hb)
  clear hb
  refine hK.out _ _ ?hS4 (fun hHeld=>?_)
  case hS4=>exact fun _=>(BX.out _ By2.out).1
  replace hHeld:=hHeld (by decide)
  clear hK K
  try simp only [Act.put,sTA,sC0,sCS]
  refine rdG (i:=4) (by kernel_rfl) rfl (fun K hK=>?_)
  go_simp
  go_at_call 121
  refine (HAN.out y2).mono ?_
  rintro e y3 ⟨rfl,hb⟩
  have By3:=Lib.hid (bch By2.out hb)
  clear hb
  refine hK.out _ _ ?hS5 (fun hHeld=>?_)
  case hS5=>exact fun _=>(BX.out _ By3.out).1
  replace hHeld:=hHeld (by decide)
  clear hK K
  try simp only [Act.put,sTA,sC0,sCS]
  refine rdG (i:=5) (by kernel_rfl) rfl (fun K hK=>?_)
  go_simp
  go_at_call 96
  refine (HOF.out y3).mono ?_
  rintro e y4 ⟨rfl,hb⟩
  have By4:=Lib.hid (bch By3.out hb)
  clear hb
  refine hK.out _ _ ?hS6 (fun hHeld=>?_)
  case hS6=>exact fun _=>(BX.out _ By4.out).1
  replace hHeld:=hHeld (by decide)
  clear hK K
  try simp only [Act.put,sTA,sC0,sCS]
  refine rdG (i:=6) (by kernel_rfl) rfl (fun K hK=>?_)
  obtain ⟨q0,q1,q2,q3,q4⟩:=vbox ((BX.out _ By4.out).2)
  go_simp
  refine hK.out _ _ ?hS7 (fun hHeld=>?_)
  case hS7=>exact fun h=>absurd rfl h
  clear hK K
  try simp only [Act.put,sTA,sC0,sCS]
  refine wpAnyG_done (by kernel_rfl) ?_ _
  go_wp2
  exact bodyPost_ret (v:=.agg #[.bool rn,.int .i64 rm]) (by simp [results,Tryz.results99,go_sem,q0,q1,q2,q3,q4]) rfl ⟨rfl,below_put (bch HB0.out By4.out) (by omega) _ _⟩
 ·have HNA:=Lib.hid (fun (z:World)=>show Calls Tryz.prog 97 #[.int .i64 ta] z fun e w'=>e=.returned (.int .i64 (notT ta)) ∧ Below z.heap.size z w' from (notTruth_ok ta z Hta.out).mono fun e z' h=>⟨h.1,h.2 ▸ Below.refl _ _⟩)
  have HNB:=Lib.hid (fun (z:World)=>show Calls Tryz.prog 97 #[.int .i64 tb] z fun e w'=>e=.returned (.int .i64 (notT tb)) ∧ Below z.heap.size z w' from (notTruth_ok tb z Htb.out).mono fun e z' h=>⟨h.1,h.2 ▸ Below.refl _ _⟩)
  have HAN:=Lib.hid (fun (z:World)=>show Calls Tryz.prog 121 #[.int .i64 (notT ta),.int .i64 (notT tb)] z fun e w'=>e=.returned (.int .i64 (andT (notT ta) (notT tb))) ∧ Below z.heap.size z w' from (andTruth_ok _ _ z (notT_range Hta.out) (notT_range Htb.out)).mono fun e z' h=>⟨h.1,h.2 ▸ Below.refl _ _⟩)
  have HNC:=Lib.hid (fun (z:World)=>show Calls Tryz.prog 97 #[.int .i64 (andT (notT ta) (notT tb))] z fun e w'=>e=.returned (.int .i64 (notT (andT (notT ta) (notT tb)))) ∧ Below z.heap.size z w' from (notTruth_ok _ z (andT_range _ _)).mono fun e z' h=>⟨h.1,h.2 ▸ Below.refl _ _⟩)
  have HOF:=Lib.hid (fun (z:World)=>show Calls Tryz.prog 96 #[.int .i64 (notT (andT (notT ta) (notT tb)))] z fun e w'=>e=.returned (.agg #[.bool rn,.int .i64 rm]) ∧ Below z.heap.size z w' from by
   have:=ofTruth_ok (notT (andT (notT ta) (notT tb))) z (notT_range (andT_range _ _))
   have h:=HCH.out
   rw [if_neg (by decide),if_pos rfl] at h
   rw [← h] at this
   exact this)
  clear q0 q1 q2 q3 q4
  go_enter Tryz.func99,Tryz.ntmps99
  go_upto_region 5 with fail
  rw [HW0.out]
  obtain ⟨u0,hu0⟩:∃ z,W0.drew=z:=⟨_,rfl⟩
  have Bu0:=Lib.hid (show Below W0.heap.size W0 u0 from hu0 ▸ (Below.refl _ _).drew)
  have Hu0:=Lib.hid hu0
  clear hu0
  refine wp_region_g 9 (fun z=>z.cell? ⟨w.heap.size,0,none⟩=some (.bool an) ∧ z.cell? ⟨w.heap.size,1,none⟩=some (.int .i64 av) ∧ z.cell? ⟨w.heap.size + 1,0,none⟩=some (.bool bn) ∧ z.cell? ⟨w.heap.size + 1,1,none⟩=some (.int .i64 bv)) (by kernel_rfl) ?_ (fun hHeld=>?_)
  ·exact (BX.out _ (Below.refl _ _).drew).1
  rw [Hu0.out] at hHeld ⊢
  refine tkH (i:=0) rfl (by assumption) ?_
  try simp only [Act.put,sTA,sC0,sCS]
  refine tkH (i:=3) rfl (by assumption) ?_
  try simp only [Act.put,sTA,sC0,sCS]
  refine rdG (i:=1) (by kernel_rfl) rfl (fun K hK=>?_)
  go_simp
  go_at_call 95
  refine (HTA.out u0).mono ?_
  rintro e y1 ⟨rfl,hb⟩
  have By1:=Lib.hid (bch Bu0.out hb)
  clear hb
  refine hK.out _ _ ?hS10 (fun hHeld=>?_)
  case hS10=>exact fun _=>(BX.out _ By1.out).1
  replace hHeld:=hHeld (by decide)
  clear hK K
  try simp only [Act.put,sTA,sC0,sCS]
  refine rdG (i:=2) (by kernel_rfl) rfl (fun K hK=>?_)
  go_simp
  go_at_call 97
  refine (HNA.out y1).mono ?_
  rintro e y2 ⟨rfl,hb⟩
  have By2:=Lib.hid (bch By1.out hb)
  clear hb
  refine hK.out _ _ ?hS11 (fun hHeld=>?_)
  case hS11=>exact fun _=>(BX.out _ By2.out).1
  replace hHeld:=hHeld (by decide)
  clear hK K
  try simp only [Act.put,sTA,sC0,sCS]
  refine rdG (i:=4) (by kernel_rfl) rfl (fun K hK=>?_)
  go_simp
  go_at_call 95
  refine (HTB.out y2).mono ?_
  rintro e y3 ⟨rfl,hb⟩
  have By3:=Lib.hid (bch By2.out hb)
  clear hb
  refine hK.out _ _ ?hS12 (fun hHeld=>?_)
  case hS12=>exact fun _=>(BX.out _ By3.out).1
  replace hHeld:=hHeld (by decide)
  clear hK K
  try simp only [Act.put,sTA,sC0,sCS]
  refine rdG (i:=5) (by kernel_rfl) rfl (fun K hK=>?_)
  go_simp
  go_at_call 97
  refine (HNB.out y3).mono ?_
  rintro e y4 ⟨rfl,hb⟩
  have By4:=Lib.hid (bch By3.out hb)
  clear hb
  refine hK.out _ _ ?hS13 (fun hHeld=>?_)
  case hS13=>exact fun _=>(BX.out _ By4.out).1
  replace hHeld:=hHeld (by decide)
  clear hK K
  try simp only [Act.put,sTA,sC0,sCS]
  refine rdG (i:=6) (by kernel_rfl) rfl (fun K hK=>?_)
  go_simp
  go_at_call 121
  refine (HAN.out y4).mono ?_
  rintro e y5 ⟨rfl,hb⟩
  have By5:=Lib.hid (bch By4.out hb)
  clear hb
  refine hK.out _ _ ?hS14 (fun hHeld=>?_)
  case hS14=>exact fun _=>(BX.out _ By5.out).1
  replace hHeld:=hHeld (by decide)
  clear hK K
  try simp only [Act.put,sTA,sC0,sCS]
  refine rdG (i:=7) (by kernel_rfl) rfl (fun K hK=>?_)
  go_simp
  go_at_call 97
  refine (HNC.out y5).mono ?_
  rintro e y6 ⟨rfl,hb⟩
  have By6:=Lib.hid (bch By5.out hb)
  clear hb
  refine hK.out _ _ ?hS15 (fun hHeld=>?_)
  case hS15=>exact fun _=>(BX.out _ By6.out).1
  replace hHeld:=hHeld (by decide)
  clear hK K
  try simp only [Act.put,sTA,sC0,sCS]
  refine rdG (i:=8) (by kernel_rfl) rfl (fun K hK=>?_)
  go_simp
  go_at_call 96
  refine (HOF.out y6).mono ?_
  rintro e y7 ⟨rfl,hb⟩
  have By7:=Lib.hid (bch By6.out hb)
  clear hb
  refine hK.out _ _ ?hS16 (fun hHeld=>?_)
  case hS16=>exact fun _=>(BX.out _ By7.out).1
  replace hHeld:=hHeld (by decide)
  clear hK K
  try simp only [Act.put,sTA,sC0,sCS]
  refine rdG (i:=9) (by kernel_rfl) rfl (fun K hK=>?_)
  obtain ⟨q0,q1,q2,q3,q4⟩:=vbox ((BX.out _ By7.out).2)
  go_simp
  refine hK.out _ _ ?hS17 (fun hHeld=>?_)
  case hS17=>exact fun h=>absurd rfl h
  clear hK K
  try simp only [Act.put,sTA,sC0,sCS]
  refine wpAnyG_done (by kernel_rfl) ?_ _
  go_wp2
  exact bodyPost_ret (v:=.agg #[.bool rn,.int .i64 rm]) (by simp [results,Tryz.results99,go_sem,q0,q1,q2,q3,q4]) rfl ⟨rfl,below_put (bch HB0.out By7.out) (by omega) _ _⟩
 ·have HCH2:=HCH.out
  rw [if_neg hk8,if_neg hk9] at HCH2
  have hk8':(k == 8)=false:=by simpa using hk8
  have hk9':(k == 9)=false:=by simpa using hk9
  have hnul:(an || bn)=true ∨ (an=false ∧ bn=false):=by cases an <;> cases bn <;> simp
  rcases hnul with hnul | ⟨rfl,rfl⟩
  ·rw [if_pos hnul] at HCH2
   injection HCH2 with hrn hrm
   subst hrn
   subst hrm
   cases an
   ·have hb:bn=true:=by simpa using hnul
    subst hb
    clear a0 a1 b0 b1
    obtain ⟨a0,a1,b0,b1⟩:=(BX.out _ (Below.refl _ _)).1
    go_enter Tryz.func99,Tryz.ntmps99
    go_upto_region 1 with fail
    rw [HW0.out]
    go_wp2
    exact bodyPost_ret (v:=.agg #[.bool true,.int .i64 0]) (by simp [results,Tryz.results99,go_sem,q0,q1,q2,q3,q4]) rfl ⟨rfl,below_put HB0.out (by omega) _ _⟩
   ·clear hnul
    clear a0 a1 b0 b1
    obtain ⟨a0,a1,b0,b1⟩:=(BX.out _ (Below.refl _ _)).1
    go_enter Tryz.func99,Tryz.ntmps99
    go_upto_region 1 with fail
    rw [HW0.out]
    go_wp2
    exact bodyPost_ret (v:=.agg #[.bool true,.int .i64 0]) (by simp [results,Tryz.results99,go_sem,q0,q1,q2,q3,q4]) rfl ⟨rfl,below_put HB0.out (by omega) _ _⟩
  ·simp only [Bool.or_self,Bool.false_eq_true,if_false] at HCH2
   have hkk:k=3 ∨ k=4 ∨ k=5 ∨ k=6 ∨ k=7:=by have:=Hk.out;omega
   clear hk8 hk9 hk8' hk9' HTA HTB
   rcases hkk with rfl | rfl | rfl | rfl | rfl
   ·skip
    have hww:IntKind.i64.wrap (av + bv)=av + bv:=IntWalk.i64_in _ (by omega)
    have HTN:=Lib.hid (fun z=>show Calls Tryz.prog 122 #[.int .i64 (av + bv)] z fun e w'=>e=.returned (.agg #[.bool rn,.int .i64 rm]) ∧ Below z.heap.size z w' from by
     have:=specNumber_ok (av + bv) z
     have h:=HCH2
     simp only [show ((3:Int)=3)=True from by simp,show ((3:Int)=4)=False from by simp,show ((3:Int)=5)=False from by simp,show ((3:Int)=6)=False from by simp,if_true,if_false] at h
     unfold vAgg at this
     rw [← h] at this
     exact this)
    clear HCH2
    clear q0 q1 q2 q3 q4
    go_enter Tryz.func99,Tryz.ntmps99
    go_upto_region 1 with fail
    rw [HW0.out]
    go_wp2_with fail
    refine (HTN.out _).mono ?_
    rintro e y3 ⟨rfl,hb⟩
    have By3:=Lib.hid hb
    clear hb
    obtain ⟨q0,q1,q2,q3,q4⟩:=vbox ((BX.out _ By3.out).2)
    go_wp2
    exact bodyPost_ret (v:=.agg #[.bool rn,.int .i64 rm]) (by simp [results,Tryz.results99,go_sem,q0,q1,q2,q3,q4]) rfl ⟨rfl,below_put (bch HB0.out By3.out) (by omega) _ _⟩
   ·skip
    have hww:IntKind.i64.wrap (av - bv)=av - bv:=IntWalk.i64_in _ (by omega)
    have HTN:=Lib.hid (fun z=>show Calls Tryz.prog 122 #[.int .i64 (av - bv)] z fun e w'=>e=.returned (.agg #[.bool rn,.int .i64 rm]) ∧ Below z.heap.size z w' from by
     have:=specNumber_ok (av - bv) z
     have h:=HCH2
     simp only [show ((4:Int)=3)=False from by simp,show ((4:Int)=4)=True from by simp,show ((4:Int)=5)=False from by simp,show ((4:Int)=6)=False from by simp,if_true,if_false] at h
     unfold vAgg at this
     rw [← h] at this
     exact this)
    clear HCH2
    clear q0 q1 q2 q3 q4
    go_enter Tryz.func99,Tryz.ntmps99
    go_upto_region 1 with fail
    rw [HW0.out]
    go_wp2_with fail
    refine (HTN.out _).mono ?_
    rintro e y3 ⟨rfl,hb⟩
    have By3:=Lib.hid hb
    clear hb
    obtain ⟨q0,q1,q2,q3,q4⟩:=vbox ((BX.out _ By3.out).2)
    go_wp2
    exact bodyPost_ret (v:=.agg #[.bool rn,.int .i64 rm]) (by simp [results,Tryz.results99,go_sem,q0,q1,q2,q3,q4]) rfl ⟨rfl,below_put (bch HB0.out By3.out) (by omega) _ _⟩
   ·skip
    have hpr:=mul_bd hra hrb
    have hww:IntKind.i64.wrap (av * bv)=av * bv:=IntWalk.i64_in _ (by omega)
    have HTN:=Lib.hid (fun z=>show Calls Tryz.prog 122 #[.int .i64 (av * bv)] z fun e w'=>e=.returned (.agg #[.bool rn,.int .i64 rm]) ∧ Below z.heap.size z w' from by
     have:=specNumber_ok (av * bv) z
     have h:=HCH2
     simp only [show ((5:Int)=3)=False from by simp,show ((5:Int)=4)=False from by simp,show ((5:Int)=5)=True from by simp,show ((5:Int)=6)=False from by simp,if_true,if_false] at h
     unfold vAgg at this
     rw [← h] at this
     exact this)
    clear HCH2
    clear q0 q1 q2 q3 q4
    go_enter Tryz.func99,Tryz.ntmps99
    go_upto_region 1 with fail
    rw [HW0.out]
    go_wp2_with fail
    refine (HTN.out _).mono ?_
    rintro e y3 ⟨rfl,hb⟩
    have By3:=Lib.hid hb
    clear hb
    obtain ⟨q0,q1,q2,q3,q4⟩:=vbox ((BX.out _ By3.out).2)
    go_wp2
    exact bodyPost_ret (v:=.agg #[.bool rn,.int .i64 rm]) (by simp [results,Tryz.results99,go_sem,q0,q1,q2,q3,q4]) rfl ⟨rfl,below_put (bch HB0.out By3.out) (by omega) _ _⟩
   ·skip
    obtain ⟨t,ht⟩:∃ t,(av == bv)=t:=⟨_,rfl⟩
    have hrr:rn=false ∧ rm=(if t=true then 1 else 0):=by
     have h:=HCH2
     simp only [show ((6:Int)=3)=False from by simp,show ((6:Int)=4)=False from by simp,show ((6:Int)=5)=False from by simp,show ((6:Int)=6)=True from by simp,if_true,if_false] at h
     have e2:(decide (av=bv))=t:=by rw [← ht];try rfl
     rw [e2] at h
     injection h with h1 h2
     exact ⟨h1,h2⟩
    have HTN:=Lib.hid (fun z=>show Calls Tryz.prog 98 #[.bool t] z fun e w'=>e=.returned (.int .i64 rm) ∧ Below z.heap.size z w' from (toInt_ok t z).mono fun e z' h=>⟨hrr.2 ▸ h.1,h.2 ▸ Below.refl _ _⟩)
    have hrn:=hrr.1
    clear hrr
    subst hrn
    clear HCH2
    clear q0 q1 q2 q3 q4
    go_enter Tryz.func99,Tryz.ntmps99
    go_upto_region 1 with fail
    rw [HW0.out]
    go_wp2_with fail
    refine (HTN.out _).mono ?_
    rintro e y3 ⟨rfl,hb⟩
    have By3:=Lib.hid hb
    clear hb
    obtain ⟨q0,q1,q2,q3,q4⟩:=vbox ((BX.out _ By3.out).2)
    go_wp2
    exact bodyPost_ret (v:=.agg #[.bool false,.int .i64 rm]) (by simp [results,Tryz.results99,go_sem,q0,q1,q2,q3,q4]) rfl ⟨rfl,below_put (bch HB0.out By3.out) (by omega) _ _⟩
   ·skip
    obtain ⟨t,ht⟩:∃ t,(decide (av < bv))=t:=⟨_,rfl⟩
    have hrr:rn=false ∧ rm=(if t=true then 1 else 0):=by
     have h:=HCH2
     simp only [show ((7:Int)=3)=False from by simp,show ((7:Int)=4)=False from by simp,show ((7:Int)=5)=False from by simp,show ((7:Int)=6)=False from by simp,if_true,if_false] at h
     have e2:(decide (av < bv))=t:=by rw [← ht];try rfl
     rw [e2] at h
     injection h with h1 h2
     exact ⟨h1,h2⟩
    have HTN:=Lib.hid (fun z=>show Calls Tryz.prog 98 #[.bool t] z fun e w'=>e=.returned (.int .i64 rm) ∧ Below z.heap.size z w' from (toInt_ok t z).mono fun e z' h=>⟨hrr.2 ▸ h.1,h.2 ▸ Below.refl _ _⟩)
    have hrn:=hrr.1
    clear hrr
    subst hrn
    clear HCH2
    clear q0 q1 q2 q3 q4
    go_enter Tryz.func99,Tryz.ntmps99
    go_upto_region 1 with fail
    rw [HW0.out]
    go_wp2_with fail
    refine (HTN.out _).mono ?_
    rintro e y3 ⟨rfl,hb⟩
    have By3:=Lib.hid hb
    clear hb
    obtain ⟨q0,q1,q2,q3,q4⟩:=vbox ((BX.out _ By3.out).2)
    go_wp2
    exact bodyPost_ret (v:=.agg #[.bool false,.int .i64 rm]) (by simp [results,Tryz.results99,go_sem,q0,q1,q2,q3,q4]) rfl ⟨rfl,below_put (bch HB0.out By3.out) (by omega) _ _⟩
end Go.Proofs.YtcbfbgngkdiijaaGreat
