import Derived.Test.YtcbfbgngkdiijaaGreatProg
import Derived.Test.YtcbfbgngkdiijaaGreatZvGe
import Derived.Test.YtcbfbgngkdiijaaGreatZvRwt
import Derived.Test.YtcbfbgngkdiijaaGreatZvGg
import Derived.Test.YtcbfbgngkdiijaaGreatZvPln
import Derived.Test.YtcbfbgngkdiijaaGreatZvGc
import Derived.Deep.AppendLies
import Derived.Deep.RegionLaw
namespace Go.Proofs.YtcbfbgngkdiijaaGreat
open Go.RowKit Go.Qo
set_option linter.unusedVariables false
set_option linter.unusedSimpArgs false

def OneRow (xs:List Val) (w:World) (e:Ending) (w':World):Prop:=∃ v,e=.returned v ∧ Ow w.heap.size 85 2 valC w' v xs ∧ Below w.heap.size w w'

set_option maxHeartbeats 400000 in
theorem copyRow_ok (A:Option Addr) (c:Nat) (xs:List Val) (w:World) (hn:xs.length ≤ 1048576) (h:Sl 2 valC w w.heap.size A xs) :
 Calls Tryz.prog 76 #[.slice A xs.length c] w (OneRow xs w):=by
 have HO:=Lib.hid (Ow.lit (w:=w) (lo:=w.heap.size) (e:=85) (enc:=valC) (xs:=([]:List Val)) (cs:=#[]) (sz:=2) rfl rfl (Nat.le_refl _) (by decide))
 have HS:=Lib.hid (h.on (balloc (Below.refl _ _) (.cells #[] 85)))
 have hsz:w.heap.size ≤ (w.alloc (.cells #[] 85)).heap.size:=by simp
 clear h
 go_enter Tryz.func76,Tryz.ntmps76
 go_wp2_with (at_builtin;refine wpList_app rfl (.tmp 3) (.tmp 4) 100 rfl w.heap.size 85 _ 2 16 valC Tryz.underlying100 zeroVal rfl (by decide) (by decide) valC_length valC_one _ [] rfl HO.out A _ c xs rfl rfl HS.out (by simp;omega) hsz ?_;intro v' w' hown hgr)
 go_ret
 exact ⟨_,rfl,hown,(balloc (Below.refl _ _) _).grown hgr hsz fun k hk=>(HO.out.ty k hk).1⟩

end Go.Proofs.YtcbfbgngkdiijaaGreat

namespace Go.Proofs.YtcbfbgngkdiijaaGreat
open Go.RowKit Go.Qo
set_option linter.unusedVariables false
set_option linter.unusedSimpArgs false

def InsAt (rows:List Row1) (row:Row1) (low:Nat):Prop:=low ≤ rows.length ∧ (∀ y,0 < low → rows[low - 1]? = some y → rCmp y row ≤ 0) ∧ ∀ y,rows[low]? = some y → 0 < rCmp y row
def InsRes (lo:Nat) (rows:List Row1) (row:Row1) (w:World) (e:Ending) (w':World):Prop:=
 ∃ (low:Nat) (v:Value) (svs:List SV),e=.returned v ∧ InsAt rows row low ∧ Ow w.heap.size 100 1 svC w' v svs ∧ RowsT 85 2 valC lo w' svs (rows.take low ++ [row] ++ rows.drop low) ∧ Below w.heap.size w w'

set_option maxRecDepth 20000 in
set_option maxHeartbeats 2000000 in
theorem insertRow_ok (lo:Nat) (A AR:Option Addr) (c cR:Nat) (svs:List SV) (rows:List Row1) (row:Row1) (w:World) (hlo:lo ≤ w.heap.size) (hn:rows.length ≤ 1048576) (hc:rows.length ≤ c) (hnr:row.length ≤ 1048576) (hlr:∀ r ∈ rows,r.length ≤ 1048576) (hs:Sl 1 svC w w.heap.size A svs) (hT:RowsT 85 2 valC lo w svs rows) (hR:Sl 2 valC w w.heap.size AR row) :
 Calls Tryz.prog 71 #[.slice A rows.length c,.slice AR row.length cR] w (InsRes lo rows row w):=by
 have HS:=Lib.hid hs
 have HT:=Lib.hid hT
 have HRo:=Lib.hid hR
 have HL:=Lib.hid hlr
 have hsl:=hT.1
 clear hs hT hR hlr
 go_enter Tryz.func71,Tryz.ntmps71
 go_wp2
 go_loopg [5,6] (rows.length) (fun g lv hv wr=>∃ l h:Nat,l ≤ h ∧ h ≤ rows.length ∧ g=h - l ∧ lv=.int .i64 l ∧ hv=.int .i64 h ∧ Below w.heap.size w wr ∧ (∀ y,0 < l → rows[l - 1]? = some y → rCmp y row ≤ 0) ∧ ∀ y,rows[h]? = some y → 0 < rCmp y row)
 case atStart=>exact ⟨0,rows.length,by omega,by omega,by omega,rfl,rfl,Below.refl _ _,fun y h=>absurd h (by omega),fun y h=>by simp at h⟩
 case round=>
  obtain ⟨l,h,hlh,hh,rfl,rfl,rfl,hb,hp⟩:=hrel
  have Hp:=Lib.hid hp
  clear hp
  by_cases hlt:l < h
  ·obtain ⟨m,hm⟩:∃ m,(l + h) / 2=m:=⟨_,rfl⟩
   have hm1:l ≤ m:=by omega
   have hm2:m < h:=by omega
   have e1:((l:Int) + (h:Int)) / 2=(m:Int):=by omega
   have hmr:m < rows.length:=by omega
   obtain ⟨b,off,A1,C1,hA,hB,c1,hc1,hmx,s1⟩:=(sls_of' (HS.out.on hb) (HT.out.on hb)).at_ hmr
   have hx:=Lib.hid (List.getElem?_eq_getElem hmr)
   have hxl:=HL.out _ (List.getElem_mem hmr)
   generalize rows[m]=x at *
   subst hA
   obtain ⟨R,hR⟩:∃ R,rCmp x row=R:=⟨_,rfl⟩
   have HK:=Lib.hid (specCompareRows_ok A1 AR C1 cR x row wr (by unfold maxLen;omega) (by unfold maxLen;omega) s1 (HRo.out.on hb) R hR)
   have HRR:=Lib.hid hR
   clear hR s1 hc1 hmx hxl hm
   have hb':=Lib.hid hb
   clear hb
   by_cases h0:R ≤ 0
   ·go_wp2_with fail
    refine HK.out.mono ?_
    rintro e w1 ⟨rfl,hb1⟩
    go_wp2
    go_roundg (h - (m + 1))
    case measure=>omega
    case rel=>exact ⟨m + 1,h,by omega,hh,rfl,by go_num,rfl,bch hb'.out hb1,fun y _ hy=>by rw [show m + 1 - 1=m by omega,hx.out] at hy;cases hy;rw [HRR.out];exact h0,Hp.out.2⟩
   ·go_wp2_with fail
    refine HK.out.mono ?_
    rintro e w1 ⟨rfl,hb1⟩
    go_wp2
    go_roundg (m - l)
    case measure=>omega
    case rel=>exact ⟨l,m,by omega,by omega,rfl,rfl,rfl,bch hb'.out hb1,Hp.out.1,fun y hy=>by rw [hx.out] at hy;cases hy;rw [HRR.out];omega⟩
  ·obtain ⟨w1,hw1⟩:∃ w1:World,w1=wr:=⟨_,rfl⟩
   subst hw1
   obtain rfl:l=h:=by omega
   have HAt:=Lib.hid (show InsAt rows row l from ⟨hh,Hp.out⟩)
   have B1:=Lib.hid hb
   have hz1:=B1.out.size
   have hls:l ≤ svs.length:=by omega
   have hlc:l ≤ c:=by omega
   have hsvn:svs.length ≤ 1048576:=by omega
   have HSL:=Lib.hid hsl
   have L0:=Lib.hid (Ow.lit (w:=w1) (lo:=w1.heap.size) (e:=100) (enc:=svC) (xs:=([]:List SV)) (cs:=#[]) (sz:=1) rfl rfl (Nat.le_refl _) (by decide))
   have S1:=Lib.hid ((((HS.out.on B1.out)).on (balloc (Below.refl _ _) (.cells #[] 100))).cut l)
   have hlt1:(svs.take l).length=l:=by rw [List.length_take];omega
   have hsz1:w1.heap.size ≤ (w1.alloc (.cells #[] 100)).heap.size:=by simp
   clear hb hsl
   go_wp2_with (at_builtin;refine wpList_app rfl (.tmp 28) (.tmp 31) 30 rfl w1.heap.size 100 _ 1 24 svC Tryz.underlying30 zeroRow rfl (by decide) (by decide) svC_length svC_one _ [] rfl L0.out A l c (svs.take l) rfl hlt1.symm S1.out (by simp <;> omega) hsz1 ?_;intro v1 w2 how1 hgr1;have B12:=Lib.hid ((balloc (Below.refl _ w1) _).grown hgr1 hsz1 fun k hk=>(L0.out.ty k hk).1);have B2:=Lib.hid (bch B1.out B12.out))
   refine (copyRow_ok AR cR row w2 hnr (HRo.out.on B2.out)).mono ?_
   rintro e w3 ⟨v2,rfl,how2,hb3⟩
   obtain ⟨A2,c2,rfl,hc21,hc22,hs2⟩:=how2.shape valC_length
   have B23:=Lib.hid (balloc hb3 (.cells #[.slice A2 row.length c2] 100))
   have O1:=Lib.hid (how1.on B23.out)
   have S2:=Lib.hid (Row.sl' (w:=w3.alloc (.cells #[.slice A2 row.length c2] 100)) (t:=100) (xs:=[(⟨A2,row.length,c2⟩:SV)]) svC_length ((Row.new w3 _ _).of rfl))
   have hz3:=hb3.size
   have hz2:=B12.out.size
   have hz2a:w1.heap.size ≤ w2.heap.size:=hz2
   have hsz2:w1.heap.size ≤ (w3.alloc (.cells #[.slice A2 row.length c2] 100)).heap.size:=by simp;omega
   have SX:=Lib.hid (hs2.on (balloc (Below.refl _ _) (.cells #[.slice A2 row.length c2] 100)))
   have HC:=Lib.hid (And.intro hc21 hc22)
   clear hs2 how2 how1 hc21 hc22 hb3
   go_wp2_with (at_builtin;first
    | (refine wpList_app rfl (.tmp 33) (.tmp 36) 30 rfl w1.heap.size 100 _ 1 24 svC Tryz.underlying30 zeroRow rfl (by decide) (by decide) svC_length svC_one _ ([] ++ svs.take l) rfl O1.out (some ⟨w3.heap.size,0,none⟩) 1 1 [(⟨A2,row.length,c2⟩:SV)] rfl rfl S2.out (by simp <;> omega) hsz2 ?_;intro v3 w4 how3 hgr3;have O3:=Lib.hid how3;have B24:=Lib.hid (((B23.out.mono hz2a).grown hgr3 hsz2 fun b hb=>(O1.out.ty b hb).1));have B14:=Lib.hid ((B12.out).trans B24.out);have B4:=Lib.hid (bch B1.out B14.out);have SX4:=Lib.hid (SX.out.grown hgr3 fun b hb=>.inr ⟨100,by decide,(O1.out.ty b hb).2.2⟩);have S3:=Lib.hid ((HS.out.on B4.out));have hsz4:w1.heap.size ≤ w4.heap.size:=B14.out.size;clear how3 hgr3)
    | (refine wpList_app rfl (.tmp 38) (.tmp 41) 30 rfl w1.heap.size 100 _ 1 24 svC Tryz.underlying30 zeroRow rfl (by decide) (by decide) svC_length svC_one _ (([] ++ svs.take l) ++ [(⟨A2,row.length,c2⟩:SV)]) rfl O3.out _ _ _ (svs.drop l) rfl (by have:=HSL.out;simp <;> omega) (by have:=HSL.out;refine Sl.from_ S3.out ?_;intro b off hA hl;subst hA;first | (rw [if_neg (by omega)];simp [Addr.add_lit]) | (simp <;> omega)) (by simp <;> omega) hsz4 ?_;intro v5 w6 how5 hgr5))
   all_goals (
    go_ret
    have B6:Below w.heap.size w w6:=B4.out.grown hgr5 (by have:=B4.out.size;omega) fun b hb=>by have:=(O3.out.ty b hb).1;omega
    have hT6:=HT.out.on B6
    refine ⟨l,_,_,rfl,HAt.out,how5.low hz1,?_,B6⟩
    rw [List.nil_append]
    exact ((hT6.take l).snoc rfl HC.out.1 HC.out.2 ((SX4.out.grown hgr5 fun b hb=>.inr ⟨100,by decide,(O3.out.ty b hb).2.2⟩).low (by omega))).append (hT6.drop l))

end Go.Proofs.YtcbfbgngkdiijaaGreat

namespace Go.Proofs.YtcbfbgngkdiijaaGreat
open Go.RowKit Go.Qo
set_option linter.unusedVariables false
set_option linter.unusedSimpArgs false

inductive Built:List Row1 → List Row1 → Prop
 | nil:Built [] []
 | snoc {rs out:List Row1} {r:Row1} {low:Nat}:Built rs out → InsAt out r low → Built (rs ++ [r]) (out.take low ++ [r] ++ out.drop low)
theorem Built.perm {rs out:List Row1} (h:Built rs out):out.Perm rs:=by
 induction h with
 | nil=>exact List.Perm.refl _
 | @snoc rs out r low h hi ih=>
   have h1:(out.take low ++ [r] ++ out.drop low).Perm (r :: (out.take low ++ out.drop low)):=by
    rw [List.append_assoc];exact List.perm_middle
   rw [List.take_append_drop] at h1
   exact h1.trans ((ih.cons r).trans (List.perm_append_singleton r rs).symm)
def TofRes (lo:Nat) (W:Int) (rows:List Row1) (w:World) (e:Ending) (w':World):Prop:=
 ∃ (v:Value) (svs:List SV) (out:List Row1),e=.returned (.agg #[.int .i64 W,v]) ∧ (if rows.length ≤ 400 then Built rows out else out=[]) ∧ Ow w.heap.size 100 1 svC w' v svs ∧ RowsT 85 2 valC lo w' svs out ∧ Below w.heap.size w w'
theorem resTof {b:Nat} {v0 v1:Value} (tmps:Array Value) (hp:tmps.getD 4 undef=.pointer (some ⟨b,0,none⟩)) (w:World) (c0:w.cell? ⟨b,0,none⟩=some v0) (c1:w.cell? ⟨b,1,none⟩=some v1) :
 (results Tryz.f47 tmps).run Tryz.prog w=.ok (.agg #[v0,v1]) w:=by
 simp only [Array.getD_eq_getD_getElem?] at hp
 simp [results,Tryz.results47,go_sem,hp,c0,c1]

set_option maxRecDepth 20000 in
set_option maxHeartbeats 300000 in
theorem tableOf_ok (lo:Nat) (W:Int) (A:Option Addr) (c:Nat) (svs0:List SV) (rows:List Row1) (w:World) (hlo:lo ≤ w.heap.size) (hn:rows.length ≤ 1048576) (hlr:∀ r ∈ rows,r.length ≤ 1048576) (hs:Sl 1 svC w w.heap.size A svs0) (hT:RowsT 85 2 valC lo w svs0 rows) :
 Calls Tryz.prog 47 #[.int .i64 W,.slice A rows.length c] w (TofRes lo W rows w):=by
 have HS:=Lib.hid hs
 have HT:=Lib.hid hT
 have HL:=Lib.hid hlr
 clear hs hT hlr
 by_cases h4:rows.length ≤ 400
 ·go_enter Tryz.func47,Tryz.ntmps47
  go_wp2
  go_loopg [6] (rows.length) (fun g i wr=>∃ (k:Nat) (v:Value) (svs:List SV) (out:List Row1),k ≤ rows.length ∧ g=rows.length - k ∧ i=.int .i64 k ∧ Below w.heap.size w wr ∧ Row wr w.heap.size 32 [.int .i64 0,.slice none 0 0] ∧ Row wr (w.heap.size + 1) 32 [.int .i64 W,v] ∧ Ow (w.heap.size + 2) 100 1 svC wr v svs ∧ RowsT 85 2 valC lo wr svs out ∧ Built (rows.take k) out)
  case atStart=>exact ⟨0,.slice none 0 0,[],[],by omega,by omega,rfl,balloc (balloc (Below.refl _ _) _) _,(Row.first _ _ _ _).of rfl,(Row.second _ _ _ _).of rfl,Ow.nil,RowsT.nil,Built.nil⟩
  case round=>
   obtain ⟨k,v,svs,out,hk,rfl,rfl,hb,hres,hbox,how,hrt,hbl⟩:=hrel
   obtain ⟨A',c',rfl,hc1,hc2,hs⟩:=how.shape svC_length
   have b0:wr.cell? ⟨w.heap.size + 1,0,none⟩=some (.int .i64 W):=hbox.cell 0
   have b1:wr.cell? ⟨w.heap.size + 1,1,none⟩=some (.slice A' svs.length c'):=hbox.cell 1
   have r0:wr.cell? ⟨w.heap.size,0,none⟩=some (.int .i64 0):=hres.cell 0
   have r1:wr.cell? ⟨w.heap.size,1,none⟩=some (.slice none 0 0):=hres.cell 1
   have f0:=hres.frozen 0
   have f1:=hres.frozen 1
   have fb:=hbox.frozen 1
   have hl1:=hbox.lt
   have HB:=Lib.hid (And.intro hb (And.intro hres (And.intro hbox (And.intro how (And.intro hrt hbl)))))
   clear hb hres hbox how hrt hbl
   by_cases hlt:k < rows.length
   ·obtain ⟨b2,off2,A2,C2,hA2,hB2,c2,hc21,hm2,s2⟩:=(sls_of' (HS.out.on HB.out.1) (HT.out.on HB.out.1)).at_ hlt
    have hx:=Lib.hid (List.getElem?_eq_getElem hlt)
    have hxl:=HL.out _ (List.getElem_mem hlt)
    generalize rows[k]=x at *
    subst hA2
    have hsz:=HB.out.1.size
    have hol:out.length ≤ 1048576:=by
     have h1:=HB.out.2.2.2.2.2.perm.length_eq
     rw [List.length_take] at h1;omega
    have hsl:svs.length=out.length:=HB.out.2.2.2.2.1.1
    have hor:∀ r ∈ out,r.length ≤ 1048576:=fun r hr=>HL.out r (List.mem_of_mem_take (HB.out.2.2.2.2.2.perm.mem_iff.1 hr))
    have HI:=Lib.hid (insertRow_ok lo A' A2 c' C2 svs out x wr.drew (by exact Nat.le_trans hlo hsz) hol (by omega) hxl hor (hs.sl) HB.out.2.2.2.2.1 s2)
    have S2:=Lib.hid s2
    rw [← hsl] at HI
    have HSL:=Lib.hid hsl
    clear hsl s2 hor hs hc21 hm2
    go_wp2
    go_region_law (go_simp;go_at_call 71;refine HI.out.mono ?_;rintro e w1 ⟨low,v1,svs1,rfl,hat,how1,hrt1,hb1⟩;obtain ⟨Av,cv,rfl,hcv1,hcv2,hsv⟩:=how1.shape svC_length;have fb1:w1.frozen? ⟨w.heap.size + 1,1,none⟩=false:=(hb1.frozen (p:=⟨_,_,none⟩) hl1).trans fb;have b11:w1.cell? ⟨w.heap.size + 1,1,none⟩=some (.slice A' svs.length c'):=(hb1.cell (p:=⟨_,_,none⟩) hl1).trans b1)
    all_goals (
     go_wp2
     go_roundg (rows.length - (k + 1))
     case measure=>omega
     case rel=>
      obtain ⟨hb,hres,hbox,how,hrt,hbl⟩:=HB.out
      have hS0:=Only.set (S:=fun i=>i=w.heap.size + 1) (p:=⟨w.heap.size + 1,1,none⟩) (Only.refl w1) (.inl rfl) (.slice Av svs1.length cv)
      have hbx:=hbox.drew.on hb1
      refine ⟨k + 1,_,svs1,_,by omega,rfl,by go_num,(bch hb.drew hb1).setCell (p:=⟨w.heap.size + 1,1,none⟩) (by simp) _,(hres.drew.on hb1).far (p:=⟨w.heap.size + 1,1,none⟩) (by simp) _,(hbx.set 1 _).of rfl,(how1.only hS0 fun b hb=>.inl (by subst hb;exact hl1)).low (by exact hl1),hrt1.only hS0 fun b hb=>.inr ⟨32,by decide,by subst hb;exact hbx.ty⟩,?_⟩
      rw [List.take_add_one,hx.out]
      exact hbl.snoc hat)
   ·go_wp2
    refine bodyPost_ret (resTof (b:=w.heap.size) _ rfl _ (v0:=.int .i64 W) (v1:=.slice A' svs.length c') (by simp [go_sem,b0,b1,r0,r1]) (by simp [go_sem,b0,b1,r0,r1])) rfl ?_
    obtain ⟨hb,hres,hbox,how,hrt,hbl⟩:=HB.out
    rw [List.take_of_length_le (Nat.not_lt.1 hlt)] at hbl
    have hS0:=(Only.set (S:=fun i=>i=w.heap.size) (p:=⟨w.heap.size,0,none⟩) (Only.refl wr) (.inl rfl) (.int .i64 W)).set (p:=⟨w.heap.size,1,none⟩) (.inl rfl) (.slice A' svs.length c')
    refine ⟨_,svs,out,rfl,by rw [if_pos h4];exact hbl,(how.only hS0 fun b hb=>.inl (by omega)).low (by omega),hrt.only hS0 fun b hb=>.inr ⟨32,by decide,by subst hb;exact hres.ty⟩,?_⟩
    exact (hb.setCell (p:=⟨_,_,none⟩) (Nat.le_refl _) _).setCell (p:=⟨_,_,none⟩) (Nat.le_refl _) _
 ·go_enter Tryz.func47,Tryz.ntmps47
  go_wp2
  refine bodyPost_ret (resTof (b:=w.heap.size) _ rfl _ (v0:=.int .i64 W) (v1:=.slice none 0 0) (by simp [go_sem]) (by simp [go_sem])) rfl ?_
  refine ⟨_,[],[],rfl,by rw [if_neg h4],Ow.nil,RowsT.nil,?_⟩
  exact balloc (balloc (Below.refl _ _) _) _
end Go.Proofs.YtcbfbgngkdiijaaGreat

namespace Go.Proofs.YtcbfbgngkdiijaaGreat
open Go.RowKit Go.Qo
set_option linter.unusedVariables false
set_option linter.unusedSimpArgs false

end Go.Proofs.YtcbfbgngkdiijaaGreat
