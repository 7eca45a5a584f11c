import Derived.Test.YtcbfbgngkdiijaaGreatProg
import Derived.Test.YtcbfbgngkdiijaaGreatZvStI
set_option linter.unusedVariables false
set_option linter.unusedSimpArgs false
namespace Go.Proofs.YtcbfbgngkdiijaaGreat
open Go.RowKit Go.Qo

structure From (lo:Nat) (w z:World):Prop where
 size:w.heap.size ≤ z.heap.size
 block:∀ k,lo ≤ k → k < w.heap.size → z.heap[k]? = w.heap[k]?
theorem From.below {lo:Nat} {w z:World} (h:Below w.heap.size w z):From lo w z:=⟨h.size,fun k _ hk=>h.block k hk⟩
theorem From.trans {lo:Nat} {w a z:World} (h:From lo w a) (k:From lo a z):From lo w z:=⟨Nat.le_trans h.size k.size,fun i hl hi=>(k.block i hl (by have:=h.size;omega)).trans (h.block i hl hi)⟩
theorem From.only {lo:Nat} {w z:World} {S:Nat → Prop} (h:Only S w z) (hS:∀ k,S k → k < lo):From lo w z:=⟨h.size,fun k hl hk=>h.block k hk fun hs=>by have:=hS k hs;omega⟩
def IsCmpF (lo:Nat) (w:World) (v:Value) (W:Int) (cmp:Row1 → Row1 → Int):Prop:=
 ∃ (f:FuncId) (cap:Array Value),v=.func (.func f) #[] cap ∧ Callable f ∧ ∀ z:World,From lo w z → ∀ (A A':Option Addr) (c c':Nat) (a b:Row1),RowOk W a → RowOk W b → Sl 2 valC z z.heap.size A a → Sl 2 valC z z.heap.size A' b →
   Calls Tryz.prog f (#[.slice A a.length c,.slice A' b.length c'] ++ cap) z fun e w'=>e=.returned (.int .i64 (cmp a b)) ∧ Below z.heap.size z w'
abbrev SR:=SV × Row1
def svOf (p:SR):SV:=p.1
def SRok (W:Int) (B:Nat) (w:World) (p:SR):Prop:=RowOk W p.2 ∧ p.1.n=p.2.length ∧ p.2.length ≤ p.1.c ∧ p.1.c ≤ maxLen ∧ Sl 2 valC w B p.1.A p.2
def srCmp (keys:List Key) (p q:SR):Int:=kCmp keys p.2 q.2
theorem SRok.only {W:Int} {B:Nat} {w w':World} {p:SR} {S:Nat → Prop} (h:SRok W B w p) (k:Only S w w') (hB:B ≤ w.heap.size) (hS:∀ b,S b → B ≤ b):SRok W B w' p:=
 ⟨h.1,h.2.1,h.2.2.1,h.2.2.2.1,h.2.2.2.2.keep fun b o hb=>by
   have:=k.block b (by omega) fun hs=>by have:=hS b hs;omega
   simp only [World.cell?,this]⟩
theorem IsCmpF.g {lo g n c B:Nat} {w:World} {v:Value} {W:Int} {keys:List Key} (h:IsCmpF lo w v W (kCmp keys)) (hg:g < lo) (hB:B ≤ w.heap.size) (hBg:B ≤ g):IsCmpG (svCell svOf) (srCmp keys) (SRok W B w) w (.slice (some ⟨g,0,none⟩) n c) v:=by
 obtain ⟨f,cap,hv,hf,hc⟩:=h
 refine ⟨f,cap,hv,hf,fun z hz x y hx hy=>?_⟩
 have hz':From lo w z:=From.only hz fun k hk=>by cases hk;exact hg
 have hS:∀ b,(Value.slice (some ⟨g,0,none⟩) n c).ownBlock=some b → B ≤ b:=fun b hb=>by cases hb;exact hBg
 have h1:=(hx.only hz hB hS).2.2.2.2.more (Nat.le_trans hB hz.size)
 have h2:=(hy.only hz hB hS).2.2.2.2.more (Nat.le_trans hB hz.size)
 have:=hc z hz' x.1.A y.1.A x.1.c y.1.c x.2 y.2 hx.1 hy.1 h1 h2
 unfold svCell svOf
 rw [hx.2.1,hy.2.1]
 exact this
theorem zip_fst {svs:List SV} {rows:List Row1} (h:svs.length=rows.length):(svs.zip rows).map (·.1)=svs:=by rw [List.map_fst_zip (by omega)]
theorem zip_snd {svs:List SV} {rows:List Row1} (h:svs.length=rows.length):(svs.zip rows).map (·.2)=rows:=by rw [List.map_snd_zip (by omega)]
theorem pairs_cells:∀ l:List SR,(l.flatMap fun x=>[svCell svOf x])=(l.map (·.1)).flatMap svC
 | []=>rfl
 | p :: l=>by
   have ih:=pairs_cells l
   simpa [svCell,svOf,svC] using ih
theorem Ow.pairs {lo g n c:Nat} {w:World} {svs:List SV} {rows:List Row1} (h:Ow lo 100 1 svC w (.slice (some ⟨g,0,none⟩) n c) svs) (hl:svs.length=rows.length) (hn:n=svs.length):OwL (svCell svOf) lo g (svs.zip rows).length c w (svs.zip rows):=by
 have hz:(svs.zip rows).length=svs.length:=by simp [hl]
 refine ⟨rfl,?_⟩
 rw [pairs_cells,zip_fst hl,hz]
 subst hn
 exact h
theorem pairs_ok {W:Int} {w:World} {A:Option Addr} {svs:List SV} {rows:List Row1} (hl:svs.length=rows.length) (hr:∀ r ∈ rows,RowOk W r) (h:∀ (i:Nat) (s:SV) (xs:Row1),svs[i]? = some s → rows[i]? = some xs → SVIs 2 valC w w.heap.size s xs) :
 ∀ p ∈ svs.zip rows,SRok W w.heap.size w p:=by
 intro p hp
 obtain ⟨i,hi,rfl⟩:=List.getElem_of_mem hp
 have h1:i < svs.length:=by rw [List.length_zip] at hi;omega
 have h2:i < rows.length:=by omega
 have hq:=h i svs[i] rows[i] (List.getElem?_eq_getElem h1) (List.getElem?_eq_getElem h2)
 rw [List.getElem_zip]
 exact ⟨hr _ (List.getElem_mem h2),hq.1,hq.2.1,hq.2.2.1,hq.2.2.2⟩

end Go.Proofs.YtcbfbgngkdiijaaGreat

namespace Go.Proofs.YtcbfbgngkdiijaaGreat
open Go.RowKit Go.Qo

set_option maxHeartbeats 1000000 in
theorem insNil_ok (A:Option Addr) (c:Nat) (v:Value) (w:World) :
 Calls Tryz.prog 140 #[.slice A 0 c,.int .i64 0,.int .i64 0,v] w fun e w'=>e=.returned (.tuple #[]) ∧ w=w':=by
 go_enter Tryz.func140,Tryz.ntmps140
 go_wp2
 go_loopg [8] 0 (fun gg v8 wr=>v8=.int .i64 1 ∧ w=wr)
 case atStart=>exact ⟨rfl,rfl⟩
 case round=>
  obtain ⟨rfl,rfl⟩:=hrel
  go_wp2
  go_end0
  exact ⟨rfl,rfl⟩
set_option maxHeartbeats 1000000 in
theorem stableNil_ok (A:Option Addr) (c:Nat) (v:Value) (w:World) :
 Calls Tryz.prog 139 #[.slice A 0 c,.int .i64 0,v] w fun e w'=>e=.returned (.tuple #[]) ∧ w=w':=by
 have HI:=Lib.hid (fun z=>insNil_ok A c v z)
 go_enter Tryz.func139,Tryz.ntmps139
 go_wp2
 go_loopg [7,8] 0 (fun gg v7 v8 wr=>v7=.int .i64 0 ∧ v8=.int .i64 20 ∧ w=wr)
 case atStart=>exact ⟨rfl,rfl,rfl⟩
 case round=>
  obtain ⟨rfl,rfl,rfl⟩:=hrel
  go_wp2_with fail
  refine (HI.out _).mono ?_
  rintro e w1 ⟨rfl,rfl⟩
  go_wp2
  go_loopg [6,7,8] 0 (fun gg v6 v7 v8 wr=>v6=.int .i64 20 ∧ w=wr)
  case atStart=>exact ⟨rfl,rfl⟩
  case round=>
   obtain ⟨rfl,rfl⟩:=hrel
   go_wp2
   go_end0
   exact ⟨rfl,rfl⟩
theorem sortStableNil_ok (A:Option Addr) (c:Nat) (v:Value) (w:World) :
 Calls Tryz.prog 133 #[.slice A 0 c,v] w fun e w'=>e=.returned (.tuple #[]) ∧ w=w':=by
 have HI:=Lib.hid (fun z=>stableNil_ok A c v z)
 go_enter Tryz.func133,Tryz.ntmps133
 go_wp2_with fail
 refine (HI.out _).mono ?_
 rintro e w1 ⟨rfl,rfl⟩
 go_wp2
 go_end0
 exact ⟨rfl,rfl⟩

section
variable {α:Type} (sv:α → SV) (cmp:α → α → Int) (S:α → Prop)
set_option maxHeartbeats 1000000 in
theorem stable_ok (C:Cm cmp S) (lo g c:Nat) (xs:List α) (v:Value) (w:World) (hn:xs.length ≤ 19) (hS:∀ x ∈ xs,S x)
 (hv:IsCmpG (svCell sv) cmp S w (.slice (some ⟨g,0,none⟩) xs.length c) v) (h:OwL (svCell sv) lo g xs.length c w xs) :
 Calls Tryz.prog 139 #[.slice (some ⟨g,0,none⟩) xs.length c,.int .i64 xs.length,v] w fun e w'=>e=.returned (.tuple #[]) ∧ OwL (svCell sv) lo g xs.length c w' (gSort cmp xs) ∧ Only (fun i=>i=g) w w':=by
 have HI:=Lib.hid (insSort_ok sv cmp S C lo g c xs v w (by omega) hS hv h)
 clear h hv hS
 have hn1:¬ ((20:Int) ≤ xs.length):=by omega
 have hn2:¬ ((20:Int) < xs.length):=by omega
 go_enter Tryz.func139,Tryz.ntmps139
 go_wp2
 go_loopg [7,8] 0 (fun gg v7 v8 wr=>v7=.int .i64 0 ∧ v8=.int .i64 20 ∧ w=wr)
 case atStart=>exact ⟨rfl,rfl,rfl⟩
 case round=>
  obtain ⟨rfl,rfl,rfl⟩:=hrel
  go_wp2_with fail
  refine HI.out.mono ?_
  rintro e w1 ⟨rfl,hO,hb⟩
  have H1:=Lib.hid (And.intro hO hb)
  clear hO hb
  go_wp2
  go_loopg [6,7,8] 0 (fun gg v6 v7 v8 wr=>v6=.int .i64 20 ∧ w1=wr)
  case atStart=>exact ⟨rfl,rfl⟩
  case round=>
   obtain ⟨rfl,rfl⟩:=hrel
   go_wp2
   go_end0
   exact ⟨rfl,H1.out.1,H1.out.2⟩
set_option maxHeartbeats 1000000 in
theorem sortStable_ok (C:Cm cmp S) (lo g c:Nat) (xs:List α) (v:Value) (w:World) (hn:xs.length ≤ 19) (hS:∀ x ∈ xs,S x)
 (hv:IsCmpG (svCell sv) cmp S w (.slice (some ⟨g,0,none⟩) xs.length c) v) (h:OwL (svCell sv) lo g xs.length c w xs) :
 Calls Tryz.prog 133 #[.slice (some ⟨g,0,none⟩) xs.length c,v] w fun e w'=>e=.returned (.tuple #[]) ∧ OwL (svCell sv) lo g xs.length c w' (gSort cmp xs) ∧ Only (fun i=>i=g) w w':=by
 have HI:=Lib.hid (stable_ok sv cmp S C lo g c xs v w hn hS hv h)
 clear h hv hS
 go_enter Tryz.func133,Tryz.ntmps133
 go_wp2_with fail
 refine HI.out.mono ?_
 rintro e w1 ⟨rfl,hO,hb⟩
 go_wp2
 go_end0
 exact ⟨rfl,hO,hb⟩
end

end Go.Proofs.YtcbfbgngkdiijaaGreat
