import Derived.Test.YtcbfbgngkdiijaaGreatProg
import Derived.Test.YtcbfbgngkdiijaaGreatZvEvq
import Derived.Test.YtcbfbgngkdiijaaGreatZvUng
import Derived.Test.YtcbfbgngkdiijaaGreatZvMkg
namespace Go.Proofs.YtcbfbgngkdiijaaGreat
open Go.RowKit Go.Qo
set_option linter.unusedVariables false
set_option linter.unusedSimpArgs false

structure FTb where
 W:Int
 sv:SV
def ftC (f:FTb):List Value:=[.int .i64 f.W,.slice f.sv.A f.sv.n f.sv.c]
theorem ftC_length (f:FTb):(ftC f).length=2:=rfl
def DbIn (w:World) (B:Nat) (A:Option Addr) (db:List Tb):Prop:=
 ∃ fs:List FTb,fs.length=db.length ∧ Sl 2 ftC w B A fs ∧ ∀ (i:Nat) (f:FTb) (t:Tb),fs[i]? = some f → db[i]? = some t → f.W=t.1 ∧ SVok f.sv t.2.length ∧ Rws w B f.sv.A t.2
theorem DbIn.map {w w':World} {B B':Nat} {A:Option Addr} {db:List Tb} (h:DbIn w B A db) (h1:∀ {fs:List FTb},Sl 2 ftC w B A fs → Sl 2 ftC w' B' A fs) (h2:∀ {A:Option Addr} {rows:List Row1},Rws w B A rows → Rws w' B' A rows):DbIn w' B' A db:=by
 obtain ⟨fs,e1,e2,e3⟩:=h
 exact ⟨fs,e1,h1 e2,fun i f t hf ht=>by obtain ⟨a,b,c⟩:=e3 i f t hf ht;exact ⟨a,b,h2 c⟩⟩
theorem dbIn_below {w w':World} {B:Nat} {A:Option Addr} {db:List Tb} (h:DbIn w B A db) (hb:Below B w w'):DbIn w' B A db:=h.map (fun h=>h.below hb) fun h=>Go.Qo.Sls.below h hb
theorem dbIn_more {w:World} {B B':Nat} {A:Option Addr} {db:List Tb} (h:DbIn w B A db) (hB:B ≤ B'):DbIn w B' A db:=h.map (fun h=>h.more hB) fun h=>Go.Qo.Sls.more h hB
theorem dbIn_on {w w':World} {A:Option Addr} {db:List Tb} (h:DbIn w w.heap.size A db) (hb:Below w.heap.size w w'):DbIn w' w'.heap.size A db:=dbIn_more (dbIn_below h hb) hb.size
theorem DbIn.at_ {w:World} {B:Nat} {A:Option Addr} {db:List Tb} (h:DbIn w B A db) {i:Nat} (hi:i < db.length):∃ b o A' c,A=some ⟨b,o,none⟩ ∧ b < B ∧ w.cell? ⟨b,o + i * 2,none⟩=some (.int .i64 db[i].1) ∧ w.cell? ⟨b,o + i * 2 + 1,none⟩=some (.slice A' db[i].2.length c) ∧ db[i].2.length ≤ c ∧ c ≤ maxLen ∧ Rws w B A' db[i].2:=by
 obtain ⟨fs,e1,e2,e3⟩:=h
 have hi':i < fs.length:=by omega
 obtain ⟨b,o,hA,hB,hc⟩:=e2 (by omega)
 have hf:=List.getElem?_eq_getElem hi'
 obtain ⟨k1,⟨k2,k2',k2''⟩,k3⟩:=e3 i _ _ hf (List.getElem?_eq_getElem hi)
 have c0:=hc i _ hf 0 _ rfl
 have c1:=hc i _ hf 1 _ rfl
 rw [k1] at c0
 rw [k2] at c1 k2'
 exact ⟨b,o,_,_,hA,hB,c0,c1,k2',k2'',k3⟩
theorem plIn_below {w w':World} {B:Nat} {f:FP} {p:Pl} (h:PlIn w B f p) (hb:Below B w w'):PlIn w' B f p:=by
 obtain ⟨n,h⟩:=h
 refine ⟨n,?_⟩
 have hx:∀ {A:Option Addr} {es:List Ex},ExsIn w B A es → ExsIn w' B A es:=fun ⟨fs,h1,h2,h3⟩=>⟨fs,h1,h2.below hb,fun i g x hg hx=>(h3 i g x hg hx).below hb⟩
 have:∀ (n:Nat) (f:FP) (p:Pl),PlAt w B n f p → PlAt w' B n f p:=fun n=>by
  induction n with
  | zero=>exact fun f p h=>h.elim
  | succ n ih=>exact fun f p ⟨h1,h2,h3,h4,h5,h6,h7,fs,h8,h9,h10⟩=>⟨h1,h2,h3,h4,h5,hx h6,h7.below hb,fs,h8,h9.below hb,fun i g x hg hx=>ih g x (h10 i g x hg hx)⟩
 exact this n f p h
def OwT (lo:Nat) (w:World) (v:Value) (rows:List Row1):Prop:=∃ cp:List SRw,Ow lo 100 1 svC w v (cp.map (·.1)) ∧ Cps lo w cp ∧ cp.map (·.2)=rows
theorem owT_only {lo:Nat} {w w':World} {v:Value} {rows:List Row1} {S:Nat → Prop} (h:OwT lo w v rows) (k:Only S w w') (hS:∀ b,S b → b < lo ∨ TyAt w b 32 ∨ TyAt w b 120):OwT lo w' v rows:=by
 obtain ⟨cp,h1,h2,h3⟩:=h
 refine ⟨cp,h1.only k fun b hb=>?_,h2.only k fun b hb=>?_,h3⟩
 ·rcases hS b hb with h | h | h
  ·exact .inl h
  ·exact .inr ⟨_,by decide,h⟩
  ·exact .inr ⟨_,by decide,h⟩
 ·rcases hS b hb with h | h | h
  ·exact .inl h
  ·exact .inr ⟨_,by decide,h⟩
  ·exact .inr ⟨_,by decide,h⟩
theorem owT_low {lo lo':Nat} {w:World} {v:Value} {rows:List Row1} (h:OwT lo w v rows) (hl:lo' ≤ lo):OwT lo' w v rows:=by
 obtain ⟨cp,h1,h2,h3⟩:=h
 exact ⟨cp,h1.low hl,h2.low hl,h3⟩
theorem owT_on {lo:Nat} {w w':World} {v:Value} {rows:List Row1} (h:OwT lo w v rows) (hb:Below w.heap.size w w'):OwT lo w' v rows:=by
 obtain ⟨cp,h1,h2,h3⟩:=h
 exact ⟨cp,h1.on hb,h2.on hb,h3⟩
theorem OwT.read {lo:Nat} {w:World} {v:Value} {rows:List Row1} (h:OwT lo w v rows):∃ A c,v=.slice A rows.length c ∧ rows.length ≤ c ∧ c ≤ maxLen ∧ Rws w w.heap.size A rows:=by
 obtain ⟨cp,h1,h2,h3⟩:=h
 obtain ⟨A,c,hv,hc1,hc2,hs⟩:=h1.shape svC_length
 have hl:(cp.map (·.1)).length=rows.length:=by rw [← h3];simp
 rw [hl] at hv hc1
 refine ⟨A,c,hv,hc1,hc2,?_⟩
 have:=h2.rows
 rw [h3] at this
 exact sls_of' hs.sl this
theorem rws_ps {W:Int} {w:World} {A:Option Addr} {rows:List Row1} (h:Rws w w.heap.size A rows) (hr:∀ r ∈ rows,RowOk W r):∃ ps:List SRw,ps.length=rows.length ∧ ps.map (·.2)=rows ∧ Sl 1 svC w w.heap.size A (ps.map (·.1)) ∧ ∀ p ∈ ps,SRs W w p:=by
 obtain ⟨svs,hl,hv,hin⟩:=h
 obtain ⟨ps,hp1,hp2,hps⟩:=psOf (W:=W) hl hr hin
 exact ⟨ps,by rw [← hp2,List.length_map],hp2,by rw [hp1];exact hv,hps⟩
theorem colRes_owT {W W':Int} {raw:List Row1} {w w':World} {e:Ending} (hr:∀ r ∈ raw,RowOk W' r) (h:ColRes W raw w e w'):∃ v,e=.returned (.agg #[.int .i64 W,v]) ∧ OwT w.heap.size w' v (colS raw) ∧ Below w.heap.size w w':=by
 obtain ⟨v,cp,rfl,hcp,how,hcc,hb⟩:=h
 refine ⟨v,rfl,⟨cp,how,hcc,?_⟩,hb⟩
 unfold colS
 split at hcp
 ·rename_i hl
  rw [if_pos hl]
  exact srt_eq hr hcp.1 hcp.2
 ·rename_i hl
  rw [if_neg hl,hcp]
  rfl

def ResI (p:Pl):Prop:=∀ (f:FP) (b o:Nat) (db:List Tb) (A:Option Addr) (c d cb B:Nat) (c0:Int) (w:World),b < B → FpAt w b o f → PlIn w B f p → DbIn w B A db → db.length ≤ maxLen → DbOk db → plW (wsDb db) d p ≠ 0 → B ≤ cb → Row w cb 3 [.int .i64 c0] → 0 ≤ c0 → c0 + plCo db (d + 1) p ≤ 1099511627776 →
 Calls Tryz.prog 58 #[.pointer (some ⟨b,o,none⟩),.slice A db.length c,.pointer (some ⟨cb,0,none⟩)] w fun e w'=>∃ v,e=.returned (.agg #[.int .i64 (plT db (d + 1) p).1,v]) ∧ OwT w.heap.size w' v (plT db (d + 1) p).2 ∧ But cb w w' ∧ Row w' cb 3 [.int .i64 (c0 + plCo db (d + 1) p)]
theorem resResult {b:Nat} {v0 v1:Value} (tmps:Array Value) (hp:tmps.getD 6 undef=.pointer (some ⟨b,0,none⟩)) (w:World) (c0:w.cell? ⟨b,0,none⟩=some v0) (c1:w.cell? ⟨b,1,none⟩=some v1) :
 (results Tryz.f58 tmps).run Tryz.prog w=.ok (.agg #[v0,v1]) w:=by
 simp only [Array.getD_eq_getD_getElem?] at hp
 simp [results,Tryz.results58,go_sem,hp,c0,c1]
theorem below_of {B:Nat} {w w':World} {S:Nat → Prop} (k:Only S w w') (hS:∀ b,S b → B ≤ b) (hB:B ≤ w.heap.size):Below B w w':=
 ⟨k.os,k.tape,k.output,k.size,fun i hi=>k.block i (by omega) fun h=>by have:=hS i h;omega⟩

set_option maxRecDepth 20000 in
set_option maxHeartbeats 16000000 in
theorem result_ok:∀ p:Pl,ResI p:=Pl.ind fun p ih f b o db A c d cb B c0 w hb hat h hdb hdl hdok hv hcb hrc hc0 hc1=>by
 have hcl:=hrc.lt
 have ho:OnlyF p:=Classical.byContradiction fun hn=>hv (plW_no hn)
 have hBw:B ≤ w.heap.size:=by omega
 -- the kids' numbers
 have HK:=Lib.hid (fun (i:Nat) (hi:i < p.kids.length)=>show ∃ e,d=e + 1 ∧ plW (wsDb db) e p.kids[i] ≠ 0 from (plW_kids hv (List.getElem_mem hi)).2)
 obtain ⟨K,hKe⟩:∃ k,p.kids.length=k:=⟨_,rfl⟩
 have hK2:K ≤ 2:=by rw [← hKe];exact ho.kids_le
 have hkr:∀ i,0 ≤ kidC (plCo db d) p i:=fun i=>by
  unfold kidC
  split
  ·rename_i x hx
   obtain ⟨_,e,rfl,he⟩:=plW_kids hv (List.mem_of_getElem? hx)
   exact (plCo_range hdok e x he).1
  ·exact Int.le_refl _
 obtain ⟨T0,hT0⟩:∃ t,kidT (plT db d) p 0=t:=⟨_,rfl⟩
 obtain ⟨T1,hT1⟩:∃ t,kidT (plT db d) p 1=t:=⟨_,rfl⟩
 obtain ⟨C0,hC0⟩:∃ t,kidC (plCo db d) p 0=t:=⟨_,rfl⟩
 obtain ⟨C1,hC1⟩:∃ t,kidC (plCo db d) p 1=t:=⟨_,rfl⟩
 have hC0r:=hkr 0
 have hC1r:=hkr 1
 rw [hC0] at hC0r
 rw [hC1] at hC1r
 have hTT:plT db (d + 1) p=topT db p T0 T1:=by rw [← hT0,← hT1];rfl
 have hco:plCo db (d + 1) p=((topT db p T0 T1).2.length:Int) + C0 + C1:=by rw [← hTT,← hC0,← hC1];rfl
 have htop:=(plT_ok hdok d p hv).2
 rw [hT0,hT1] at htop
 have hwd:=(plT_ok hdok d p hv).1
 rw [hTT] at hwd
 have hW:=plW_range (wsDb_ok hdok) d p
 rw [← hwd] at hW
 obtain ⟨RT,hRT⟩:∃ t,topT db p T0 T1=t:=⟨_,rfl⟩
 have htab:TabOk RT.1 RT.2:=by rw [← hRT];exact htop.tab
 have hraw:p.kind ≠ 1 → ∀ r ∈ rawR p T0 T1,RowOk RT.1 r:=by rw [← hRT];exact htop.raw
 have hwk:topW (wsDb db) p T0.1 T1.1 ≠ 0:=by
  have hx:∀ x ∈ p.kids,plW (wsDb db) (d - 1) x ≠ 0:=fun x hx=>by
   obtain ⟨_,e,rfl,he⟩:=plW_kids hv hx
   exact he
  have hd:0 < p.kids.length → 0 < d:=fun h0=>by obtain ⟨e,rfl,_⟩:=HK.out 0 h0;omega
  have ht:=plW_top ho hd hx
  have kw:∀ i,(kidT (plT db d) p i).1=kidW (plW (wsDb db) (d - 1)) p i:=fun i=>by
   by_cases hi:i < p.kids.length
   ·obtain ⟨e,rfl,he⟩:=HK.out i hi
    rw [kidT_at hi]
    unfold kidW
    rw [List.getElem?_eq_getElem hi]
    exact (plT_ok hdok e _ he).1
   ·rw [kidT_none (by omega)];unfold kidW;rw [List.getElem?_eq_none (by omega)]
  rw [← hT0,← hT1,kw,kw,← ht]
  exact hv
 rw [hRT] at hW hco hTT
 rw [hco] at hc1
 rw [hTT,hco]
 have hRl:RT.2.length ≤ 400:=htab.2.2.1
 -- the kids' tables
 have kidOk:∀ i (hi:i < p.kids.length),TabOk (kidT (plT db d) p i).1 (kidT (plT db d) p i).2:=fun i hi=>by
  obtain ⟨e,rfl,he⟩:=HK.out i hi
  rw [kidT_at hi]
  exact (plT_ok hdok e _ he).2.tab
 have HT:=Lib.hid (And.intro (fun h=>by have:=kidOk 0 h;rwa [hT0] at this:0 < p.kids.length → TabOk T0.1 T0.2) (fun h=>by have:=kidOk 1 h;rwa [hT1] at this:1 < p.kids.length → TabOk T1.1 T1.2))
 -- the call of a kid
 have IH:=Lib.hid (fun (i:Nat) (hi:i < p.kids.length) (z:World) (hz:Below B w z) (k0:Int) (hr:Row z cb 3 [.int .i64 k0]) (hk0:0 ≤ k0) (hk1:k0 + kidC (plCo db d) p i ≤ 1099511627776)=>show ∃ b1 o1,f.ks.A=some ⟨b1,o1,none⟩ ∧ b1 < B ∧ Calls Tryz.prog 58 #[.pointer (some ⟨b1,o1 + i * 5,none⟩),.slice A db.length c,.pointer (some ⟨cb,0,none⟩)] z (fun e w'=>∃ v,e=.returned (.agg #[.int .i64 (kidT (plT db d) p i).1,v]) ∧ OwT z.heap.size w' v (kidT (plT db d) p i).2 ∧ But cb z w' ∧ Row w' cb 3 [.int .i64 (k0 + kidC (plCo db d) p i)]) from by
  obtain ⟨b1,o1,g,e1,e2,e3,e4⟩:=(plIn_below h hz).kid hi
  obtain ⟨e,rfl,he⟩:=HK.out i hi
  have hkc:kidC (plCo db (e + 1)) p i=plCo db (e + 1) p.kids[i]:=by unfold kidC;rw [List.getElem?_eq_getElem hi]
  refine ⟨b1,o1,e1,e2,?_⟩
  rw [kidT_at hi,hkc]
  rw [hkc] at hk1
  exact ih _ (List.getElem_mem hi) g b1 _ db A c e cb B k0 z e2 e3 e4 (dbIn_below hdb hz) hdl hdok he hcb hr hk0 hk1)
 -- the boxes
 obtain ⟨W0,hW0⟩:∃ z,(w.alloc (.cells #[.int .i64 0,.slice none 0 0] 32)).alloc (.cells #[.int .i64 0,.slice none 0 0,.int .i64 0,.slice none 0 0] 120)=z:=⟨_,rfl⟩
 have B0:Below w.heap.size w W0:=by rw [← hW0];exact balloc (balloc (Below.refl _ _) _) _
 have rr0:Row W0 w.heap.size 32 [.int .i64 0,.slice none 0 0]:=by rw [← hW0];exact Row.first _ _ _ _
 have rk0:Row W0 (w.heap.size + 1) 120 [.int .i64 0,.slice none 0 0,.int .i64 0,.slice none 0 0]:=by rw [← hW0];exact Row.second _ _ _ _
 have hs0:W0.heap.size=w.heap.size + 2:=by rw [← hW0];simp
 have HW0:=Lib.hid hW0
 have rc0:Row W0 cb 3 [.int .i64 c0]:=hrc.on B0
 have HP:=Lib.hid (fun (z:World) (hz:Below B w z)=>show (b < z.heap.size ∧ FpAt z b o f) ∧ PlIn z z.heap.size f p ∧ DbIn z z.heap.size A db from
  ⟨⟨by have:=hz.size;omega,fpAt_belowF hat hz hb⟩,plIn_more (plIn_below h hz) (by have:=hz.size;omega),dbIn_more (dbIn_below hdb hz) (by have:=hz.size;omega)⟩)
 obtain ⟨kb,hkb⟩:∃ n,w.heap.size + 1=n:=⟨_,rfl⟩
 rw [hkb] at rk0
 have HI:=Lib.hid (show Only (fun k=>k=cb ∨ k=kb) W0 W0 ∧ Row W0 kb 120 [.int .i64 0,.slice none 0 0,.int .i64 0,.slice none 0 0] ∧ Row W0 cb 3 [.int .i64 (c0 + 0 + 0)] from ⟨Only.refl _,rk0,by simpa using rc0⟩)
 have HB0:=Lib.hid (And.intro B0 (And.intro rr0 (And.intro hs0 hkb)))
 have HBX:=Lib.hid (fun (z:World) (hz:Only (fun k=>k=cb ∨ k=kb) W0 z)=>show Below B w z from below_of ((only_below (S:=fun k=>k=cb ∨ w.heap.size ≤ k) B0).trans (hz.mono fun k _ hk=>by rcases hk with h | h;exact .inl h;exact .inr (by omega))) (fun k hk=>by rcases hk with h | h <;> omega) hBw)
 have HC:=Lib.hid (fun (z:World) (hz:Below B w z)=>show z.cell? ⟨b,o,none⟩=some (.int .i64 p.kind) ∧ z.cell? ⟨b,o + 1,none⟩=some (.int .i64 p.table) ∧ z.cell? ⟨b,o + 2,none⟩=some (.slice f.es.A p.exprs.length f.es.c) ∧ z.cell? ⟨b,o + 3,none⟩=some (.slice f.cs.A p.cols.length f.cs.c) ∧ z.cell? ⟨b,o + 4,none⟩=some (.slice f.ks.A K f.ks.c) from by
  have:=(PcAt.mk (HP.out z hz).1.1 (HP.out z hz).1.2 (HP.out z hz).2.1).cells
  rwa [hKe] at this)
 have HTB:=Lib.hid (And.intro htab hraw)
 have HKK:=Lib.hid (And.intro ho (And.intro hKe (And.intro hRT (And.intro hwd hv))))
 have HNX:=Lib.hid (And.intro hC0 (And.intro hC1 (And.intro hT0 hT1)))
 have HDB:=Lib.hid hdok
 have HWK:=Lib.hid (show topW (wsDb db) p T0.1 T1.1 ≠ 0 from hwk)
 have HCBL:=Lib.hid (show cb < w.heap.size ∧ w.heap.size < kb ∧ kb < W0.heap.size from ⟨hcl,by omega,rk0.lt⟩)
 have HLT:=Lib.hid (And.intro hb (And.intro hBw hcb))
 have HZ:=Lib.hid (show (K ≤ 0 → C0=0) ∧ (K ≤ 1 → C1=0) from ⟨fun h=>by rw [← hC0];unfold kidC;rw [List.getElem?_eq_none (by omega)],fun h=>by rw [← hC1];unfold kidC;rw [List.getElem?_eq_none (by omega)]⟩)
 clear ih hb hat h hdb hdok hv hrc ho hkr hC0 hC1 hT0 hT1 hTT hco htop hwd hRT htab hraw kidOk hKe hW0 B0 rr0 rk0 hs0 rc0 hkb
 obtain ⟨c1_,c2_,c3_,c4_,c5_⟩:=HC.out _ (HBX.out _ (Only.refl _))
 go_enter Tryz.func58,Tryz.ntmps58
 go_upto_region 2 with fail
 rw [HW0.out,HB0.out.2.2.2]
 go_wp2
 go_loopg [17] K (fun g iv wr=>∃ (i:Nat) (u0 v0 u1 v1:Value) (s0 s1:Int),i ≤ K ∧ g=K - i ∧ iv=.int .i64 i ∧ Only (fun k=>k=cb ∨ k=kb) W0 wr ∧ Row wr kb 120 [u0,v0,u1,v1] ∧ Row wr cb 3 [.int .i64 (c0 + s0 + s1)] ∧
  ((i=0 ∧ u0=.int .i64 0 ∧ v0=.slice none 0 0 ∧ s0=0) ∨ (0 < i ∧ u0=.int .i64 T0.1 ∧ OwT W0.heap.size wr v0 T0.2 ∧ s0=C0)) ∧ ((i ≤ 1 ∧ u1=.int .i64 0 ∧ v1=.slice none 0 0 ∧ s1=0) ∨ (1 < i ∧ u1=.int .i64 T1.1 ∧ OwT W0.heap.size wr v1 T1.2 ∧ s1=C1)))
 case atStart=>exact ⟨0,_,_,_,_,0,0,Nat.zero_le _,by omega,rfl,HI.out.1,HI.out.2.1,HI.out.2.2,.inl ⟨rfl,rfl,rfl,rfl⟩,.inl ⟨by omega,rfl,rfl,rfl⟩⟩
 case round=>
  obtain ⟨i,u0,v0,u1,v1,s0,s1,hiK,rfl,rfl,hon,hkr,hcr,hk0,hk1⟩:=hrel
  have hbw:=HBX.out _ hon
  obtain ⟨d1,d2,d3,d4,d5⟩:=HC.out _ hbw
  by_cases hlt:i < K
  ·have hltI:(i:Int) < (K:Int):=by omega
   have hi01:i=0 ∨ i=1:=by omega
   have HU:=Lib.hid (And.intro hon (And.intro hkr (And.intro hcr (And.intro hk0 hk1))))
   rcases hi01 with rfl | rfl
   ·obtain ⟨b1,o1,hA1,hb1,hcall⟩:=IH.out 0 (by rw [HKK.out.2.1];exact hlt) wr hbw (c0 + s0 + s1) hcr (by rcases hk0 with ⟨_,_,_,h⟩ | ⟨h,_⟩;rcases hk1 with ⟨_,_,_,h1⟩ | ⟨h1,_⟩;omega;omega;omega) (by rw [HNX.out.1];rcases hk0 with ⟨_,_,_,h⟩ | ⟨h,_⟩;rcases hk1 with ⟨_,_,_,h1⟩ | ⟨h1,_⟩;omega;omega;omega)
    rw [HNX.out.1,HNX.out.2.2.1] at hcall
    simp only [Nat.zero_mul,Nat.add_zero] at hcall
    have HCL:=Lib.hid hcall
    rw [hA1] at d5
    clear hon hkr hcr hk0 hk1 hcall hA1
    go_wp2_with fail
    refine HCL.out.mono ?_
    rintro e w2 ⟨v,rfl,hot,hbut,hrc2⟩
    obtain ⟨A9,c9,rfl,_,_,_⟩:=hot.read
    have hkr2:=HU.out.2.1.only hbut (by have:=HLT.out.2.2;have:=HB0.out.2.2.2;intro h;have:=HCBL.out;omega)
    have q0:=hkr2.lt
    have q1:=hkr2.frozen 0
    have q2:=hkr2.frozen 1
    obtain ⟨⟨_,rfl,rfl,rfl⟩ | ⟨h,_⟩,hk1⟩:=HU.out.2.2.2
    case inr=>omega
    have q3:w2.cell? ⟨kb,0,none⟩=some (.int .i64 0):=hkr2.cell 0
    have q4:w2.cell? ⟨kb,1,none⟩=some (.slice none 0 0):=hkr2.cell 1
    obtain ⟨Z,hZ⟩:∃ z,(w2.setCell ⟨kb,0,none⟩ (.int .i64 T0.1)).setCell ⟨kb,1,none⟩ (.slice A9 T0.2.length c9)=z:=⟨_,rfl⟩
    have hZo:Only (fun k=>k=kb) w2 Z:=by rw [← hZ];exact onlyT w2 kb _ _
    have hZr:Row Z kb 120 [.int .i64 T0.1,.slice A9 T0.2.length c9,u1,v1]:=by rw [← hZ];exact ((hkr2.set 0 _).set 1 _).of rfl
    have H2:=Lib.hid (And.intro hot (And.intro hbut (And.intro hrc2 (And.intro hkr2 (And.intro hZo (And.intro hZr hk1))))))
    have HZZ:=Lib.hid hZ
    clear hot hbut hrc2 hkr2 hZo hZr hZ hk1
    go_wp2
    rw [HZZ.out]
    obtain ⟨hot,hbut,hrc2,hkr2,hZo,hZr,hk1⟩:=H2.out
    go_roundg (K - (0 + 1))
    case measure=>omega
    case rel=>
     refine ⟨0 + 1,_,_,u1,v1,C0,s1,by omega,rfl,by first | go_num | rfl,(HU.out.1.trans (hbut.mono fun k _ h=>.inl h)).trans (hZo.mono fun k _ h=>.inr h),hZr,?_,.inr ⟨by omega,rfl,?_,rfl⟩,?_⟩
     ·have:=hrc2.only hZo (by intro h;have:=HCBL.out;omega)
      exact this.of (by rw [show c0 + 0 + s1 + C0=c0 + C0 + s1 by omega])
     ·exact owT_only (owT_low hot HU.out.1.size) hZo fun k hk=>.inr (.inr (by rw [show k=kb from hk];exact hkr2.ty))
     ·rcases hk1 with ⟨_,h2,h3,h4⟩ | ⟨h1,_⟩
      ·exact .inl ⟨by omega,h2,h3,h4⟩
      ·omega
   ·obtain ⟨b1,o1,hA1,hb1,hcall⟩:=IH.out 1 (by rw [HKK.out.2.1];exact hlt) wr hbw (c0 + s0 + s1) hcr (by rcases hk0 with ⟨h,_⟩ | ⟨_,_,_,h⟩;omega;rcases hk1 with ⟨_,_,_,h1⟩ | ⟨h1,_⟩;omega;omega) (by rw [HNX.out.2.1];rcases hk0 with ⟨h,_⟩ | ⟨_,_,_,h⟩;omega;rcases hk1 with ⟨_,_,_,h1⟩ | ⟨h1,_⟩;omega;omega)
    rw [HNX.out.2.1,HNX.out.2.2.2] at hcall
    simp only [Nat.one_mul] at hcall
    have HCL:=Lib.hid hcall
    rw [hA1] at d5
    clear hon hkr hcr hk0 hk1 hcall hA1
    go_wp2_with fail
    refine HCL.out.mono ?_
    rintro e w2 ⟨v,rfl,hot,hbut,hrc2⟩
    obtain ⟨A9,c9,rfl,_,_,_⟩:=hot.read
    have hkr2:=HU.out.2.1.only hbut (by have:=HLT.out.2.2;have:=HB0.out.2.2.2;intro h;have:=HCBL.out;omega)
    have q0:=hkr2.lt
    have q1:=hkr2.frozen 2
    have q2:=hkr2.frozen 3
    obtain ⟨hk0,⟨_,rfl,rfl,rfl⟩ | ⟨h,_⟩⟩:=HU.out.2.2.2
    case inr=>omega
    have q3:w2.cell? ⟨kb,2,none⟩=some (.int .i64 0):=hkr2.cell 2
    have q4:w2.cell? ⟨kb,3,none⟩=some (.slice none 0 0):=hkr2.cell 3
    obtain ⟨Z,hZ⟩:∃ z,(w2.setCell ⟨kb,2,none⟩ (.int .i64 T1.1)).setCell ⟨kb,3,none⟩ (.slice A9 T1.2.length c9)=z:=⟨_,rfl⟩
    have hZo:Only (fun k=>k=kb) w2 Z:=by rw [← hZ];exact (Only.set (S:=fun i=>i=kb) (p:=⟨kb,2,none⟩) (Only.refl w2) (.inl rfl) _).set (p:=⟨kb,3,none⟩) (.inl rfl) _
    have hZr:Row Z kb 120 [u0,v0,.int .i64 T1.1,.slice A9 T1.2.length c9]:=by rw [← hZ];exact ((hkr2.set 2 _).set 3 _).of rfl
    have H2:=Lib.hid (And.intro hot (And.intro hbut (And.intro hrc2 (And.intro hkr2 (And.intro hZo (And.intro hZr hk0))))))
    have HZZ:=Lib.hid hZ
    clear hot hbut hrc2 hkr2 hZo hZr hZ hk0
    go_wp2
    rw [HZZ.out]
    obtain ⟨hot,hbut,hrc2,hkr2,hZo,hZr,hk0⟩:=H2.out
    go_roundg (K - (1 + 1))
    case measure=>omega
    case rel=>
     refine ⟨1 + 1,u0,v0,_,_,s0,C1,by omega,rfl,by first | go_num | rfl,(HU.out.1.trans (hbut.mono fun k _ h=>.inl h)).trans (hZo.mono fun k _ h=>.inr h),hZr,?_,?_,.inr ⟨by omega,rfl,?_,rfl⟩⟩
     ·have:=hrc2.only hZo (by intro h;have:=HCBL.out;omega)
      exact this.of (by rw [show c0 + s0 + 0 + C1=c0 + s0 + C1 by omega])
     ·rcases hk0 with ⟨h1,_⟩ | ⟨_,h2,h3,h4⟩
      ·omega
      ·refine .inr ⟨by omega,h2,?_,h4⟩
       have h5:=owT_only h3 hbut fun k hk=>.inl (by have:=HU.out.1.size;have:=HCBL.out;omega)
       exact owT_only h5 hZo fun k hk=>.inr (.inr (by rw [show k=kb from hk];exact hkr2.ty))
     ·exact owT_only (owT_low hot HU.out.1.size) hZo fun k hk=>.inr (.inr (by rw [show k=kb from hk];exact hkr2.ty))
  ·obtain rfl:i=K:=by omega
   obtain ⟨CS,hCS⟩:∃ n,c0 + s0 + s1=n:=⟨_,rfl⟩
   have hCS2:CS=c0 + C0 + C1 ∧ 0 ≤ CS:=by
    have z0:=HZ.out.1
    have z1:=HZ.out.2
    rcases hk0 with ⟨h1,_,_,h4⟩ | ⟨h1,_,_,h4⟩ <;> rcases hk1 with ⟨g1,_,_,g4⟩ | ⟨g1,_,_,g4⟩ <;> omega
   rw [hCS] at hcr
   have hk0r:0 < i → ∃ A0 k0,u0=.int .i64 T0.1 ∧ v0=.slice A0 T0.2.length k0 ∧ T0.2.length ≤ k0 ∧ k0 ≤ maxLen ∧ Rws wr wr.heap.size A0 T0.2:=fun h=>by
    rcases hk0 with ⟨h1,_⟩ | ⟨_,h2,h3,_⟩
    ·omega
    ·obtain ⟨A0,k0,e1,e2,e3,e4⟩:=h3.read
     exact ⟨A0,k0,h2,e1,e2,e3,e4⟩
   have hk1r:1 < i → ∃ A0 k0,u1=.int .i64 T1.1 ∧ v1=.slice A0 T1.2.length k0 ∧ T1.2.length ≤ k0 ∧ k0 ≤ maxLen ∧ Rws wr wr.heap.size A0 T1.2:=fun h=>by
    rcases hk1 with ⟨h1,_⟩ | ⟨_,h2,h3,_⟩
    ·omega
    ·obtain ⟨A0,k0,e1,e2,e3,e4⟩:=h3.read
     exact ⟨A0,k0,h2,e1,e2,e3,e4⟩
   have hk0z:i=0 → u0=.int .i64 0 ∧ v0=.slice none 0 0:=fun h=>by
    rcases hk0 with ⟨_,h2,h3,_⟩ | ⟨h1,_⟩
    ·exact ⟨h2,h3⟩
    ·omega
   have hnk:=HKK.out.1.2.1
   rw [HKK.out.2.1] at hnk
   unfold nkids at hnk
   have hkr8:=HKK.out.1.1
   have HCS:=Lib.hid hCS2
   have HX:=Lib.hid (And.intro hon (And.intro hkr (And.intro hcr hbw)))
   have KX:=Lib.hid (fun (z:World) (hz:Below wr.heap.size wr z)=>show Row z kb 120 [u0,v0,u1,v1] ∧ Row z cb 3 [.int .i64 CS] ∧ Row z w.heap.size 32 [.int .i64 0,.slice none 0 0] from
    ⟨hkr.on hz,hcr.on hz,(HB0.out.2.1.only hon (by have:=HCBL.out;omega)).on hz⟩)
   have hPX:PcAt wr b o f p:=⟨(HP.out _ hbw).1.1,(HP.out _ hbw).1.2,(HP.out _ hbw).2.1⟩
   have HPX:=Lib.hid hPX
   have HRR:=Lib.hid (show p.kind ≠ 1 → RT.2=colS (rawR p T0 T1) from fun h=>by have:=HKK.out.2.2.1;unfold topT at this;rw [if_neg h] at this;rw [← this])
   have HRW:=Lib.hid (show RT.1=(if p.kind=1 then (dbAt db p.table).1 else if p.kind=3 then (p.exprs.length:Int) else if p.kind=4 ∨ p.kind=5 then T0.1 + T1.1 else if p.kind=8 then (p.cols.length:Int) + 1 else T0.1) by
    have:=HKK.out.2.2.1
    unfold topT at this
    rw [← this]
    split
    ·rfl
    ·rfl)
   have HWX:=Lib.hid (show topW (wsDb db) p T0.1 T1.1 ≠ 0 from HWK.out)
   have e0:wr.cell? ⟨kb,0,none⟩=some u0:=hkr.cell 0
   have e1:wr.cell? ⟨kb,1,none⟩=some v0:=hkr.cell 1
   have e2:wr.cell? ⟨kb,2,none⟩=some u1:=hkr.cell 2
   have e3:wr.cell? ⟨kb,3,none⟩=some v1:=hkr.cell 3
   clear hk0 hk1 hCS hCS2 hon hkr hcr hPX hbw
   by_cases hk1:p.kind=1
   ·skip
    have hi00:i=0:=by rw [if_pos hk1] at hnk;omega
    obtain ⟨rfl,rfl⟩:=hk0z hi00
    have hsc:=plW_scan HKK.out.2.2.2.2 hk1
    obtain ⟨j,hj⟩:=Int.eq_ofNat_of_zero_le hsc.1
    have hjl:j < db.length:=by have:=hsc.2;unfold wsDb at this;rw [List.length_map] at this;omega
    have hjI:(j:Int) < (db.length:Int):=by omega
    obtain ⟨bd,od,Ad,cd,hAd,hbd,x0,x1,hcd1,hcd2,hrd⟩:=(HP.out _ HX.out.2.2.2).2.2.at_ hjl
    have hda:dbAt db p.table=db[j]:=by unfold dbAt;rw [hj,Int.toNat_natCast,List.getD_eq_getElem?_getD,List.getElem?_eq_getElem hjl];rfl
    have hRTe:RT=db[j]:=by have:=HKK.out.2.2.1;unfold topT at this;rw [if_pos hk1,hda] at this;exact this.symm
    have hTd:=HDB.out _ (List.getElem_mem hjl)
    rw [← hRTe] at x0 x1 hcd1 hrd hTd hda
    obtain ⟨WDV,hWDV⟩:∃ n,RT.1=n:=⟨_,rfl⟩
    rw [hWDV] at x0 hTd
    have HDA:Hid ((dbAt db p.table).1=WDV):=Lib.hid (by rw [hda,hWDV])
    have HDD:=Lib.hid (And.intro hrd hTd)
    subst hAd
    rw [hk1] at d1
    rw [hj] at d2
    clear hk0r hk1r hk0z hnk hsc hj hda hRTe hWDV hrd hTd hcd1 hcd2
    go_wp2_with fail
    refine (values_ok Ad RT.2.length cd _).mono ?_
    rintro e Y ⟨rfl,hby,hry⟩
    obtain ⟨ps,hpl,hpm,hpa,hps⟩:=rws_ps (W:=WDV) (HDD.out.1.on hby) HDD.out.2.2.2.2.1
    have BY:Below wr.heap.size wr Y:=hby
    have HCO:Calls Tryz.prog 90 #[.int .i64 WDV,.func (.func 105) #[] #[.pointer (some ⟨wr.heap.size,0,none⟩)]] Y (fun e w'=>∃ v,e=.returned (.agg #[.int .i64 WDV,v]) ∧ OwT Y.heap.size w' v RT.2 ∧ Below Y.heap.size Y w'):=by
     have hc:=collect_ok WDV ps.length 105 #[.pointer (some ⟨wr.heap.size,0,none⟩)] ps Y entersValues1 (valuesIt_ok WDV wr.heap.size Ad cd ps Y (by have:=HDD.out.2.2.2.1;omega) (by rw [hpl];exact hry) hpa hps)
     rw [hpm] at hc
     refine hc.mono fun e w' h=>?_
     have h2:=colRes_owT HDD.out.2.2.2.2.1 h
     rwa [colS_id HDD.out.2] at h2
    clear hby hry hpl hpm hpa hps x0 x1
    have HBY:=Lib.hid BY
    have HCO2:=Lib.hid HCO
    clear BY HCO
    go_wp2_with fail
    refine HCO2.out.mono ?_
    rintro e z1 ⟨v,rfl,hot,hbz⟩
    obtain ⟨A9,c9,rfl,_,_,_⟩:=hot.read
    have hbx1:Below wr.heap.size wr z1:=bch HBY.out hbz
    obtain ⟨V,hV⟩:∃ z,z1.alloc (.cells #[.int .i64 (WDV),.slice A9 RT.2.length c9] 32)=z:=⟨_,rfl⟩
    have bV:Below z1.heap.size z1 V:=by rw [← hV];exact balloc (Below.refl _ _) _
    have rv:Row V z1.heap.size 32 [.int .i64 (WDV),.slice A9 RT.2.length c9]:=by rw [← hV];exact Row.new _ _ _
    have hot2:=owT_on hot bV
    have HV:=Lib.hid hV
    have HZ1:=Lib.hid (And.intro hbx1 (And.intro (bch hbx1 bV) (And.intro rv (owT_low hot2 HBY.out.size))))
    obtain ⟨TB,hTB⟩:∃ n,z1.heap.size=n:=⟨_,rfl⟩
    have HTB1:=Lib.hid hTB
    clear hot hbz hbx1 bV hot2 hV e0 e1 e2 e3 d1 d2 d3 d4 d5
    have KV:=Lib.hid (fun (z:World) (hz:Below V.heap.size V z)=>show (z.cell? ⟨cb,0,none⟩=some (.int .i64 CS) ∧ z.cell? ⟨TB,1,none⟩=some (.slice A9 RT.2.length c9)) from ⟨(KX.out _ (bch HZ1.out.2.1 hz)).2.1.cell 0,by rw [← HTB1.out];exact (rv.on hz).cell 1⟩)
    clear rv hTB
    go_upto_region 30 with fail
    rw [HV.out,HTB1.out]
    obtain ⟨y0,hy0⟩:∃ z,V.drew=z:=⟨_,rfl⟩
    have By0:=Lib.hid (show Below V.heap.size V y0 from hy0 ▸ (Below.refl _ _).drew)
    have Hy0:=Lib.hid hy0
    clear hy0
    have hww:IntKind.i64.wrap (CS + (RT.2.length:Int))=CS + (RT.2.length:Int):=IntWalk.i64_in _ (by have:=HCS.out;omega)
    refine wp_region_g 8 (fun z=>z.cell? ⟨cb,0,none⟩=some (.int .i64 CS) ∧ z.cell? ⟨TB,1,none⟩=some (.slice A9 RT.2.length c9)) (by kernel_rfl) ?_ (fun hHeld=>?_)
    ·exact KV.out _ (Below.refl _ _).drew
    rw [Hy0.out] at hHeld ⊢
    refine tkH (i:=0) rfl (by assumption) ?_
    try simp only [Act.put,sTA,sC0,sCS]
    refine tkH (i:=1) rfl (by assumption) ?_
    try simp only [Act.put,sTA,sC0,sCS]
    refine tkH (i:=2) rfl (by assumption) ?_
    try simp only [Act.put,sTA,sC0,sCS]
    refine tkH (i:=3) rfl (by assumption) ?_
    try simp only [Act.put,sTA,sC0,sCS]
    refine tkH (i:=4) rfl (by assumption) ?_
    try simp only [Act.put,sTA,sC0,sCS]
    refine tkH (i:=5) rfl (by assumption) ?_
    try simp only [Act.put,sTA,sC0,sCS]
    refine tkH (i:=6) rfl (by assumption) ?_
    try simp only [Act.put,sTA,sC0,sCS]
    refine tkH (i:=7) rfl (by assumption) ?_
    try simp only [Act.put,sTA,sC0,sCS]
    refine rdG (i:=8) (by kernel_rfl) rfl (fun K hK=>?_)
    obtain ⟨_,p1,_⟩:=KX.out _ (bch HZ1.out.2.1 By0.out)
    have q0:=p1.lt
    have q1:=p1.frozen 0
    go_simp
    clear q0 q1 p1
    refine hK.out _ _ ?hS9 (fun hHeld=>?_)
    case hS9=>exact fun h=>absurd rfl h
    clear hK K
    try simp only [Act.put,sTA,sC0,sCS]
    refine wpAnyG_done (by kernel_rfl) ?_ _
    obtain ⟨f0,f1,f2⟩:=KX.out _ (bch HZ1.out.2.1 By0.out)
    have f3:=(by have:=HZ1.out.2.2.1.on By0.out;rwa [HTB1.out] at this:Row y0 TB 32 [.int .i64 (WDV),.slice A9 RT.2.length c9])
    obtain ⟨Z2,hZ2⟩:∃ z,y0.setCell ⟨cb,0,none⟩ (.int .i64 (CS + (RT.2.length:Int)))=z:=⟨_,rfl⟩
    have hZo:Only (fun k=>k=cb) y0 Z2:=by rw [← hZ2];exact Only.set (S:=fun k=>k=cb) (p:=⟨cb,0,none⟩) (Only.refl y0) (.inl rfl) _
    have g1:Row Z2 cb 3 [.int .i64 (CS + (RT.2.length:Int))]:=by rw [← hZ2];exact (f1.set 0 _).of rfl
    have hTBc:TB ≠ cb:=by have:=HCBL.out;have h2:=HZ1.out.1.size;have h3:=HTB1.out;have h4:=HX.out.1.size;omega
    have hRBc:w.heap.size ≠ cb:=by have:=HCBL.out;omega
    have g2:=f2.only hZo hRBc
    have g3:=f3.only hZo hTBc
    have q0:=g2.lt
    have q1:=g2.frozen 0
    have q2:=g2.frozen 1
    have q3:Z2.cell? ⟨w.heap.size,0,none⟩=some (.int .i64 0):=g2.cell 0
    have q4:Z2.cell? ⟨w.heap.size,1,none⟩=some (.slice none 0 0):=g2.cell 1
    have q5:Z2.cell? ⟨TB,0,none⟩=some (.int .i64 (WDV)):=g3.cell 0
    have q6:Z2.cell? ⟨TB,1,none⟩=some (.slice A9 RT.2.length c9):=g3.cell 1
    have HZ2:=Lib.hid hZ2
    have HG:=Lib.hid (And.intro hZo (And.intro g1 g2))
    clear hZo g1 g2 g3 f0 f1 f2 f3 hZ2
    rw [HZ2.out]
    go_wp2
    refine bodyPost_ret (resResult (b:=w.heap.size) _ rfl _ (v0:=.int .i64 (WDV)) (v1:=.slice A9 RT.2.length c9) (by simp [go_sem,q3,q4,q0]) (by simp [go_sem,q3,q4,q0])) rfl ?_
    have hzo2:=onlyT Z2 w.heap.size (.int .i64 (WDV)) (.slice A9 RT.2.length c9)
    refine ⟨_,by rw [HRW.out];rw [if_pos hk1,HDA.out],?_,?_,?_⟩
    ·have h1:=owT_on HZ1.out.2.2.2 By0.out
     have h2:=owT_only h1 HG.out.1 fun k hk=>.inl (by have:=HCBL.out;have h4:=HX.out.1.size;rw [show k=cb from hk];omega)
     exact owT_low (owT_only h2 hzo2 fun k hk=>.inr (.inl (by rw [show k=w.heap.size from hk];exact HG.out.2.2.ty))) (by have:=HX.out.1.size;have:=HB0.out.2.2.1;omega)
    ·have k1:Only (fun k=>k=cb ∨ w.heap.size ≤ k) w W0:=only_below HB0.out.1
     have k2:Only (fun k=>k=cb ∨ w.heap.size ≤ k) W0 wr:=HX.out.1.mono fun k _ hk=>by rcases hk with h | h;exact .inl h;exact .inr (by have:=HCBL.out;omega)
     have k3:Only (fun k=>k=cb ∨ w.heap.size ≤ k) wr y0:=only_below (bch HZ1.out.2.1 By0.out)
     have k4:Only (fun k=>k=cb ∨ w.heap.size ≤ k) y0 Z2:=HG.out.1.mono fun k _ hk=>.inl hk
     have k5:=(((k1.trans k2).trans k3).trans k4).trans (hzo2.mono (T:=fun k=>k=cb ∨ w.heap.size ≤ k) fun k _ hk=>.inr (by rw [show k=w.heap.size from hk];exact Nat.le_refl _))
     exact k5.mono fun k hk h=>by rcases h with h | h;exact h;omega
    ·have:=HG.out.2.1.only hzo2 (by intro h;exact hRBc h.symm)
     exact this.of (by rw [HCS.out.1];congr 2;omega)
   by_cases hk2:p.kind=2
   ·skip
    have hi0:0 < i:=by rw [if_neg hk1,if_neg (by omega)] at hnk;omega
    obtain ⟨A0,k0,rfl,rfl,hk0a,hk0b,hrw0⟩:=hk0r hi0
    have hT0:=HT.out.1 (by rw [HKK.out.2.1];exact hi0)
    have hr0:∀ r ∈ T0.2,RowOk T0.1 r:=hT0.2.2.2.1
    have hl0:T0.2.length ≤ 400:=hT0.2.2.1
    have hw01:1 ≤ T0.1:=hT0.1
    have hw06:T0.1 ≤ 6:=hT0.2.1
    have HRT2:=Lib.hid (show RT.2=colS (T0.2.filter (holdsE (eAt p 0))) by rw [HRR.out hk1];unfold rawR;rw [if_pos hk2])
    have HVR:=Lib.hid (show ∀ r ∈ T0.2.filter (holdsE (eAt p 0)),RowOk T0.1 r from fun r hr=>hr0 r (List.mem_filter.1 hr).1)
    have hex:=HKK.out.1.2.2.1
    unfold nexprs at hex
    rw [if_pos (by omega)] at hex
    have hp0:0 < p.exprs.length:=by omega
    have hokE:ExOk T0.1 8 (eAt p 0):=by
     have:=HWX.out
     unfold topW at this
     rw [if_neg hk1,if_pos hk2] at this
     split at this
     ·rename_i h
      rw [eAt_at hp0]
      exact (h _ (List.getElem_mem hp0)).2
     ·exact absurd rfl this
    clear hk0r hk1r hk0z hnk
    rw [hk2] at d1
    have HDD:=Lib.hid (And.intro hrw0 (And.intro hr0 hokE))
    clear hrw0 hr0 hokE hex
    go_wp2_with fail
    refine (filtered_ok b o T0.1 A0 T0.2.length k0 _).mono ?_
    rintro e Y ⟨rfl,hby,hry0,hry1⟩
    obtain ⟨ps,hpl,hpm,hpa,hps⟩:=rws_ps (HDD.out.1.on hby) HDD.out.2.1
    have BY:Below wr.heap.size wr Y:=hby
    have HCO:Calls Tryz.prog 90 #[.int .i64 T0.1,.func (.func 106) #[] #[.pointer (some ⟨wr.heap.size + 1,0,none⟩),.pointer (some ⟨wr.heap.size,0,none⟩)]] Y (fun e w'=>∃ v,e=.returned (.agg #[.int .i64 T0.1,v]) ∧ OwT Y.heap.size w' v RT.2 ∧ Below Y.heap.size Y w'):=by
     have hit:=filteredIt_ok T0.1 (wr.heap.size + 1) wr.heap.size b o f p A0 k0 ps Y (by omega) (by rw [hpl];exact hry1) hry0 (HPX.out.on hby) hp0 HDD.out.2.2 hpa hps
     have hc:=collect_ok T0.1 ps.length 106 #[.pointer (some ⟨wr.heap.size + 1,0,none⟩),.pointer (some ⟨wr.heap.size,0,none⟩)] (ps.filter fun q=>holdsE (eAt p 0) q.2) Y entersFiltered1 hit
     have hfm:(ps.filter fun q=>holdsE (eAt p 0) q.2).map (·.2)=T0.2.filter (holdsE (eAt p 0)):=by rw [← hpm,List.filter_map];rfl
     rw [hfm] at hc
     refine hc.mono fun e w' h=>?_
     rw [HRT2.out]
     exact colRes_owT HVR.out h
    clear hby hry0 hry1 hpl hpm hpa hps
    have HBY:=Lib.hid BY
    have HCO2:=Lib.hid HCO
    clear BY HCO
    go_wp2_with fail
    refine HCO2.out.mono ?_
    rintro e z1 ⟨v,rfl,hot,hbz⟩
    obtain ⟨A9,c9,rfl,_,_,_⟩:=hot.read
    have hbx1:Below wr.heap.size wr z1:=bch HBY.out hbz
    obtain ⟨V,hV⟩:∃ z,z1.alloc (.cells #[.int .i64 (T0.1),.slice A9 RT.2.length c9] 32)=z:=⟨_,rfl⟩
    have bV:Below z1.heap.size z1 V:=by rw [← hV];exact balloc (Below.refl _ _) _
    have rv:Row V z1.heap.size 32 [.int .i64 (T0.1),.slice A9 RT.2.length c9]:=by rw [← hV];exact Row.new _ _ _
    have hot2:=owT_on hot bV
    have HV:=Lib.hid hV
    have HZ1:=Lib.hid (And.intro hbx1 (And.intro (bch hbx1 bV) (And.intro rv (owT_low hot2 HBY.out.size))))
    obtain ⟨TB,hTB⟩:∃ n,z1.heap.size=n:=⟨_,rfl⟩
    have HTB1:=Lib.hid hTB
    clear hot hbz hbx1 bV hot2 hV e0 e1 e2 e3 d1 d2 d3 d4 d5
    have KV:=Lib.hid (fun (z:World) (hz:Below V.heap.size V z)=>show (z.cell? ⟨cb,0,none⟩=some (.int .i64 CS) ∧ z.cell? ⟨TB,1,none⟩=some (.slice A9 RT.2.length c9)) from ⟨(KX.out _ (bch HZ1.out.2.1 hz)).2.1.cell 0,by rw [← HTB1.out];exact (rv.on hz).cell 1⟩)
    clear rv hTB
    go_upto_region 30 with fail
    rw [HV.out,HTB1.out]
    obtain ⟨y0,hy0⟩:∃ z,V.drew=z:=⟨_,rfl⟩
    have By0:=Lib.hid (show Below V.heap.size V y0 from hy0 ▸ (Below.refl _ _).drew)
    have Hy0:=Lib.hid hy0
    clear hy0
    have hww:IntKind.i64.wrap (CS + (RT.2.length:Int))=CS + (RT.2.length:Int):=IntWalk.i64_in _ (by have:=HCS.out;omega)
    refine wp_region_g 8 (fun z=>z.cell? ⟨cb,0,none⟩=some (.int .i64 CS) ∧ z.cell? ⟨TB,1,none⟩=some (.slice A9 RT.2.length c9)) (by kernel_rfl) ?_ (fun hHeld=>?_)
    ·exact KV.out _ (Below.refl _ _).drew
    rw [Hy0.out] at hHeld ⊢
    refine tkH (i:=0) rfl (by assumption) ?_
    try simp only [Act.put,sTA,sC0,sCS]
    refine tkH (i:=1) rfl (by assumption) ?_
    try simp only [Act.put,sTA,sC0,sCS]
    refine tkH (i:=2) rfl (by assumption) ?_
    try simp only [Act.put,sTA,sC0,sCS]
    refine tkH (i:=3) rfl (by assumption) ?_
    try simp only [Act.put,sTA,sC0,sCS]
    refine tkH (i:=4) rfl (by assumption) ?_
    try simp only [Act.put,sTA,sC0,sCS]
    refine tkH (i:=5) rfl (by assumption) ?_
    try simp only [Act.put,sTA,sC0,sCS]
    refine tkH (i:=6) rfl (by assumption) ?_
    try simp only [Act.put,sTA,sC0,sCS]
    refine tkH (i:=7) rfl (by assumption) ?_
    try simp only [Act.put,sTA,sC0,sCS]
    refine rdG (i:=8) (by kernel_rfl) rfl (fun K hK=>?_)
    obtain ⟨_,p1,_⟩:=KX.out _ (bch HZ1.out.2.1 By0.out)
    have q0:=p1.lt
    have q1:=p1.frozen 0
    go_simp
    clear q0 q1 p1
    refine hK.out _ _ ?hS18 (fun hHeld=>?_)
    case hS18=>exact fun h=>absurd rfl h
    clear hK K
    try simp only [Act.put,sTA,sC0,sCS]
    refine wpAnyG_done (by kernel_rfl) ?_ _
    obtain ⟨f0,f1,f2⟩:=KX.out _ (bch HZ1.out.2.1 By0.out)
    have f3:=(by have:=HZ1.out.2.2.1.on By0.out;rwa [HTB1.out] at this:Row y0 TB 32 [.int .i64 (T0.1),.slice A9 RT.2.length c9])
    obtain ⟨Z2,hZ2⟩:∃ z,y0.setCell ⟨cb,0,none⟩ (.int .i64 (CS + (RT.2.length:Int)))=z:=⟨_,rfl⟩
    have hZo:Only (fun k=>k=cb) y0 Z2:=by rw [← hZ2];exact Only.set (S:=fun k=>k=cb) (p:=⟨cb,0,none⟩) (Only.refl y0) (.inl rfl) _
    have g1:Row Z2 cb 3 [.int .i64 (CS + (RT.2.length:Int))]:=by rw [← hZ2];exact (f1.set 0 _).of rfl
    have hTBc:TB ≠ cb:=by have:=HCBL.out;have h2:=HZ1.out.1.size;have h3:=HTB1.out;have h4:=HX.out.1.size;omega
    have hRBc:w.heap.size ≠ cb:=by have:=HCBL.out;omega
    have g2:=f2.only hZo hRBc
    have g3:=f3.only hZo hTBc
    have q0:=g2.lt
    have q1:=g2.frozen 0
    have q2:=g2.frozen 1
    have q3:Z2.cell? ⟨w.heap.size,0,none⟩=some (.int .i64 0):=g2.cell 0
    have q4:Z2.cell? ⟨w.heap.size,1,none⟩=some (.slice none 0 0):=g2.cell 1
    have q5:Z2.cell? ⟨TB,0,none⟩=some (.int .i64 (T0.1)):=g3.cell 0
    have q6:Z2.cell? ⟨TB,1,none⟩=some (.slice A9 RT.2.length c9):=g3.cell 1
    have HZ2:=Lib.hid hZ2
    have HG:=Lib.hid (And.intro hZo (And.intro g1 g2))
    clear hZo g1 g2 g3 f0 f1 f2 f3 hZ2
    rw [HZ2.out]
    go_wp2
    refine bodyPost_ret (resResult (b:=w.heap.size) _ rfl _ (v0:=.int .i64 (T0.1)) (v1:=.slice A9 RT.2.length c9) (by simp [go_sem,q3,q4,q0]) (by simp [go_sem,q3,q4,q0])) rfl ?_
    have hzo2:=onlyT Z2 w.heap.size (.int .i64 (T0.1)) (.slice A9 RT.2.length c9)
    refine ⟨_,by rw [HRW.out];rw [if_neg hk1,if_neg (by omega),if_neg (by omega),if_neg (by omega)],?_,?_,?_⟩
    ·have h1:=owT_on HZ1.out.2.2.2 By0.out
     have h2:=owT_only h1 HG.out.1 fun k hk=>.inl (by have:=HCBL.out;have h4:=HX.out.1.size;rw [show k=cb from hk];omega)
     exact owT_low (owT_only h2 hzo2 fun k hk=>.inr (.inl (by rw [show k=w.heap.size from hk];exact HG.out.2.2.ty))) (by have:=HX.out.1.size;have:=HB0.out.2.2.1;omega)
    ·have k1:Only (fun k=>k=cb ∨ w.heap.size ≤ k) w W0:=only_below HB0.out.1
     have k2:Only (fun k=>k=cb ∨ w.heap.size ≤ k) W0 wr:=HX.out.1.mono fun k _ hk=>by rcases hk with h | h;exact .inl h;exact .inr (by have:=HCBL.out;omega)
     have k3:Only (fun k=>k=cb ∨ w.heap.size ≤ k) wr y0:=only_below (bch HZ1.out.2.1 By0.out)
     have k4:Only (fun k=>k=cb ∨ w.heap.size ≤ k) y0 Z2:=HG.out.1.mono fun k _ hk=>.inl hk
     have k5:=(((k1.trans k2).trans k3).trans k4).trans (hzo2.mono (T:=fun k=>k=cb ∨ w.heap.size ≤ k) fun k _ hk=>.inr (by rw [show k=w.heap.size from hk];exact Nat.le_refl _))
     exact k5.mono fun k hk h=>by rcases h with h | h;exact h;omega
    ·have:=HG.out.2.1.only hzo2 (by intro h;exact hRBc h.symm)
     exact this.of (by rw [HCS.out.1];congr 2;omega)
   by_cases hk3:p.kind=3
   ·skip
    have hi0:0 < i:=by rw [if_neg hk1,if_neg (by omega)] at hnk;omega
    obtain ⟨A0,k0,rfl,rfl,hk0a,hk0b,hrw0⟩:=hk0r hi0
    have hT0:=HT.out.1 (by rw [HKK.out.2.1];exact hi0)
    have hr0:∀ r ∈ T0.2,RowOk T0.1 r:=hT0.2.2.2.1
    have hl0:T0.2.length ≤ 400:=hT0.2.2.1
    have hw01:1 ≤ T0.1:=hT0.1
    have hw06:T0.1 ≤ 6:=hT0.2.1
    obtain ⟨NN,hNN⟩:∃ n,p.exprs.length=n:=⟨_,rfl⟩
    have hokE:(∀ e ∈ p.exprs,ExOk T0.1 8 e) ∧ NN ≤ 6 ∧ 1 ≤ NN:=by
     have:=HWX.out
     unfold topW at this
     rw [if_neg hk1,if_neg hk2,if_pos hk3] at this
     split at this
     ·rename_i h
      exact ⟨fun e he=>(h.1 e he).2,by rw [← hNN];exact h.2,by omega⟩
     ·exact absurd rfl this
    have HRT2:=Lib.hid (show RT.2=colS (T0.2.map fun r=>p.exprs.map fun e=>exVal r e) by rw [HRR.out hk1];unfold rawR;rw [if_neg hk2,if_pos hk3])
    have HVR:=Lib.hid (show ∀ r ∈ T0.2.map (fun r=>p.exprs.map fun e=>exVal r e),RowOk (NN:Int) r from fun r hr=>by
     obtain ⟨q,hq,rfl⟩:=List.mem_map.1 hr
     refine rowOk_of (by omega) (by rw [List.length_map,hNN]) fun v hv=>?_
     obtain ⟨x,hx,rfl⟩:=List.mem_map.1 hv
     exact exVal_valid (hr0 q hq) x 8 (hokE.1 x hx))
    clear hk0r hk1r hk0z hnk
    rw [hk3] at d1
    rw [hNN] at d3
    have HNN:=Lib.hid hNN
    have HDD:=Lib.hid (And.intro hrw0 (And.intro hr0 hokE))
    clear hrw0 hr0 hokE hNN
    go_wp2_with fail
    refine (projected_ok b o T0.1 A0 T0.2.length k0 _).mono ?_
    rintro e Y ⟨rfl,hby,hry0,hry1⟩
    obtain ⟨ps,hpl,hpm,hpa,hps⟩:=rws_ps (HDD.out.1.on hby) HDD.out.2.1
    have BY:Below wr.heap.size wr Y:=hby
    have HCO:Calls Tryz.prog 90 #[.int .i64 (NN:Int),.func (.func 109) #[] #[.pointer (some ⟨wr.heap.size,0,none⟩),.pointer (some ⟨wr.heap.size + 1,0,none⟩)]] Y (fun e w'=>∃ v,e=.returned (.agg #[.int .i64 (NN:Int),v]) ∧ OwT Y.heap.size w' v RT.2 ∧ Below Y.heap.size Y w'):=by
     have hit:=projectedIt_ok T0.1 NN (wr.heap.size + 1) wr.heap.size b o f p A0 k0 ps Y (by omega) ⟨hw01,hw06⟩ (by rw [hpl];exact hry1) hry0 (HPX.out.on hby) HNN.out HDD.out.2.2.2.2 HDD.out.2.2.2.1 HDD.out.2.2.1 hpa hps
     have hpe:(ps.map fun q=>p.exprs.map fun e=>exVal q.2 e)=T0.2.map fun r=>p.exprs.map fun e=>exVal r e:=by rw [← hpm,List.map_map];rfl
     rw [hpe] at hit
     have hc:=collectR_ok (NN:Int) ps.length 109 #[.pointer (some ⟨wr.heap.size,0,none⟩),.pointer (some ⟨wr.heap.size + 1,0,none⟩)] _ Y entersProjected1 hit
     refine hc.mono fun e w' h=>?_
     rw [HRT2.out]
     exact colRes_owT HVR.out h
    clear hby hry0 hry1 hpl hpm hpa hps
    have HBY:=Lib.hid BY
    have HCO2:=Lib.hid HCO
    clear BY HCO
    go_wp2_with fail
    refine HCO2.out.mono ?_
    rintro e z1 ⟨v,rfl,hot,hbz⟩
    obtain ⟨A9,c9,rfl,_,_,_⟩:=hot.read
    have hbx1:Below wr.heap.size wr z1:=bch HBY.out hbz
    obtain ⟨V,hV⟩:∃ z,z1.alloc (.cells #[.int .i64 ((NN:Int)),.slice A9 RT.2.length c9] 32)=z:=⟨_,rfl⟩
    have bV:Below z1.heap.size z1 V:=by rw [← hV];exact balloc (Below.refl _ _) _
    have rv:Row V z1.heap.size 32 [.int .i64 ((NN:Int)),.slice A9 RT.2.length c9]:=by rw [← hV];exact Row.new _ _ _
    have hot2:=owT_on hot bV
    have HV:=Lib.hid hV
    have HZ1:=Lib.hid (And.intro hbx1 (And.intro (bch hbx1 bV) (And.intro rv (owT_low hot2 HBY.out.size))))
    obtain ⟨TB,hTB⟩:∃ n,z1.heap.size=n:=⟨_,rfl⟩
    have HTB1:=Lib.hid hTB
    clear hot hbz hbx1 bV hot2 hV e0 e1 e2 e3 d1 d2 d3 d4 d5
    have KV:=Lib.hid (fun (z:World) (hz:Below V.heap.size V z)=>show (z.cell? ⟨cb,0,none⟩=some (.int .i64 CS) ∧ z.cell? ⟨TB,1,none⟩=some (.slice A9 RT.2.length c9)) from ⟨(KX.out _ (bch HZ1.out.2.1 hz)).2.1.cell 0,by rw [← HTB1.out];exact (rv.on hz).cell 1⟩)
    clear rv hTB
    go_upto_region 30 with fail
    rw [HV.out,HTB1.out]
    obtain ⟨y0,hy0⟩:∃ z,V.drew=z:=⟨_,rfl⟩
    have By0:=Lib.hid (show Below V.heap.size V y0 from hy0 ▸ (Below.refl _ _).drew)
    have Hy0:=Lib.hid hy0
    clear hy0
    have hww:IntKind.i64.wrap (CS + (RT.2.length:Int))=CS + (RT.2.length:Int):=IntWalk.i64_in _ (by have:=HCS.out;omega)
    refine wp_region_g 8 (fun z=>z.cell? ⟨cb,0,none⟩=some (.int .i64 CS) ∧ z.cell? ⟨TB,1,none⟩=some (.slice A9 RT.2.length c9)) (by kernel_rfl) ?_ (fun hHeld=>?_)
    ·exact KV.out _ (Below.refl _ _).drew
    rw [Hy0.out] at hHeld ⊢
    refine tkH (i:=0) rfl (by assumption) ?_
    try simp only [Act.put,sTA,sC0,sCS]
    refine tkH (i:=1) rfl (by assumption) ?_
    try simp only [Act.put,sTA,sC0,sCS]
    refine tkH (i:=2) rfl (by assumption) ?_
    try simp only [Act.put,sTA,sC0,sCS]
    refine tkH (i:=3) rfl (by assumption) ?_
    try simp only [Act.put,sTA,sC0,sCS]
    refine tkH (i:=4) rfl (by assumption) ?_
    try simp only [Act.put,sTA,sC0,sCS]
    refine tkH (i:=5) rfl (by assumption) ?_
    try simp only [Act.put,sTA,sC0,sCS]
    refine tkH (i:=6) rfl (by assumption) ?_
    try simp only [Act.put,sTA,sC0,sCS]
    refine tkH (i:=7) rfl (by assumption) ?_
    try simp only [Act.put,sTA,sC0,sCS]
    refine rdG (i:=8) (by kernel_rfl) rfl (fun K hK=>?_)
    obtain ⟨_,p1,_⟩:=KX.out _ (bch HZ1.out.2.1 By0.out)
    have q0:=p1.lt
    have q1:=p1.frozen 0
    go_simp
    clear q0 q1 p1
    refine hK.out _ _ ?hS27 (fun hHeld=>?_)
    case hS27=>exact fun h=>absurd rfl h
    clear hK K
    try simp only [Act.put,sTA,sC0,sCS]
    refine wpAnyG_done (by kernel_rfl) ?_ _
    obtain ⟨f0,f1,f2⟩:=KX.out _ (bch HZ1.out.2.1 By0.out)
    have f3:=(by have:=HZ1.out.2.2.1.on By0.out;rwa [HTB1.out] at this:Row y0 TB 32 [.int .i64 ((NN:Int)),.slice A9 RT.2.length c9])
    obtain ⟨Z2,hZ2⟩:∃ z,y0.setCell ⟨cb,0,none⟩ (.int .i64 (CS + (RT.2.length:Int)))=z:=⟨_,rfl⟩
    have hZo:Only (fun k=>k=cb) y0 Z2:=by rw [← hZ2];exact Only.set (S:=fun k=>k=cb) (p:=⟨cb,0,none⟩) (Only.refl y0) (.inl rfl) _
    have g1:Row Z2 cb 3 [.int .i64 (CS + (RT.2.length:Int))]:=by rw [← hZ2];exact (f1.set 0 _).of rfl
    have hTBc:TB ≠ cb:=by have:=HCBL.out;have h2:=HZ1.out.1.size;have h3:=HTB1.out;have h4:=HX.out.1.size;omega
    have hRBc:w.heap.size ≠ cb:=by have:=HCBL.out;omega
    have g2:=f2.only hZo hRBc
    have g3:=f3.only hZo hTBc
    have q0:=g2.lt
    have q1:=g2.frozen 0
    have q2:=g2.frozen 1
    have q3:Z2.cell? ⟨w.heap.size,0,none⟩=some (.int .i64 0):=g2.cell 0
    have q4:Z2.cell? ⟨w.heap.size,1,none⟩=some (.slice none 0 0):=g2.cell 1
    have q5:Z2.cell? ⟨TB,0,none⟩=some (.int .i64 ((NN:Int))):=g3.cell 0
    have q6:Z2.cell? ⟨TB,1,none⟩=some (.slice A9 RT.2.length c9):=g3.cell 1
    have HZ2:=Lib.hid hZ2
    have HG:=Lib.hid (And.intro hZo (And.intro g1 g2))
    clear hZo g1 g2 g3 f0 f1 f2 f3 hZ2
    rw [HZ2.out]
    go_wp2
    refine bodyPost_ret (resResult (b:=w.heap.size) _ rfl _ (v0:=.int .i64 ((NN:Int))) (v1:=.slice A9 RT.2.length c9) (by simp [go_sem,q3,q4,q0]) (by simp [go_sem,q3,q4,q0])) rfl ?_
    have hzo2:=onlyT Z2 w.heap.size (.int .i64 ((NN:Int))) (.slice A9 RT.2.length c9)
    refine ⟨_,by rw [HRW.out];rw [if_neg hk1,if_pos hk3,HNN.out],?_,?_,?_⟩
    ·have h1:=owT_on HZ1.out.2.2.2 By0.out
     have h2:=owT_only h1 HG.out.1 fun k hk=>.inl (by have:=HCBL.out;have h4:=HX.out.1.size;rw [show k=cb from hk];omega)
     exact owT_low (owT_only h2 hzo2 fun k hk=>.inr (.inl (by rw [show k=w.heap.size from hk];exact HG.out.2.2.ty))) (by have:=HX.out.1.size;have:=HB0.out.2.2.1;omega)
    ·have k1:Only (fun k=>k=cb ∨ w.heap.size ≤ k) w W0:=only_below HB0.out.1
     have k2:Only (fun k=>k=cb ∨ w.heap.size ≤ k) W0 wr:=HX.out.1.mono fun k _ hk=>by rcases hk with h | h;exact .inl h;exact .inr (by have:=HCBL.out;omega)
     have k3:Only (fun k=>k=cb ∨ w.heap.size ≤ k) wr y0:=only_below (bch HZ1.out.2.1 By0.out)
     have k4:Only (fun k=>k=cb ∨ w.heap.size ≤ k) y0 Z2:=HG.out.1.mono fun k _ hk=>.inl hk
     have k5:=(((k1.trans k2).trans k3).trans k4).trans (hzo2.mono (T:=fun k=>k=cb ∨ w.heap.size ≤ k) fun k _ hk=>.inr (by rw [show k=w.heap.size from hk];exact Nat.le_refl _))
     exact k5.mono fun k hk h=>by rcases h with h | h;exact h;omega
    ·have:=HG.out.2.1.only hzo2 (by intro h;exact hRBc h.symm)
     exact this.of (by rw [HCS.out.1];congr 2;omega)
   by_cases hk45:p.kind=4 ∨ p.kind=5
   ·skip
    have hi0:0 < i:=by rw [if_neg hk1,if_pos (show p.kind=4 ∨ p.kind=5 ∨ p.kind=6 by rcases hk45 with h | h;exact .inl h;exact .inr (.inl h))] at hnk;omega
    obtain ⟨A0,k0,rfl,rfl,hk0a,hk0b,hrw0⟩:=hk0r hi0
    have hT0:=HT.out.1 (by rw [HKK.out.2.1];exact hi0)
    have hr0:∀ r ∈ T0.2,RowOk T0.1 r:=hT0.2.2.2.1
    have hl0:T0.2.length ≤ 400:=hT0.2.2.1
    have hw01:1 ≤ T0.1:=hT0.1
    have hw06:T0.1 ≤ 6:=hT0.2.1
    have hi1:1 < i:=by rw [if_neg hk1,if_pos (show p.kind=4 ∨ p.kind=5 ∨ p.kind=6 by rcases hk45 with h | h;exact .inl h;exact .inr (.inl h))] at hnk;omega
    obtain ⟨A1,k1,rfl,rfl,hk1a,hk1b,hrw1⟩:=hk1r hi1
    have hT1:=HT.out.2 (by rw [HKK.out.2.1];exact hi1)
    have hr1:∀ r ∈ T1.2,RowOk T1.1 r:=hT1.2.2.2.1
    have hl1:T1.2.length ≤ 400:=hT1.2.2.1
    have hw11:1 ≤ T1.1:=hT1.1
    have hw16:T1.1 ≤ 6:=hT1.2.1
    obtain ⟨wa,hwa⟩:=Int.eq_ofNat_of_zero_le (show 0 ≤ T0.1 by omega)
    obtain ⟨wb,hwb⟩:=Int.eq_ofNat_of_zero_le (show 0 ≤ T1.1 by omega)
    have hex:=HKK.out.1.2.2.1
    unfold nexprs at hex
    rw [if_pos (show p.kind=2 ∨ p.kind=4 ∨ p.kind=5 from .inr hk45)] at hex
    have hp0:0 < p.exprs.length:=by omega
    have hokE:T0.1 + T1.1 ≤ 6 ∧ ExOk (T0.1 + T1.1) 8 (eAt p 0):=by
     have:=HWX.out
     unfold topW at this
     rw [if_neg hk1,if_neg hk2,if_neg hk3,if_pos hk45] at this
     split at this
     ·rename_i h
      rw [eAt_at hp0]
      exact ⟨h.1,(h.2 _ (List.getElem_mem hp0)).2⟩
     ·exact absurd rfl this
    obtain ⟨NJ,hNJ⟩:∃ n,wa + wb=n:=⟨_,rfl⟩
    obtain ⟨WDV,hWDV⟩:∃ n,T0.1 + T1.1=n:=⟨_,rfl⟩
    have hNW:WDV=(NJ:Int):=by omega
    have hww2:IntKind.i64.wrap (T0.1 + T1.1)=WDV:=by rw [IntWalk.i64_in _ (by omega)];exact hWDV
    rw [hWDV] at hokE
    have HRT2:=Lib.hid (show RT.2=colS (joinR (eAt p 0) (p.kind == 5) wb T0.2 T1.2) by rw [HRR.out hk1];unfold rawR;rw [if_neg hk2,if_neg hk3,if_pos hk45,hwb];rfl)
    have HVR:=Lib.hid (show ∀ r ∈ joinR (eAt p 0) (p.kind == 5) wb T0.2 T1.2,RowOk (NJ:Int) r from fun r hr=>by
     have:=joinR_ok hr0 hr1 (n:=wb) (by omega) (by omega) ⟨hw11,hw16⟩ r hr
     rwa [hWDV,hNW] at this)
    have HIFS:=Lib.hid hWDV
    have HDD:=Lib.hid (And.intro hrw0 (And.intro hrw1 (And.intro hr0 (And.intro hr1 (And.intro hokE (And.intro hwa (And.intro hwb (And.intro hNJ hNW))))))))
    clear hk0r hk1r hk0z hnk hrw0 hrw1 hr0 hr1 hokE hwa hwb hNJ hNW hWDV hex
    have HK45:=Lib.hid hk45
    rcases hk45 with hk4 | hk5
    ·skip
     rw [hk4] at d1
     go_wp2_with fail
     refine (joined1_ok b o T0.1 T1.1 A0 A1 T0.2.length k0 T1.2.length k1 _).mono ?_
     rintro e Y ⟨rfl,hby,hry0,hry1,hry2⟩
     obtain ⟨ps,hpl,hpm,hpa,hps⟩:=rws_ps (HDD.out.1.on hby) HDD.out.2.2.1
     obtain ⟨qs,hql,hqm,hqa,hqs⟩:=rws_ps (HDD.out.2.1.on hby) HDD.out.2.2.2.1
     have BY:Below wr.heap.size wr Y:=hby
     have HCO:Calls Tryz.prog 90 #[.int .i64 WDV,.func (.func 110) #[] #[.pointer (some ⟨wr.heap.size + 1,0,none⟩),.pointer (some ⟨wr.heap.size + 2,0,none⟩),.pointer (some ⟨wr.heap.size,0,none⟩)]] Y (fun e w'=>∃ v,e=.returned (.agg #[.int .i64 WDV,v]) ∧ OwT Y.heap.size w' v RT.2 ∧ Below Y.heap.size Y w'):=by
      obtain ⟨_,_,_,_,hokE,hwa,hwb,hNJ,hNW⟩:=HDD.out
      rw [hNW] at hokE ⊢
      rw [hwa] at hps hry1 hw01
      rw [hwb] at hqs hry2 hw11
      have hit:=joinedIt_ok wa wb NJ (wr.heap.size + 1) (wr.heap.size + 2) wr.heap.size b o f p A0 A1 k0 k1 ps qs Y (by omega) (by omega) (by omega) (by omega) hNJ (by omega) (by rw [hpl];exact hry1) (by rw [hql];exact hry2) hry0 (HPX.out.on hby) HK45.out hp0 hokE.2 hpa hps hqa hqs
      rw [hpm,hqm] at hit
      have hc:=collectR_ok (NJ:Int) _ 110 #[.pointer (some ⟨wr.heap.size + 1,0,none⟩),.pointer (some ⟨wr.heap.size + 2,0,none⟩),.pointer (some ⟨wr.heap.size,0,none⟩)] _ Y entersJoined1 hit
      refine hc.mono fun e w' h=>?_
      rw [HRT2.out]
      exact colRes_owT HVR.out h
     clear hby hry0 hry1 hry2 hpl hpm hpa hps hql hqm hqa hqs
     have HBY:=Lib.hid BY
     have HCO2:=Lib.hid HCO
     clear BY HCO
     go_wp2_with fail
     refine HCO2.out.mono ?_
     rintro e z1 ⟨v,rfl,hot,hbz⟩
     obtain ⟨A9,c9,rfl,_,_,_⟩:=hot.read
     have hbx1:Below wr.heap.size wr z1:=bch HBY.out hbz
     obtain ⟨V,hV⟩:∃ z,z1.alloc (.cells #[.int .i64 (WDV),.slice A9 RT.2.length c9] 32)=z:=⟨_,rfl⟩
     have bV:Below z1.heap.size z1 V:=by rw [← hV];exact balloc (Below.refl _ _) _
     have rv:Row V z1.heap.size 32 [.int .i64 (WDV),.slice A9 RT.2.length c9]:=by rw [← hV];exact Row.new _ _ _
     have hot2:=owT_on hot bV
     have HV:=Lib.hid hV
     have HZ1:=Lib.hid (And.intro hbx1 (And.intro (bch hbx1 bV) (And.intro rv (owT_low hot2 HBY.out.size))))
     obtain ⟨TB,hTB⟩:∃ n,z1.heap.size=n:=⟨_,rfl⟩
     have HTB1:=Lib.hid hTB
     clear hot hbz hbx1 bV hot2 hV e0 e1 e2 e3 d1 d2 d3 d4 d5
     have KV:=Lib.hid (fun (z:World) (hz:Below V.heap.size V z)=>show (z.cell? ⟨cb,0,none⟩=some (.int .i64 CS) ∧ z.cell? ⟨TB,1,none⟩=some (.slice A9 RT.2.length c9)) from ⟨(KX.out _ (bch HZ1.out.2.1 hz)).2.1.cell 0,by rw [← HTB1.out];exact (rv.on hz).cell 1⟩)
     clear rv hTB
     go_upto_region 30 with fail
     rw [HV.out,HTB1.out]
     obtain ⟨y0,hy0⟩:∃ z,V.drew=z:=⟨_,rfl⟩
     have By0:=Lib.hid (show Below V.heap.size V y0 from hy0 ▸ (Below.refl _ _).drew)
     have Hy0:=Lib.hid hy0
     clear hy0
     have hww:IntKind.i64.wrap (CS + (RT.2.length:Int))=CS + (RT.2.length:Int):=IntWalk.i64_in _ (by have:=HCS.out;omega)
     refine wp_region_g 8 (fun z=>z.cell? ⟨cb,0,none⟩=some (.int .i64 CS) ∧ z.cell? ⟨TB,1,none⟩=some (.slice A9 RT.2.length c9)) (by kernel_rfl) ?_ (fun hHeld=>?_)
     ·exact KV.out _ (Below.refl _ _).drew
     rw [Hy0.out] at hHeld ⊢
     refine tkH (i:=0) rfl (by assumption) ?_
     try simp only [Act.put,sTA,sC0,sCS]
     refine tkH (i:=1) rfl (by assumption) ?_
     try simp only [Act.put,sTA,sC0,sCS]
     refine tkH (i:=2) rfl (by assumption) ?_
     try simp only [Act.put,sTA,sC0,sCS]
     refine tkH (i:=3) rfl (by assumption) ?_
     try simp only [Act.put,sTA,sC0,sCS]
     refine tkH (i:=4) rfl (by assumption) ?_
     try simp only [Act.put,sTA,sC0,sCS]
     refine tkH (i:=5) rfl (by assumption) ?_
     try simp only [Act.put,sTA,sC0,sCS]
     refine tkH (i:=6) rfl (by assumption) ?_
     try simp only [Act.put,sTA,sC0,sCS]
     refine tkH (i:=7) rfl (by assumption) ?_
     try simp only [Act.put,sTA,sC0,sCS]
     refine rdG (i:=8) (by kernel_rfl) rfl (fun K hK=>?_)
     obtain ⟨_,p1,_⟩:=KX.out _ (bch HZ1.out.2.1 By0.out)
     have q0:=p1.lt
     have q1:=p1.frozen 0
     go_simp
     clear q0 q1 p1
     refine hK.out _ _ ?hS45 (fun hHeld=>?_)
     case hS45=>exact fun h=>absurd rfl h
     clear hK K
     try simp only [Act.put,sTA,sC0,sCS]
     refine wpAnyG_done (by kernel_rfl) ?_ _
     obtain ⟨f0,f1,f2⟩:=KX.out _ (bch HZ1.out.2.1 By0.out)
     have f3:=(by have:=HZ1.out.2.2.1.on By0.out;rwa [HTB1.out] at this:Row y0 TB 32 [.int .i64 (WDV),.slice A9 RT.2.length c9])
     obtain ⟨Z2,hZ2⟩:∃ z,y0.setCell ⟨cb,0,none⟩ (.int .i64 (CS + (RT.2.length:Int)))=z:=⟨_,rfl⟩
     have hZo:Only (fun k=>k=cb) y0 Z2:=by rw [← hZ2];exact Only.set (S:=fun k=>k=cb) (p:=⟨cb,0,none⟩) (Only.refl y0) (.inl rfl) _
     have g1:Row Z2 cb 3 [.int .i64 (CS + (RT.2.length:Int))]:=by rw [← hZ2];exact (f1.set 0 _).of rfl
     have hTBc:TB ≠ cb:=by have:=HCBL.out;have h2:=HZ1.out.1.size;have h3:=HTB1.out;have h4:=HX.out.1.size;omega
     have hRBc:w.heap.size ≠ cb:=by have:=HCBL.out;omega
     have g2:=f2.only hZo hRBc
     have g3:=f3.only hZo hTBc
     have q0:=g2.lt
     have q1:=g2.frozen 0
     have q2:=g2.frozen 1
     have q3:Z2.cell? ⟨w.heap.size,0,none⟩=some (.int .i64 0):=g2.cell 0
     have q4:Z2.cell? ⟨w.heap.size,1,none⟩=some (.slice none 0 0):=g2.cell 1
     have q5:Z2.cell? ⟨TB,0,none⟩=some (.int .i64 (WDV)):=g3.cell 0
     have q6:Z2.cell? ⟨TB,1,none⟩=some (.slice A9 RT.2.length c9):=g3.cell 1
     have HZ2:=Lib.hid hZ2
     have HG:=Lib.hid (And.intro hZo (And.intro g1 g2))
     clear hZo g1 g2 g3 f0 f1 f2 f3 hZ2
     rw [HZ2.out]
     go_wp2
     refine bodyPost_ret (resResult (b:=w.heap.size) _ rfl _ (v0:=.int .i64 (WDV)) (v1:=.slice A9 RT.2.length c9) (by simp [go_sem,q3,q4,q0]) (by simp [go_sem,q3,q4,q0])) rfl ?_
     have hzo2:=onlyT Z2 w.heap.size (.int .i64 (WDV)) (.slice A9 RT.2.length c9)
     refine ⟨_,by rw [HRW.out];rw [if_neg hk1,if_neg hk3,if_pos HK45.out,HIFS.out],?_,?_,?_⟩
     ·have h1:=owT_on HZ1.out.2.2.2 By0.out
      have h2:=owT_only h1 HG.out.1 fun k hk=>.inl (by have:=HCBL.out;have h4:=HX.out.1.size;rw [show k=cb from hk];omega)
      exact owT_low (owT_only h2 hzo2 fun k hk=>.inr (.inl (by rw [show k=w.heap.size from hk];exact HG.out.2.2.ty))) (by have:=HX.out.1.size;have:=HB0.out.2.2.1;omega)
     ·have k1:Only (fun k=>k=cb ∨ w.heap.size ≤ k) w W0:=only_below HB0.out.1
      have k2:Only (fun k=>k=cb ∨ w.heap.size ≤ k) W0 wr:=HX.out.1.mono fun k _ hk=>by rcases hk with h | h;exact .inl h;exact .inr (by have:=HCBL.out;omega)
      have k3:Only (fun k=>k=cb ∨ w.heap.size ≤ k) wr y0:=only_below (bch HZ1.out.2.1 By0.out)
      have k4:Only (fun k=>k=cb ∨ w.heap.size ≤ k) y0 Z2:=HG.out.1.mono fun k _ hk=>.inl hk
      have k5:=(((k1.trans k2).trans k3).trans k4).trans (hzo2.mono (T:=fun k=>k=cb ∨ w.heap.size ≤ k) fun k _ hk=>.inr (by rw [show k=w.heap.size from hk];exact Nat.le_refl _))
      exact k5.mono fun k hk h=>by rcases h with h | h;exact h;omega
     ·have:=HG.out.2.1.only hzo2 (by intro h;exact hRBc h.symm)
      exact this.of (by rw [HCS.out.1];congr 2;omega)
    ·skip
     rw [hk5] at d1
     go_wp2_with fail
     refine (joined1_ok b o T0.1 T1.1 A0 A1 T0.2.length k0 T1.2.length k1 _).mono ?_
     rintro e Y ⟨rfl,hby,hry0,hry1,hry2⟩
     obtain ⟨ps,hpl,hpm,hpa,hps⟩:=rws_ps (HDD.out.1.on hby) HDD.out.2.2.1
     obtain ⟨qs,hql,hqm,hqa,hqs⟩:=rws_ps (HDD.out.2.1.on hby) HDD.out.2.2.2.1
     have BY:Below wr.heap.size wr Y:=hby
     have HCO:Calls Tryz.prog 90 #[.int .i64 WDV,.func (.func 110) #[] #[.pointer (some ⟨wr.heap.size + 1,0,none⟩),.pointer (some ⟨wr.heap.size + 2,0,none⟩),.pointer (some ⟨wr.heap.size,0,none⟩)]] Y (fun e w'=>∃ v,e=.returned (.agg #[.int .i64 WDV,v]) ∧ OwT Y.heap.size w' v RT.2 ∧ Below Y.heap.size Y w'):=by
      obtain ⟨_,_,_,_,hokE,hwa,hwb,hNJ,hNW⟩:=HDD.out
      rw [hNW] at hokE ⊢
      rw [hwa] at hps hry1 hw01
      rw [hwb] at hqs hry2 hw11
      have hit:=joinedIt_ok wa wb NJ (wr.heap.size + 1) (wr.heap.size + 2) wr.heap.size b o f p A0 A1 k0 k1 ps qs Y (by omega) (by omega) (by omega) (by omega) hNJ (by omega) (by rw [hpl];exact hry1) (by rw [hql];exact hry2) hry0 (HPX.out.on hby) HK45.out hp0 hokE.2 hpa hps hqa hqs
      rw [hpm,hqm] at hit
      have hc:=collectR_ok (NJ:Int) _ 110 #[.pointer (some ⟨wr.heap.size + 1,0,none⟩),.pointer (some ⟨wr.heap.size + 2,0,none⟩),.pointer (some ⟨wr.heap.size,0,none⟩)] _ Y entersJoined1 hit
      refine hc.mono fun e w' h=>?_
      rw [HRT2.out]
      exact colRes_owT HVR.out h
     clear hby hry0 hry1 hry2 hpl hpm hpa hps hql hqm hqa hqs
     have HBY:=Lib.hid BY
     have HCO2:=Lib.hid HCO
     clear BY HCO
     go_wp2_with fail
     refine HCO2.out.mono ?_
     rintro e z1 ⟨v,rfl,hot,hbz⟩
     obtain ⟨A9,c9,rfl,_,_,_⟩:=hot.read
     have hbx1:Below wr.heap.size wr z1:=bch HBY.out hbz
     obtain ⟨V,hV⟩:∃ z,z1.alloc (.cells #[.int .i64 (WDV),.slice A9 RT.2.length c9] 32)=z:=⟨_,rfl⟩
     have bV:Below z1.heap.size z1 V:=by rw [← hV];exact balloc (Below.refl _ _) _
     have rv:Row V z1.heap.size 32 [.int .i64 (WDV),.slice A9 RT.2.length c9]:=by rw [← hV];exact Row.new _ _ _
     have hot2:=owT_on hot bV
     have HV:=Lib.hid hV
     have HZ1:=Lib.hid (And.intro hbx1 (And.intro (bch hbx1 bV) (And.intro rv (owT_low hot2 HBY.out.size))))
     obtain ⟨TB,hTB⟩:∃ n,z1.heap.size=n:=⟨_,rfl⟩
     have HTB1:=Lib.hid hTB
     clear hot hbz hbx1 bV hot2 hV e0 e1 e2 e3 d1 d2 d3 d4 d5
     have KV:=Lib.hid (fun (z:World) (hz:Below V.heap.size V z)=>show (z.cell? ⟨cb,0,none⟩=some (.int .i64 CS) ∧ z.cell? ⟨TB,1,none⟩=some (.slice A9 RT.2.length c9)) from ⟨(KX.out _ (bch HZ1.out.2.1 hz)).2.1.cell 0,by rw [← HTB1.out];exact (rv.on hz).cell 1⟩)
     clear rv hTB
     go_upto_region 30 with fail
     rw [HV.out,HTB1.out]
     obtain ⟨y0,hy0⟩:∃ z,V.drew=z:=⟨_,rfl⟩
     have By0:=Lib.hid (show Below V.heap.size V y0 from hy0 ▸ (Below.refl _ _).drew)
     have Hy0:=Lib.hid hy0
     clear hy0
     have hww:IntKind.i64.wrap (CS + (RT.2.length:Int))=CS + (RT.2.length:Int):=IntWalk.i64_in _ (by have:=HCS.out;omega)
     refine wp_region_g 8 (fun z=>z.cell? ⟨cb,0,none⟩=some (.int .i64 CS) ∧ z.cell? ⟨TB,1,none⟩=some (.slice A9 RT.2.length c9)) (by kernel_rfl) ?_ (fun hHeld=>?_)
     ·exact KV.out _ (Below.refl _ _).drew
     rw [Hy0.out] at hHeld ⊢
     refine tkH (i:=0) rfl (by assumption) ?_
     try simp only [Act.put,sTA,sC0,sCS]
     refine tkH (i:=1) rfl (by assumption) ?_
     try simp only [Act.put,sTA,sC0,sCS]
     refine tkH (i:=2) rfl (by assumption) ?_
     try simp only [Act.put,sTA,sC0,sCS]
     refine tkH (i:=3) rfl (by assumption) ?_
     try simp only [Act.put,sTA,sC0,sCS]
     refine tkH (i:=4) rfl (by assumption) ?_
     try simp only [Act.put,sTA,sC0,sCS]
     refine tkH (i:=5) rfl (by assumption) ?_
     try simp only [Act.put,sTA,sC0,sCS]
     refine tkH (i:=6) rfl (by assumption) ?_
     try simp only [Act.put,sTA,sC0,sCS]
     refine tkH (i:=7) rfl (by assumption) ?_
     try simp only [Act.put,sTA,sC0,sCS]
     refine rdG (i:=8) (by kernel_rfl) rfl (fun K hK=>?_)
     obtain ⟨_,p1,_⟩:=KX.out _ (bch HZ1.out.2.1 By0.out)
     have q0:=p1.lt
     have q1:=p1.frozen 0
     go_simp
     clear q0 q1 p1
     refine hK.out _ _ ?hS54 (fun hHeld=>?_)
     case hS54=>exact fun h=>absurd rfl h
     clear hK K
     try simp only [Act.put,sTA,sC0,sCS]
     refine wpAnyG_done (by kernel_rfl) ?_ _
     obtain ⟨f0,f1,f2⟩:=KX.out _ (bch HZ1.out.2.1 By0.out)
     have f3:=(by have:=HZ1.out.2.2.1.on By0.out;rwa [HTB1.out] at this:Row y0 TB 32 [.int .i64 (WDV),.slice A9 RT.2.length c9])
     obtain ⟨Z2,hZ2⟩:∃ z,y0.setCell ⟨cb,0,none⟩ (.int .i64 (CS + (RT.2.length:Int)))=z:=⟨_,rfl⟩
     have hZo:Only (fun k=>k=cb) y0 Z2:=by rw [← hZ2];exact Only.set (S:=fun k=>k=cb) (p:=⟨cb,0,none⟩) (Only.refl y0) (.inl rfl) _
     have g1:Row Z2 cb 3 [.int .i64 (CS + (RT.2.length:Int))]:=by rw [← hZ2];exact (f1.set 0 _).of rfl
     have hTBc:TB ≠ cb:=by have:=HCBL.out;have h2:=HZ1.out.1.size;have h3:=HTB1.out;have h4:=HX.out.1.size;omega
     have hRBc:w.heap.size ≠ cb:=by have:=HCBL.out;omega
     have g2:=f2.only hZo hRBc
     have g3:=f3.only hZo hTBc
     have q0:=g2.lt
     have q1:=g2.frozen 0
     have q2:=g2.frozen 1
     have q3:Z2.cell? ⟨w.heap.size,0,none⟩=some (.int .i64 0):=g2.cell 0
     have q4:Z2.cell? ⟨w.heap.size,1,none⟩=some (.slice none 0 0):=g2.cell 1
     have q5:Z2.cell? ⟨TB,0,none⟩=some (.int .i64 (WDV)):=g3.cell 0
     have q6:Z2.cell? ⟨TB,1,none⟩=some (.slice A9 RT.2.length c9):=g3.cell 1
     have HZ2:=Lib.hid hZ2
     have HG:=Lib.hid (And.intro hZo (And.intro g1 g2))
     clear hZo g1 g2 g3 f0 f1 f2 f3 hZ2
     rw [HZ2.out]
     go_wp2
     refine bodyPost_ret (resResult (b:=w.heap.size) _ rfl _ (v0:=.int .i64 (WDV)) (v1:=.slice A9 RT.2.length c9) (by simp [go_sem,q3,q4,q0]) (by simp [go_sem,q3,q4,q0])) rfl ?_
     have hzo2:=onlyT Z2 w.heap.size (.int .i64 (WDV)) (.slice A9 RT.2.length c9)
     refine ⟨_,by rw [HRW.out];rw [if_neg hk1,if_neg hk3,if_pos HK45.out,HIFS.out],?_,?_,?_⟩
     ·have h1:=owT_on HZ1.out.2.2.2 By0.out
      have h2:=owT_only h1 HG.out.1 fun k hk=>.inl (by have:=HCBL.out;have h4:=HX.out.1.size;rw [show k=cb from hk];omega)
      exact owT_low (owT_only h2 hzo2 fun k hk=>.inr (.inl (by rw [show k=w.heap.size from hk];exact HG.out.2.2.ty))) (by have:=HX.out.1.size;have:=HB0.out.2.2.1;omega)
     ·have k1:Only (fun k=>k=cb ∨ w.heap.size ≤ k) w W0:=only_below HB0.out.1
      have k2:Only (fun k=>k=cb ∨ w.heap.size ≤ k) W0 wr:=HX.out.1.mono fun k _ hk=>by rcases hk with h | h;exact .inl h;exact .inr (by have:=HCBL.out;omega)
      have k3:Only (fun k=>k=cb ∨ w.heap.size ≤ k) wr y0:=only_below (bch HZ1.out.2.1 By0.out)
      have k4:Only (fun k=>k=cb ∨ w.heap.size ≤ k) y0 Z2:=HG.out.1.mono fun k _ hk=>.inl hk
      have k5:=(((k1.trans k2).trans k3).trans k4).trans (hzo2.mono (T:=fun k=>k=cb ∨ w.heap.size ≤ k) fun k _ hk=>.inr (by rw [show k=w.heap.size from hk];exact Nat.le_refl _))
      exact k5.mono fun k hk h=>by rcases h with h | h;exact h;omega
     ·have:=HG.out.2.1.only hzo2 (by intro h;exact hRBc h.symm)
      exact this.of (by rw [HCS.out.1];congr 2;omega)
   by_cases hk6:p.kind=6
   ·skip
    have hi0:0 < i:=by rw [if_neg hk1,if_pos (by omega)] at hnk;omega
    obtain ⟨A0,k0,rfl,rfl,hk0a,hk0b,hrw0⟩:=hk0r hi0
    have hT0:=HT.out.1 (by rw [HKK.out.2.1];exact hi0)
    have hr0:∀ r ∈ T0.2,RowOk T0.1 r:=hT0.2.2.2.1
    have hl0:T0.2.length ≤ 400:=hT0.2.2.1
    have hw01:1 ≤ T0.1:=hT0.1
    have hw06:T0.1 ≤ 6:=hT0.2.1
    have hi1:1 < i:=by rw [if_neg hk1,if_pos (by omega)] at hnk;omega
    obtain ⟨A1,k1,rfl,rfl,hk1a,hk1b,hrw1⟩:=hk1r hi1
    have hT1:=HT.out.2 (by rw [HKK.out.2.1];exact hi1)
    have hr1:∀ r ∈ T1.2,RowOk T1.1 r:=hT1.2.2.2.1
    have hl1:T1.2.length ≤ 400:=hT1.2.2.1
    have hw11:1 ≤ T1.1:=hT1.1
    have hw16:T1.1 ≤ 6:=hT1.2.1
    have HRT2:=Lib.hid (show RT.2=colS (T0.2 ++ T1.2) by rw [HRR.out hk1];unfold rawR;rw [if_neg hk2,if_neg hk3,if_neg hk45,if_pos hk6])
    have hwe:T0.1=T1.1:=by
     have:=HWX.out
     unfold topW at this
     rw [if_neg hk1,if_neg hk2,if_neg hk3,if_neg hk45,if_pos hk6] at this
     split at this
     ·assumption
     ·exact absurd rfl this
    have HVR:=Lib.hid (show ∀ r ∈ T0.2 ++ T1.2,RowOk T0.1 r from fun r hr=>by
     rcases List.mem_append.1 hr with h | h
     ·exact hr0 r h
     ·rw [hwe];exact hr1 r h)
    rw [← hwe] at hr1
    have HDD:=Lib.hid (And.intro hrw0 (And.intro hrw1 (And.intro hr0 hr1)))
    obtain ⟨U,hU⟩:∃ z,wr.alloc (.cells #[.slice A0 T0.2.length k0,.slice A1 T1.2.length k1] 30)=z:=⟨_,rfl⟩
    have bU:Below wr.heap.size wr U:=by rw [← hU];exact balloc (Below.refl _ _) _
    have rU:Row U wr.heap.size 30 [.slice A0 T0.2.length k0,.slice A1 T1.2.length k1]:=by rw [← hU];exact Row.new _ _ _
    obtain ⟨ps0,hpl0,hpm0,hpa0,hps0⟩:=rws_ps (hrw0.on bU) hr0
    obtain ⟨ps1,hpl1,hpm1,hpa1,hps1⟩:=rws_ps (hrw1.on bU) hr1
    have HCC:=Lib.hid (concat2_ok wr.heap.size 0 2 A0 A1 T0.2.length T1.2.length k0 k1 (ps0.map (·.1)) (ps1.map (·.1)) U (by rw [List.length_map,hpl0]) (by rw [List.length_map,hpl1]) (by omega) (by omega) rU.lt (rU.cell 0) (rU.cell 1) hpa0 hpa1)
    have HPS:=Lib.hid (And.intro bU (And.intro hpl0 (And.intro hpm0 (And.intro hps0 (And.intro hpl1 (And.intro hpm1 hps1))))))
    have HU:=Lib.hid hU
    clear hk0r hk1r hk0z hnk hwe hrw0 hrw1 hr0 hr1 hU bU rU hpl0 hpm0 hpa0 hps0 hpl1 hpm1 hpa1 hps1
    rw [hk6] at d1
    go_wp2_with fail
    rw [HU.out]
    refine HCC.out.mono ?_
    rintro e U2 ⟨A3,c3,rfl,how3,hb3⟩
    have HO3:=Lib.hid (And.intro (Ow.sl' how3) hb3)
    clear how3 hb3
    go_wp2_with fail
    refine (values_ok A3 (T0.2.length + T1.2.length) c3 _).mono ?_
    rintro e Y ⟨rfl,hby,hry⟩
    have BY:Below wr.heap.size wr Y:=bch HPS.out.1 (bch HO3.out.2 hby)
    have HCO:Calls Tryz.prog 90 #[.int .i64 T0.1,.func (.func 105) #[] #[.pointer (some ⟨U2.heap.size,0,none⟩)]] Y (fun e w'=>∃ v,e=.returned (.agg #[.int .i64 T0.1,v]) ∧ OwT Y.heap.size w' v RT.2 ∧ Below Y.heap.size Y w'):=by
     obtain ⟨_,hpl0,hpm0,hps0,hpl1,hpm1,hps1⟩:=HPS.out
     have hl:(ps0 ++ ps1).length=T0.2.length + T1.2.length:=by rw [List.length_append,hpl0,hpl1]
     have hbUY:=bch HO3.out.2 hby
     have hc:=collect_ok T0.1 (ps0 ++ ps1).length 105 #[.pointer (some ⟨U2.heap.size,0,none⟩)] (ps0 ++ ps1) Y entersValues1 (valuesIt_ok T0.1 U2.heap.size A3 c3 (ps0 ++ ps1) Y (by omega) (by rw [hl];exact hry) (by rw [List.map_append];exact HO3.out.1.on hby) (fun p hp=>by rcases List.mem_append.1 hp with h | h;exact (hps0 p h).on hbUY;exact (hps1 p h).on hbUY))
     rw [List.map_append,hpm0,hpm1] at hc
     refine hc.mono fun e w' h=>?_
     rw [HRT2.out]
     exact colRes_owT HVR.out h
    clear hby hry
    have HBY:=Lib.hid BY
    have HCO2:=Lib.hid HCO
    clear BY HCO
    go_wp2_with fail
    refine HCO2.out.mono ?_
    rintro e z1 ⟨v,rfl,hot,hbz⟩
    obtain ⟨A9,c9,rfl,_,_,_⟩:=hot.read
    have hbx1:Below wr.heap.size wr z1:=bch HBY.out hbz
    obtain ⟨V,hV⟩:∃ z,z1.alloc (.cells #[.int .i64 (T0.1),.slice A9 RT.2.length c9] 32)=z:=⟨_,rfl⟩
    have bV:Below z1.heap.size z1 V:=by rw [← hV];exact balloc (Below.refl _ _) _
    have rv:Row V z1.heap.size 32 [.int .i64 (T0.1),.slice A9 RT.2.length c9]:=by rw [← hV];exact Row.new _ _ _
    have hot2:=owT_on hot bV
    have HV:=Lib.hid hV
    have HZ1:=Lib.hid (And.intro hbx1 (And.intro (bch hbx1 bV) (And.intro rv (owT_low hot2 HBY.out.size))))
    obtain ⟨TB,hTB⟩:∃ n,z1.heap.size=n:=⟨_,rfl⟩
    have HTB1:=Lib.hid hTB
    clear hot hbz hbx1 bV hot2 hV e0 e1 e2 e3 d1 d2 d3 d4 d5
    have KV:=Lib.hid (fun (z:World) (hz:Below V.heap.size V z)=>show (z.cell? ⟨cb,0,none⟩=some (.int .i64 CS) ∧ z.cell? ⟨TB,1,none⟩=some (.slice A9 RT.2.length c9)) from ⟨(KX.out _ (bch HZ1.out.2.1 hz)).2.1.cell 0,by rw [← HTB1.out];exact (rv.on hz).cell 1⟩)
    clear rv hTB
    go_upto_region 30 with fail
    rw [HV.out,HTB1.out]
    obtain ⟨y0,hy0⟩:∃ z,V.drew=z:=⟨_,rfl⟩
    have By0:=Lib.hid (show Below V.heap.size V y0 from hy0 ▸ (Below.refl _ _).drew)
    have Hy0:=Lib.hid hy0
    clear hy0
    have hww:IntKind.i64.wrap (CS + (RT.2.length:Int))=CS + (RT.2.length:Int):=IntWalk.i64_in _ (by have:=HCS.out;omega)
    refine wp_region_g 8 (fun z=>z.cell? ⟨cb,0,none⟩=some (.int .i64 CS) ∧ z.cell? ⟨TB,1,none⟩=some (.slice A9 RT.2.length c9)) (by kernel_rfl) ?_ (fun hHeld=>?_)
    ·exact KV.out _ (Below.refl _ _).drew
    rw [Hy0.out] at hHeld ⊢
    refine tkH (i:=0) rfl (by assumption) ?_
    try simp only [Act.put,sTA,sC0,sCS]
    refine tkH (i:=1) rfl (by assumption) ?_
    try simp only [Act.put,sTA,sC0,sCS]
    refine tkH (i:=2) rfl (by assumption) ?_
    try simp only [Act.put,sTA,sC0,sCS]
    refine tkH (i:=3) rfl (by assumption) ?_
    try simp only [Act.put,sTA,sC0,sCS]
    refine tkH (i:=4) rfl (by assumption) ?_
    try simp only [Act.put,sTA,sC0,sCS]
    refine tkH (i:=5) rfl (by assumption) ?_
    try simp only [Act.put,sTA,sC0,sCS]
    refine tkH (i:=6) rfl (by assumption) ?_
    try simp only [Act.put,sTA,sC0,sCS]
    refine tkH (i:=7) rfl (by assumption) ?_
    try simp only [Act.put,sTA,sC0,sCS]
    refine rdG (i:=8) (by kernel_rfl) rfl (fun K hK=>?_)
    obtain ⟨_,p1,_⟩:=KX.out _ (bch HZ1.out.2.1 By0.out)
    have q0:=p1.lt
    have q1:=p1.frozen 0
    go_simp
    clear q0 q1 p1
    refine hK.out _ _ ?hS63 (fun hHeld=>?_)
    case hS63=>exact fun h=>absurd rfl h
    clear hK K
    try simp only [Act.put,sTA,sC0,sCS]
    refine wpAnyG_done (by kernel_rfl) ?_ _
    obtain ⟨f0,f1,f2⟩:=KX.out _ (bch HZ1.out.2.1 By0.out)
    have f3:=(by have:=HZ1.out.2.2.1.on By0.out;rwa [HTB1.out] at this:Row y0 TB 32 [.int .i64 (T0.1),.slice A9 RT.2.length c9])
    obtain ⟨Z2,hZ2⟩:∃ z,y0.setCell ⟨cb,0,none⟩ (.int .i64 (CS + (RT.2.length:Int)))=z:=⟨_,rfl⟩
    have hZo:Only (fun k=>k=cb) y0 Z2:=by rw [← hZ2];exact Only.set (S:=fun k=>k=cb) (p:=⟨cb,0,none⟩) (Only.refl y0) (.inl rfl) _
    have g1:Row Z2 cb 3 [.int .i64 (CS + (RT.2.length:Int))]:=by rw [← hZ2];exact (f1.set 0 _).of rfl
    have hTBc:TB ≠ cb:=by have:=HCBL.out;have h2:=HZ1.out.1.size;have h3:=HTB1.out;have h4:=HX.out.1.size;omega
    have hRBc:w.heap.size ≠ cb:=by have:=HCBL.out;omega
    have g2:=f2.only hZo hRBc
    have g3:=f3.only hZo hTBc
    have q0:=g2.lt
    have q1:=g2.frozen 0
    have q2:=g2.frozen 1
    have q3:Z2.cell? ⟨w.heap.size,0,none⟩=some (.int .i64 0):=g2.cell 0
    have q4:Z2.cell? ⟨w.heap.size,1,none⟩=some (.slice none 0 0):=g2.cell 1
    have q5:Z2.cell? ⟨TB,0,none⟩=some (.int .i64 (T0.1)):=g3.cell 0
    have q6:Z2.cell? ⟨TB,1,none⟩=some (.slice A9 RT.2.length c9):=g3.cell 1
    have HZ2:=Lib.hid hZ2
    have HG:=Lib.hid (And.intro hZo (And.intro g1 g2))
    clear hZo g1 g2 g3 f0 f1 f2 f3 hZ2
    rw [HZ2.out]
    go_wp2
    refine bodyPost_ret (resResult (b:=w.heap.size) _ rfl _ (v0:=.int .i64 (T0.1)) (v1:=.slice A9 RT.2.length c9) (by simp [go_sem,q3,q4,q0]) (by simp [go_sem,q3,q4,q0])) rfl ?_
    have hzo2:=onlyT Z2 w.heap.size (.int .i64 (T0.1)) (.slice A9 RT.2.length c9)
    refine ⟨_,by rw [HRW.out];rw [if_neg hk1,if_neg hk3,if_neg hk45,if_neg (by omega)],?_,?_,?_⟩
    ·have h1:=owT_on HZ1.out.2.2.2 By0.out
     have h2:=owT_only h1 HG.out.1 fun k hk=>.inl (by have:=HCBL.out;have h4:=HX.out.1.size;rw [show k=cb from hk];omega)
     exact owT_low (owT_only h2 hzo2 fun k hk=>.inr (.inl (by rw [show k=w.heap.size from hk];exact HG.out.2.2.ty))) (by have:=HX.out.1.size;have:=HB0.out.2.2.1;omega)
    ·have k1:Only (fun k=>k=cb ∨ w.heap.size ≤ k) w W0:=only_below HB0.out.1
     have k2:Only (fun k=>k=cb ∨ w.heap.size ≤ k) W0 wr:=HX.out.1.mono fun k _ hk=>by rcases hk with h | h;exact .inl h;exact .inr (by have:=HCBL.out;omega)
     have k3:Only (fun k=>k=cb ∨ w.heap.size ≤ k) wr y0:=only_below (bch HZ1.out.2.1 By0.out)
     have k4:Only (fun k=>k=cb ∨ w.heap.size ≤ k) y0 Z2:=HG.out.1.mono fun k _ hk=>.inl hk
     have k5:=(((k1.trans k2).trans k3).trans k4).trans (hzo2.mono (T:=fun k=>k=cb ∨ w.heap.size ≤ k) fun k _ hk=>.inr (by rw [show k=w.heap.size from hk];exact Nat.le_refl _))
     exact k5.mono fun k hk h=>by rcases h with h | h;exact h;omega
    ·have:=HG.out.2.1.only hzo2 (by intro h;exact hRBc h.symm)
     exact this.of (by rw [HCS.out.1];congr 2;omega)
   by_cases hk7:p.kind=7
   ·skip
    have hi0:0 < i:=by rw [if_neg hk1,if_neg (by omega)] at hnk;omega
    obtain ⟨A0,k0,rfl,rfl,hk0a,hk0b,hrw0⟩:=hk0r hi0
    have hT0:=HT.out.1 (by rw [HKK.out.2.1];exact hi0)
    have hr0:∀ r ∈ T0.2,RowOk T0.1 r:=hT0.2.2.2.1
    have hl0:T0.2.length ≤ 400:=hT0.2.2.1
    have hw01:1 ≤ T0.1:=hT0.1
    have hw06:T0.1 ≤ 6:=hT0.2.1
    have HRT2:=Lib.hid (show RT.2=colS (dedR T0.2) by rw [HRR.out hk1];unfold rawR;rw [if_neg hk2,if_neg hk3,if_neg hk45,if_neg hk6,if_pos hk7])
    have HVR:=Lib.hid (show ∀ r ∈ dedR T0.2,RowOk T0.1 r from fun r hr=>hr0 r ((dedR_sub _).subset hr))
    clear hk0r hk1r hk0z hnk
    rw [hk7] at d1
    have HDD:=Lib.hid (And.intro hrw0 hr0)
    clear hrw0 hr0
    go_wp2_with fail
    refine (different_ok A0 T0.2.length k0 _).mono ?_
    rintro e Y ⟨rfl,hby,hry⟩
    obtain ⟨ps,hpl,hpm,hpa,hps⟩:=rws_ps (HDD.out.1.on hby) HDD.out.2
    have BY:Below wr.heap.size wr Y:=hby
    have HCO:Calls Tryz.prog 90 #[.int .i64 T0.1,.func (.func 113) #[] #[.pointer (some ⟨wr.heap.size,0,none⟩)]] Y (fun e w'=>∃ v,e=.returned (.agg #[.int .i64 T0.1,v]) ∧ OwT Y.heap.size w' v RT.2 ∧ Below Y.heap.size Y w'):=by
     have hit:=differentIt_ok T0.1 wr.heap.size A0 k0 ps Y (by omega) (by rw [hpl];exact hry) hpa hps
     have hc:=collect_ok T0.1 ps.length 113 #[.pointer (some ⟨wr.heap.size,0,none⟩)] (dedQ ps ps.length) Y entersDifferent1 hit
     rw [dedQ_map ps ps.length (Nat.le_refl _),hpm,hpl] at hc
     refine hc.mono fun e w' h=>?_
     rw [HRT2.out]
     exact colRes_owT HVR.out h
    clear hby hry hpl hpm hpa hps
    have HBY:=Lib.hid BY
    have HCO2:=Lib.hid HCO
    clear BY HCO
    go_wp2_with fail
    refine HCO2.out.mono ?_
    rintro e z1 ⟨v,rfl,hot,hbz⟩
    obtain ⟨A9,c9,rfl,_,_,_⟩:=hot.read
    have hbx1:Below wr.heap.size wr z1:=bch HBY.out hbz
    obtain ⟨V,hV⟩:∃ z,z1.alloc (.cells #[.int .i64 (T0.1),.slice A9 RT.2.length c9] 32)=z:=⟨_,rfl⟩
    have bV:Below z1.heap.size z1 V:=by rw [← hV];exact balloc (Below.refl _ _) _
    have rv:Row V z1.heap.size 32 [.int .i64 (T0.1),.slice A9 RT.2.length c9]:=by rw [← hV];exact Row.new _ _ _
    have hot2:=owT_on hot bV
    have HV:=Lib.hid hV
    have HZ1:=Lib.hid (And.intro hbx1 (And.intro (bch hbx1 bV) (And.intro rv (owT_low hot2 HBY.out.size))))
    obtain ⟨TB,hTB⟩:∃ n,z1.heap.size=n:=⟨_,rfl⟩
    have HTB1:=Lib.hid hTB
    clear hot hbz hbx1 bV hot2 hV e0 e1 e2 e3 d1 d2 d3 d4 d5
    have KV:=Lib.hid (fun (z:World) (hz:Below V.heap.size V z)=>show (z.cell? ⟨cb,0,none⟩=some (.int .i64 CS) ∧ z.cell? ⟨TB,1,none⟩=some (.slice A9 RT.2.length c9)) from ⟨(KX.out _ (bch HZ1.out.2.1 hz)).2.1.cell 0,by rw [← HTB1.out];exact (rv.on hz).cell 1⟩)
    clear rv hTB
    go_upto_region 30 with fail
    rw [HV.out,HTB1.out]
    obtain ⟨y0,hy0⟩:∃ z,V.drew=z:=⟨_,rfl⟩
    have By0:=Lib.hid (show Below V.heap.size V y0 from hy0 ▸ (Below.refl _ _).drew)
    have Hy0:=Lib.hid hy0
    clear hy0
    have hww:IntKind.i64.wrap (CS + (RT.2.length:Int))=CS + (RT.2.length:Int):=IntWalk.i64_in _ (by have:=HCS.out;omega)
    refine wp_region_g 8 (fun z=>z.cell? ⟨cb,0,none⟩=some (.int .i64 CS) ∧ z.cell? ⟨TB,1,none⟩=some (.slice A9 RT.2.length c9)) (by kernel_rfl) ?_ (fun hHeld=>?_)
    ·exact KV.out _ (Below.refl _ _).drew
    rw [Hy0.out] at hHeld ⊢
    refine tkH (i:=0) rfl (by assumption) ?_
    try simp only [Act.put,sTA,sC0,sCS]
    refine tkH (i:=1) rfl (by assumption) ?_
    try simp only [Act.put,sTA,sC0,sCS]
    refine tkH (i:=2) rfl (by assumption) ?_
    try simp only [Act.put,sTA,sC0,sCS]
    refine tkH (i:=3) rfl (by assumption) ?_
    try simp only [Act.put,sTA,sC0,sCS]
    refine tkH (i:=4) rfl (by assumption) ?_
    try simp only [Act.put,sTA,sC0,sCS]
    refine tkH (i:=5) rfl (by assumption) ?_
    try simp only [Act.put,sTA,sC0,sCS]
    refine tkH (i:=6) rfl (by assumption) ?_
    try simp only [Act.put,sTA,sC0,sCS]
    refine tkH (i:=7) rfl (by assumption) ?_
    try simp only [Act.put,sTA,sC0,sCS]
    refine rdG (i:=8) (by kernel_rfl) rfl (fun K hK=>?_)
    obtain ⟨_,p1,_⟩:=KX.out _ (bch HZ1.out.2.1 By0.out)
    have q0:=p1.lt
    have q1:=p1.frozen 0
    go_simp
    clear q0 q1 p1
    refine hK.out _ _ ?hS72 (fun hHeld=>?_)
    case hS72=>exact fun h=>absurd rfl h
    clear hK K
    try simp only [Act.put,sTA,sC0,sCS]
    refine wpAnyG_done (by kernel_rfl) ?_ _
    obtain ⟨f0,f1,f2⟩:=KX.out _ (bch HZ1.out.2.1 By0.out)
    have f3:=(by have:=HZ1.out.2.2.1.on By0.out;rwa [HTB1.out] at this:Row y0 TB 32 [.int .i64 (T0.1),.slice A9 RT.2.length c9])
    obtain ⟨Z2,hZ2⟩:∃ z,y0.setCell ⟨cb,0,none⟩ (.int .i64 (CS + (RT.2.length:Int)))=z:=⟨_,rfl⟩
    have hZo:Only (fun k=>k=cb) y0 Z2:=by rw [← hZ2];exact Only.set (S:=fun k=>k=cb) (p:=⟨cb,0,none⟩) (Only.refl y0) (.inl rfl) _
    have g1:Row Z2 cb 3 [.int .i64 (CS + (RT.2.length:Int))]:=by rw [← hZ2];exact (f1.set 0 _).of rfl
    have hTBc:TB ≠ cb:=by have:=HCBL.out;have h2:=HZ1.out.1.size;have h3:=HTB1.out;have h4:=HX.out.1.size;omega
    have hRBc:w.heap.size ≠ cb:=by have:=HCBL.out;omega
    have g2:=f2.only hZo hRBc
    have g3:=f3.only hZo hTBc
    have q0:=g2.lt
    have q1:=g2.frozen 0
    have q2:=g2.frozen 1
    have q3:Z2.cell? ⟨w.heap.size,0,none⟩=some (.int .i64 0):=g2.cell 0
    have q4:Z2.cell? ⟨w.heap.size,1,none⟩=some (.slice none 0 0):=g2.cell 1
    have q5:Z2.cell? ⟨TB,0,none⟩=some (.int .i64 (T0.1)):=g3.cell 0
    have q6:Z2.cell? ⟨TB,1,none⟩=some (.slice A9 RT.2.length c9):=g3.cell 1
    have HZ2:=Lib.hid hZ2
    have HG:=Lib.hid (And.intro hZo (And.intro g1 g2))
    clear hZo g1 g2 g3 f0 f1 f2 f3 hZ2
    rw [HZ2.out]
    go_wp2
    refine bodyPost_ret (resResult (b:=w.heap.size) _ rfl _ (v0:=.int .i64 (T0.1)) (v1:=.slice A9 RT.2.length c9) (by simp [go_sem,q3,q4,q0]) (by simp [go_sem,q3,q4,q0])) rfl ?_
    have hzo2:=onlyT Z2 w.heap.size (.int .i64 (T0.1)) (.slice A9 RT.2.length c9)
    refine ⟨_,by rw [HRW.out];rw [if_neg hk1,if_neg hk3,if_neg hk45,if_neg (by omega)],?_,?_,?_⟩
    ·have h1:=owT_on HZ1.out.2.2.2 By0.out
     have h2:=owT_only h1 HG.out.1 fun k hk=>.inl (by have:=HCBL.out;have h4:=HX.out.1.size;rw [show k=cb from hk];omega)
     exact owT_low (owT_only h2 hzo2 fun k hk=>.inr (.inl (by rw [show k=w.heap.size from hk];exact HG.out.2.2.ty))) (by have:=HX.out.1.size;have:=HB0.out.2.2.1;omega)
    ·have k1:Only (fun k=>k=cb ∨ w.heap.size ≤ k) w W0:=only_below HB0.out.1
     have k2:Only (fun k=>k=cb ∨ w.heap.size ≤ k) W0 wr:=HX.out.1.mono fun k _ hk=>by rcases hk with h | h;exact .inl h;exact .inr (by have:=HCBL.out;omega)
     have k3:Only (fun k=>k=cb ∨ w.heap.size ≤ k) wr y0:=only_below (bch HZ1.out.2.1 By0.out)
     have k4:Only (fun k=>k=cb ∨ w.heap.size ≤ k) y0 Z2:=HG.out.1.mono fun k _ hk=>.inl hk
     have k5:=(((k1.trans k2).trans k3).trans k4).trans (hzo2.mono (T:=fun k=>k=cb ∨ w.heap.size ≤ k) fun k _ hk=>.inr (by rw [show k=w.heap.size from hk];exact Nat.le_refl _))
     exact k5.mono fun k hk h=>by rcases h with h | h;exact h;omega
    ·have:=HG.out.2.1.only hzo2 (by intro h;exact hRBc h.symm)
     exact this.of (by rw [HCS.out.1];congr 2;omega)
   have hk8:p.kind=8:=by omega
   have hi0:0 < i:=by rw [if_neg hk1,if_neg (by omega)] at hnk;omega
   obtain ⟨A0,k0,rfl,rfl,hk0a,hk0b,hrw0⟩:=hk0r hi0
   have hT0:=HT.out.1 (by rw [HKK.out.2.1];exact hi0)
   have hr0:∀ r ∈ T0.2,RowOk T0.1 r:=hT0.2.2.2.1
   have hl0:T0.2.length ≤ 400:=hT0.2.2.1
   have hw01:1 ≤ T0.1:=hT0.1
   have hw06:T0.1 ≤ 6:=hT0.2.1
   have hco:ColsOk p.cols T0.1 ∧ p.cols.length < 6:=by
    have:=HWX.out
    unfold topW at this
    rw [if_neg hk1,if_neg hk2,if_neg hk3,if_neg hk45,if_neg hk6,if_neg hk7] at this
    split at this
    ·assumption
    ·exact absurd rfl this
   obtain ⟨cols,hcols⟩:∃ l,p.cols=l:=⟨_,rfl⟩
   obtain ⟨Ac,hAc⟩:∃ l,f.cs.A=l:=⟨_,rfl⟩
   obtain ⟨cc,hcc⟩:∃ l,f.cs.c=l:=⟨_,rfl⟩
   rw [hcols] at hco d4
   rw [hAc,hcc] at d4
   obtain ⟨WDV,hWDV⟩:∃ n,(cols.length:Int) + 1=n:=⟨_,rfl⟩
   have hww2:IntKind.i64.wrap ((cols.length:Int) + 1)=WDV:=by rw [IntWalk.i64_in _ (by omega)];exact hWDV
   have HRT2:=Lib.hid (show RT.2=colS (srtRows cols 0 1 T0.2) by rw [HRR.out hk1];unfold rawR;rw [if_neg hk2,if_neg hk3,if_neg hk45,if_neg hk6,if_neg hk7,hcols])
   have HVR:=Lib.hid (show ∀ r ∈ srtRows cols 0 1 T0.2,RowOk ((cols.length:Int) + 1) r from srtRows_ok hr0 hw01 (colsOk_mem' hco.1) hco.2)
   have HIFS:=Lib.hid (show (p.cols.length:Int) + 1=WDV by rw [hcols];exact hWDV)
   have HWD:=Lib.hid hWDV
   clear hk0r hk1r hk0z hnk
   rw [hk8] at d1
   have HDD:=Lib.hid (And.intro hrw0 (And.intro hT0 (And.intro hco (And.intro hcols (And.intro hAc hcc)))))
   clear hrw0 hr0 hT0 hco hcols hAc hcc hWDV
   go_wp2_with fail
   refine (grouped_ok b o T0.1 A0 T0.2.length k0 _).mono ?_
   rintro e Y ⟨rfl,hby,hry0,hry1⟩
   have BY:Below wr.heap.size wr Y:=hby
   have HCO:Calls Tryz.prog 90 #[.int .i64 WDV,.func (.func 114) #[] #[.pointer (some ⟨wr.heap.size + 1,0,none⟩),.pointer (some ⟨wr.heap.size,0,none⟩)]] Y (fun e w'=>∃ v,e=.returned (.agg #[.int .i64 WDV,v]) ∧ OwT Y.heap.size w' v RT.2 ∧ Below Y.heap.size Y w'):=by
    have hit:=groupedIt_ok T0.1 A0 k0 T0.2 (wr.heap.size + 1) wr.heap.size b o f p cols Ac cc Y HDD.out.2.2.2.1 HDD.out.2.2.2.2.1 HDD.out.2.2.2.2.2 HDD.out.2.1 HDD.out.2.2.1.2 (colsOk_mem' HDD.out.2.2.1.1) (HDD.out.1.on hby) hry1 hry0 (HPX.out.on hby)
    have hc:=collectR_ok ((cols.length:Int) + 1) _ 114 #[.pointer (some ⟨wr.heap.size + 1,0,none⟩),.pointer (some ⟨wr.heap.size,0,none⟩)] _ Y entersGrouped1 hit
    rw [HWD.out] at hc
    refine hc.mono fun e w' h=>?_
    rw [HRT2.out]
    exact colRes_owT HVR.out h
   clear hby hry0 hry1
   have HBY:=Lib.hid BY
   have HCO2:=Lib.hid HCO
   clear BY HCO
   go_wp2_with fail
   refine HCO2.out.mono ?_
   rintro e z1 ⟨v,rfl,hot,hbz⟩
   obtain ⟨A9,c9,rfl,_,_,_⟩:=hot.read
   have hbx1:Below wr.heap.size wr z1:=bch HBY.out hbz
   obtain ⟨V,hV⟩:∃ z,z1.alloc (.cells #[.int .i64 (WDV),.slice A9 RT.2.length c9] 32)=z:=⟨_,rfl⟩
   have bV:Below z1.heap.size z1 V:=by rw [← hV];exact balloc (Below.refl _ _) _
   have rv:Row V z1.heap.size 32 [.int .i64 (WDV),.slice A9 RT.2.length c9]:=by rw [← hV];exact Row.new _ _ _
   have hot2:=owT_on hot bV
   have HV:=Lib.hid hV
   have HZ1:=Lib.hid (And.intro hbx1 (And.intro (bch hbx1 bV) (And.intro rv (owT_low hot2 HBY.out.size))))
   obtain ⟨TB,hTB⟩:∃ n,z1.heap.size=n:=⟨_,rfl⟩
   have HTB1:=Lib.hid hTB
   clear hot hbz hbx1 bV hot2 hV e0 e1 e2 e3 d1 d2 d3 d4 d5
   have KV:=Lib.hid (fun (z:World) (hz:Below V.heap.size V z)=>show (z.cell? ⟨cb,0,none⟩=some (.int .i64 CS) ∧ z.cell? ⟨TB,1,none⟩=some (.slice A9 RT.2.length c9)) from ⟨(KX.out _ (bch HZ1.out.2.1 hz)).2.1.cell 0,by rw [← HTB1.out];exact (rv.on hz).cell 1⟩)
   clear rv hTB
   go_upto_region 30 with fail
   rw [HV.out,HTB1.out]
   obtain ⟨y0,hy0⟩:∃ z,V.drew=z:=⟨_,rfl⟩
   have By0:=Lib.hid (show Below V.heap.size V y0 from hy0 ▸ (Below.refl _ _).drew)
   have Hy0:=Lib.hid hy0
   clear hy0
   have hww:IntKind.i64.wrap (CS + (RT.2.length:Int))=CS + (RT.2.length:Int):=IntWalk.i64_in _ (by have:=HCS.out;omega)
   refine wp_region_g 8 (fun z=>z.cell? ⟨cb,0,none⟩=some (.int .i64 CS) ∧ z.cell? ⟨TB,1,none⟩=some (.slice A9 RT.2.length c9)) (by kernel_rfl) ?_ (fun hHeld=>?_)
   ·exact KV.out _ (Below.refl _ _).drew
   rw [Hy0.out] at hHeld ⊢
   refine tkH (i:=0) rfl (by assumption) ?_
   try simp only [Act.put,sTA,sC0,sCS]
   refine tkH (i:=1) rfl (by assumption) ?_
   try simp only [Act.put,sTA,sC0,sCS]
   refine tkH (i:=2) rfl (by assumption) ?_
   try simp only [Act.put,sTA,sC0,sCS]
   refine tkH (i:=3) rfl (by assumption) ?_
   try simp only [Act.put,sTA,sC0,sCS]
   refine tkH (i:=4) rfl (by assumption) ?_
   try simp only [Act.put,sTA,sC0,sCS]
   refine tkH (i:=5) rfl (by assumption) ?_
   try simp only [Act.put,sTA,sC0,sCS]
   refine tkH (i:=6) rfl (by assumption) ?_
   try simp only [Act.put,sTA,sC0,sCS]
   refine tkH (i:=7) rfl (by assumption) ?_
   try simp only [Act.put,sTA,sC0,sCS]
   refine rdG (i:=8) (by kernel_rfl) rfl (fun K hK=>?_)
   obtain ⟨_,p1,_⟩:=KX.out _ (bch HZ1.out.2.1 By0.out)
   have q0:=p1.lt
   have q1:=p1.frozen 0
   go_simp
   clear q0 q1 p1
   refine hK.out _ _ ?hS81 (fun hHeld=>?_)
   case hS81=>exact fun h=>absurd rfl h
   clear hK K
   try simp only [Act.put,sTA,sC0,sCS]
   refine wpAnyG_done (by kernel_rfl) ?_ _
   obtain ⟨f0,f1,f2⟩:=KX.out _ (bch HZ1.out.2.1 By0.out)
   have f3:=(by have:=HZ1.out.2.2.1.on By0.out;rwa [HTB1.out] at this:Row y0 TB 32 [.int .i64 (WDV),.slice A9 RT.2.length c9])
   obtain ⟨Z2,hZ2⟩:∃ z,y0.setCell ⟨cb,0,none⟩ (.int .i64 (CS + (RT.2.length:Int)))=z:=⟨_,rfl⟩
   have hZo:Only (fun k=>k=cb) y0 Z2:=by rw [← hZ2];exact Only.set (S:=fun k=>k=cb) (p:=⟨cb,0,none⟩) (Only.refl y0) (.inl rfl) _
   have g1:Row Z2 cb 3 [.int .i64 (CS + (RT.2.length:Int))]:=by rw [← hZ2];exact (f1.set 0 _).of rfl
   have hTBc:TB ≠ cb:=by have:=HCBL.out;have h2:=HZ1.out.1.size;have h3:=HTB1.out;have h4:=HX.out.1.size;omega
   have hRBc:w.heap.size ≠ cb:=by have:=HCBL.out;omega
   have g2:=f2.only hZo hRBc
   have g3:=f3.only hZo hTBc
   have q0:=g2.lt
   have q1:=g2.frozen 0
   have q2:=g2.frozen 1
   have q3:Z2.cell? ⟨w.heap.size,0,none⟩=some (.int .i64 0):=g2.cell 0
   have q4:Z2.cell? ⟨w.heap.size,1,none⟩=some (.slice none 0 0):=g2.cell 1
   have q5:Z2.cell? ⟨TB,0,none⟩=some (.int .i64 (WDV)):=g3.cell 0
   have q6:Z2.cell? ⟨TB,1,none⟩=some (.slice A9 RT.2.length c9):=g3.cell 1
   have HZ2:=Lib.hid hZ2
   have HG:=Lib.hid (And.intro hZo (And.intro g1 g2))
   clear hZo g1 g2 g3 f0 f1 f2 f3 hZ2
   rw [HZ2.out]
   go_wp2
   refine bodyPost_ret (resResult (b:=w.heap.size) _ rfl _ (v0:=.int .i64 (WDV)) (v1:=.slice A9 RT.2.length c9) (by simp [go_sem,q3,q4,q0]) (by simp [go_sem,q3,q4,q0])) rfl ?_
   have hzo2:=onlyT Z2 w.heap.size (.int .i64 (WDV)) (.slice A9 RT.2.length c9)
   refine ⟨_,by rw [HRW.out];rw [if_neg hk1,if_neg hk3,if_neg hk45,if_pos hk8,HIFS.out],?_,?_,?_⟩
   ·have h1:=owT_on HZ1.out.2.2.2 By0.out
    have h2:=owT_only h1 HG.out.1 fun k hk=>.inl (by have:=HCBL.out;have h4:=HX.out.1.size;rw [show k=cb from hk];omega)
    exact owT_low (owT_only h2 hzo2 fun k hk=>.inr (.inl (by rw [show k=w.heap.size from hk];exact HG.out.2.2.ty))) (by have:=HX.out.1.size;have:=HB0.out.2.2.1;omega)
   ·have k1:Only (fun k=>k=cb ∨ w.heap.size ≤ k) w W0:=only_below HB0.out.1
    have k2:Only (fun k=>k=cb ∨ w.heap.size ≤ k) W0 wr:=HX.out.1.mono fun k _ hk=>by rcases hk with h | h;exact .inl h;exact .inr (by have:=HCBL.out;omega)
    have k3:Only (fun k=>k=cb ∨ w.heap.size ≤ k) wr y0:=only_below (bch HZ1.out.2.1 By0.out)
    have k4:Only (fun k=>k=cb ∨ w.heap.size ≤ k) y0 Z2:=HG.out.1.mono fun k _ hk=>.inl hk
    have k5:=(((k1.trans k2).trans k3).trans k4).trans (hzo2.mono (T:=fun k=>k=cb ∨ w.heap.size ≤ k) fun k _ hk=>.inr (by rw [show k=w.heap.size from hk];exact Nat.le_refl _))
    exact k5.mono fun k hk h=>by rcases h with h | h;exact h;omega
   ·have:=HG.out.2.1.only hzo2 (by intro h;exact hRBc h.symm)
    exact this.of (by rw [HCS.out.1];congr 2;omega)
end Go.Proofs.YtcbfbgngkdiijaaGreat

namespace Go.Proofs.YtcbfbgngkdiijaaGreat
open Go.RowKit Go.Qo
set_option linter.unusedVariables false
set_option linter.unusedSimpArgs false

def DbV (db:List Tb):Prop:=(1 ≤ db.length ∧ db.length ≤ 4) ∧ DbOk db
theorem dbV_ws {db:List Tb} (h:DbV db):WsOk (wsDb db):=⟨by unfold wsDb;rw [List.length_map];exact h.1,wsDb_ok h.2⟩
theorem zeroIntW:(Tryz.prog.info? 3).map (fun i=>(i.zero,i.size,i.bytes))=some (some (.int .i64 0),1,8):=by kernel_rfl
def WdRes (db:List Tb) (q:Bool) (w:World) (e:Ending) (w':World):Prop:=∃ v,e=.returned (.tuple #[v,.bool q]) ∧ (q=true → Ow w.heap.size 3 1 intC w' v (wsDb db)) ∧ (q=false → v=.slice none 0 0) ∧ Below w.heap.size w w'
set_option maxRecDepth 20000 in
set_option maxHeartbeats 4000000 in
theorem implWidthsOf_ok (db:List Tb) (A:Option Addr) (c:Nat) (w:World) (hdl:db.length ≤ maxLen) (h:DbIn w w.heap.size A db) (q:Bool) (hq:q=true ↔ DbV db) :
 Calls Tryz.prog 56 #[.slice A db.length c] w (WdRes db q w):=by
 unfold maxLen at hdl
 have Hq:=Lib.hid hq
 have HD:=Lib.hid (fun (z:World) (hz:Below w.heap.size w z)=>dbIn_on h hz)
 clear h hq
 by_cases h1:(db.length:Int) < 1
 ·have hf:q=false:=by cases q;rfl;have:=(Hq.out.1 rfl).1;omega
  subst hf
  go_enter Tryz.func56,Tryz.ntmps56
  go_wp2
  go_ret2
  exact ⟨_,rfl,fun h=>(by cases h),fun _=>rfl,Below.refl _ _⟩
 by_cases h4:(4:Int) < (db.length:Int)
 ·have hf:q=false:=by cases q;rfl;have:=(Hq.out.1 rfl).1;omega
  subst hf
  go_enter Tryz.func56,Tryz.ntmps56
  go_wp2
  go_ret2
  exact ⟨_,rfl,fun h=>(by cases h),fun _=>rfl,Below.refl _ _⟩
 go_enter Tryz.func56,Tryz.ntmps56
 go_wp2
 go_loopg [4,17] db.length (fun g vv iv wr=>∃ i:Nat,i ≤ db.length ∧ g=db.length - i ∧ iv=.int .i64 i ∧ (w.heap.size ≤ wr.heap.size ∧ Below w.heap.size w wr) ∧ Ow w.heap.size 3 1 intC wr vv ((wsDb db).take i) ∧ ∀ j (hj:j < db.length),j < i → TabOk db[j].1 db[j].2)
 case atStart=>exact ⟨0,by omega,by omega,rfl,⟨Nat.le_refl _,Below.refl _ _⟩,Ow.nil,fun j hj hn=>absurd hn (by omega)⟩
 case round=>
  obtain ⟨i,hi,rfl,rfl,⟨hz,hb⟩,how,hall⟩:=hrel
  by_cases hlt:i < db.length
  ·have hltI:(i:Int) < (db.length:Int):=by omega
   obtain ⟨b,o,A',c',hA,hB,d0,d1,hc1,hc2,hrw⟩:=(HD.out _ hb).at_ hlt
   have hwl:(wsDb db)[i]? = some db[i].1:=by unfold wsDb;rw [List.getElem?_map,List.getElem?_eq_getElem hlt];rfl
   obtain ⟨L,hL⟩:∃ l,(wsDb db).take i=l:=⟨_,rfl⟩
   have hln:L.length ≤ 4:=by rw [← hL,List.length_take];unfold wsDb;rw [List.length_map];omega
   rw [hL] at how
   have HL:=Lib.hid hL
   clear hL
   obtain ⟨t,ht⟩:∃ t,db[i]=t:=⟨_,rfl⟩
   obtain ⟨tr,htr⟩:∃ t:Bool,t=true ↔ TabOk db[i].1 db[i].2:=⟨_,@decide_eq_true_iff _ (Classical.propDecidable _)⟩
   rw [ht] at d0 d1 hc1 hrw hwl htr
   obtain ⟨tw,trows⟩:=t
   dsimp only at d0 d1 hc1 hrw hwl htr
   obtain ⟨U,hU⟩:∃ z,wr.alloc (.cells #[.int .i64 tw,.slice A' trows.length c'] 32)=z:=⟨_,rfl⟩
   have bU:Below wr.heap.size wr U:=by rw [← hU];exact balloc (Below.refl _ _) _
   have rU:Row U wr.heap.size 32 [.int .i64 tw,.slice A' trows.length c']:=by rw [← hU];exact Row.new _ _ _
   have HVT:=Lib.hid (implValidTable_ok tw A' c' trows U (by omega) (hrw.on bU) tr htr)
   have HI:=Lib.hid (And.intro hb (And.intro how (And.intro hall (And.intro bU (And.intro rU (And.intro htr (And.intro ht (And.intro hwl hz))))))))
   have HU:=Lib.hid hU
   subst hA
   obtain ⟨A4,c4,rfl,hc41,hc42,_⟩:=how.shape intC_length
   have hUc0:U.cell? ⟨wr.heap.size,0,none⟩=some (.int .i64 tw):=rU.cell 0
   have hUc1:U.cell? ⟨wr.heap.size,1,none⟩=some (.slice A' trows.length c'):=rU.cell 1
   clear hb how hall bU rU htr ht hwl hU hrw hc41 hc42 hz
   go_wp2_with fail
   rw [HU.out]
   refine HVT.out.mono ?_
   rintro e w2 ⟨rfl,hb2⟩
   cases tr
   ·have hf:q=false:=by
     cases q
     ·rfl
     ·exfalso
      have:=(Hq.out.1 rfl).2 db[i] (List.getElem_mem hlt)
      rw [HI.out.2.2.2.2.2.2.1] at this
      have:=HI.out.2.2.2.2.2.1.2 this
      cases this
    subst hf
    have HB:=Lib.hid (bch HI.out.1 (bch HI.out.2.2.2.1 hb2))
    clear hb2 d0 d1
    go_wp2
    go_ret2
    exact ⟨_,rfl,fun h=>(by cases h),fun _=>rfl,HB.out⟩
   ·have r2:=HI.out.2.2.2.2.1.on hb2
    have q0:w2.cell? ⟨wr.heap.size,0,none⟩=some (.int .i64 tw):=r2.cell 0
    obtain ⟨V,hV⟩:∃ z,w2.alloc (.cells #[.int .i64 tw] 3)=z:=⟨_,rfl⟩
    have bV:Below w2.heap.size w2 V:=by rw [← hV];exact balloc (Below.refl _ _) _
    have sV:Sl 1 intC V V.heap.size (some ⟨w2.heap.size,0,none⟩) [tw]:=by rw [← hV];exact Row.sl' (t:=3) intC_length (Row.new _ _ _)
    have hbwV:Below wr.heap.size wr V:=bch HI.out.2.2.2.1 (bch hb2 bV)
    have howV:=HI.out.2.1.on hbwV
    have HS:=Lib.hid (And.intro sV (And.intro hbwV howV))
    have hwV:w.heap.size ≤ V.heap.size:=(bch HI.out.1 hbwV).size
    have HV:=Lib.hid hV
    clear hb2 r2 hV bV sV hbwV howV d0 d1
    go_wp2_with (rw [HV.out];at_builtin;refine wpList_app rfl (.tmp 24) (.tmp 27) 23 rfl w.heap.size 3 _ 1 8 intC Tryz.underlying23 zeroIntW rfl (by decide) (by decide) intC_length intC_one _ _ rfl HS.out.2.2 (some ⟨w2.heap.size,0,none⟩) 1 1 [tw] rfl rfl HS.out.1 (by simp only [List.length_singleton];omega) hwV ?_;intro v' w8 hown hgr)
    go_roundg (db.length - (i + 1))
    case measure=>omega
    case rel=>
     have hb8:Below w.heap.size w w8:=(bch HI.out.1 HS.out.2.1).grown hgr hwV fun k hk=>(HS.out.2.2.ty k hk).1
     refine ⟨i + 1,by omega,rfl,by go_num,⟨hb8.size,hb8⟩,?_,fun j hj hn=>?_⟩
     ·rw [List.take_add_one,HI.out.2.2.2.2.2.2.2.1,HL.out]
      exact hown
     ·by_cases hji:j < i
      ·exact HI.out.2.2.1 j hj hji
      ·have:j=i:=by omega
       subst this
       rw [HI.out.2.2.2.2.2.2.1]
       exact HI.out.2.2.2.2.2.1.1 (by trivial)
  ·have hqt:q=true:=Hq.out.2 ⟨by omega,fun t ht=>by
    obtain ⟨j,hj,rfl⟩:=List.getElem_of_mem ht
    exact hall j hj (by omega)⟩
   subst hqt
   rw [List.take_of_length_le (by unfold wsDb;rw [List.length_map];omega)] at how
   obtain ⟨A4,c4,rfl,hc41,hc42,_⟩:=how.shape intC_length
   have HO:=Lib.hid (And.intro how hb)
   clear how hb hall hc41 hc42
   go_wp2
   go_ret2
   exact ⟨_,rfl,fun _=>HO.out.1,fun h=>(by cases h),HO.out.2⟩
theorem widthP_okW {ws:List Int} {p:Pl} (h:WsOk ws):widthP ws p=plW ws 8 p:=by unfold widthP;rw [if_pos h]
def EvRes (db:List Tb) (p:Pl) (q:Bool) (w:World) (e:Ending) (w':World):Prop:=∃ (W1 n:Int) (v:Value) (rows:List Row1),e=.returned (.tuple #[.agg #[.int .i64 W1,v],.int .i64 n,.bool q]) ∧ OwT w.heap.size w' v rows ∧ (q=true → W1=(plT db 9 p).1 ∧ rows=(plT db 9 p).2 ∧ n=plCo db 9 p) ∧ (q=false → W1=0 ∧ rows=[] ∧ n=0) ∧ Below w.heap.size w w'
theorem resEvaluated {b:Nat} {v0 v1:Value} {n:Int} {q:Bool} (tmps:Array Value) (hp:tmps.getD 4 undef=.pointer (some ⟨b,0,none⟩)) (hn:tmps.getD 5 undef=.int .i64 n) (hq:tmps.getD 6 undef=.bool q) (w:World) (c0:w.cell? ⟨b,0,none⟩=some v0) (c1:w.cell? ⟨b,1,none⟩=some v1) :
 (results Tryz.f31 tmps).run Tryz.prog w=.ok (.tuple #[.agg #[v0,v1],.int .i64 n,.bool q]) w:=by
 simp only [Array.getD_eq_getD_getElem?] at hp hn hq
 simp [results,Tryz.results31,go_sem,hp,hn,hq,c0,c1]
set_option maxRecDepth 20000 in
set_option maxHeartbeats 4000000 in
theorem evaluated_ok (p:Pl) (f:FP) (b o:Nat) (db:List Tb) (A:Option Addr) (c:Nat) (w:World) (hP:PcAt w b o f p) (hdl:db.length ≤ maxLen) (hdb:DbIn w w.heap.size A db) (q:Bool) (hq:q=true ↔ DbV db ∧ plW (wsDb db) 8 p ≠ 0) :
 Calls Tryz.prog 31 #[.pointer (some ⟨b,o,none⟩),.slice A db.length c] w (EvRes db p q w):=by
 have Hq:=Lib.hid hq
 obtain ⟨t,ht⟩:∃ t:Bool,t=true ↔ DbV db:=⟨_,@decide_eq_true_iff _ (Classical.propDecidable _)⟩
 obtain ⟨W0,hW0⟩:∃ z,w.alloc (.cells #[.int .i64 0,.slice none 0 0] 32)=z:=⟨_,rfl⟩
 have B0:Below w.heap.size w W0:=by rw [← hW0];exact balloc (Below.refl _ _) _
 have r0:Row W0 w.heap.size 32 [.int .i64 0,.slice none 0 0]:=by rw [← hW0];exact Row.new _ _ _
 have HPX:=Lib.hid (fun (z:World) (hz:Below w.heap.size w z)=>hP.on hz)
 have HDX:=Lib.hid (fun (z:World) (hz:Below w.heap.size w z)=>dbIn_on hdb hz)
 have HW:=Lib.hid (implWidthsOf_ok db A c W0 hdl (dbIn_on hdb B0) t ht)
 have Ht:=Lib.hid ht
 have HW0:=Lib.hid hW0
 have HB0:=Lib.hid (And.intro B0 r0)
 have HDL:=Lib.hid hdl
 have NO:=Lib.hid (fun (z:World) (hz:Below W0.heap.size W0 z) (hqf:q=false)=>show EvRes db p q w (.returned (.tuple #[.agg #[.int .i64 0,.slice none 0 0],.int .i64 0,.bool false])) ((z.setCell ⟨w.heap.size,0,none⟩ (.int .i64 0)).setCell ⟨w.heap.size,1,none⟩ (.slice none 0 0)) from
  ⟨0,0,_,[],by rw [hqf],⟨[],Ow.nil,Cps.nil,rfl⟩,(fun h=>by rw [hqf] at h;cases h),fun _=>⟨rfl,rfl,rfl⟩,belT (bch B0 hz) (Nat.le_refl _) _ _⟩)
 unfold maxLen at hdl
 clear hP hdb ht hq B0 r0 hW0
 go_enter Tryz.func31,Tryz.ntmps31
 go_upto_region 1 with fail
 rw [HW0.out]
 go_wp2_with fail
 refine HW.out.mono ?_
 rintro e w1 ⟨v1,rfl,hv1,hv0,hb1⟩
 have H1:=Lib.hid hb1
 have r1:=HB0.out.2.on hb1
 cases t
 ·have hqf:q=false:=by cases q;rfl;have:=Ht.out.2 (Hq.out.1 rfl).1;cases this
  have HQF:=Lib.hid hqf
  obtain rfl:=hv0 rfl
  have q0:=r1.lt
  have q1:=r1.frozen 0
  have q2:=r1.frozen 1
  have q3:w1.cell? ⟨w.heap.size,0,none⟩=some (.int .i64 0):=r1.cell 0
  have q4:w1.cell? ⟨w.heap.size,1,none⟩=some (.slice none 0 0):=r1.cell 1
  clear hv1 hv0 hb1 r1 hqf
  go_wp2
  refine bodyPost_ret (resEvaluated (b:=w.heap.size) (n:=0) (q:=false) _ rfl rfl rfl _ (v0:=.int .i64 0) (v1:=.slice none 0 0) (by simp [go_sem,q3,q4,q0]) (by simp [go_sem,q3,q4,q0])) rfl ?_
  exact NO.out _ H1.out HQF.out
 ·have how:=hv1 rfl
  have hdv:=Ht.out.1 rfl
  obtain ⟨A2,c2,rfl,hc21,hc22,hs2⟩:=how.shape intC_length
  obtain ⟨hat0,hat1,hat2,hat3,hat4⟩:=(HPX.out _ (bch HB0.out.1 hb1)).at_
  obtain ⟨R,hR⟩:∃ r,plW (wsDb db) 8 p=r:=⟨_,rfl⟩
  have hwl:(wsDb db).length ≤ maxLen:=by unfold wsDb;rw [List.length_map];exact HDL.out
  have HPW:=Lib.hid (PlanWidth_ok p f (wsDb db) A2 c2 w1 R (HPX.out _ (bch HB0.out.1 hb1)).in_ hwl hs2.sl (by rw [widthP_okW (dbV_ws hdv)];exact hR))
  have HRR:=Lib.hid hR
  have HDV:=Lib.hid hdv
  unfold fpV at HPW
  clear hv1 hv0 how hc21 hc22 hs2 hR hwl hdv r1 hb1
  go_wp2_with fail
  refine HPW.out.mono ?_
  rintro e w2 ⟨rfl,hb2⟩
  have H2:=Lib.hid (bch H1.out hb2)
  clear hb2 hat0 hat1 hat2 hat3 hat4
  by_cases hR0:R=0
  ·have hqf:q=false:=by cases q;rfl;have h:=(Hq.out.1 rfl).2;rw [HRR.out] at h;exact absurd hR0 h
   have HQF:=Lib.hid hqf
   have r1:=HB0.out.2.on H2.out
   have q0:=r1.lt
   have q1:=r1.frozen 0
   have q2:=r1.frozen 1
   have q3:w2.cell? ⟨w.heap.size,0,none⟩=some (.int .i64 0):=r1.cell 0
   have q4:w2.cell? ⟨w.heap.size,1,none⟩=some (.slice none 0 0):=r1.cell 1
   have hRb:(R == 0)=true:=by simp [hR0]
   clear r1 hqf hR0
   go_wp2
   refine bodyPost_ret (resEvaluated (b:=w.heap.size) (n:=0) (q:=false) _ rfl rfl rfl _ (v0:=.int .i64 0) (v1:=.slice none 0 0) (by simp [go_sem,q3,q4,q0]) (by simp [go_sem,q3,q4,q0])) rfl ?_
   exact NO.out _ H2.out HQF.out
  ·have hRb:(R == 0)=false:=by simpa using hR0
   have hv:plW (wsDb db) 8 p ≠ 0:=by rw [HRR.out];exact hR0
   have hqt:q=true:=Hq.out.2 ⟨HDV.out,hv⟩
   subst hqt
   obtain ⟨cb,hcb⟩:∃ n,w2.heap.size=n:=⟨_,rfl⟩
   obtain ⟨W3,hW3⟩:∃ z,w2.alloc (.cells #[.int .i64 0] 3)=z:=⟨_,rfl⟩
   have b3:Below w2.heap.size w2 W3:=by rw [← hW3];exact balloc (Below.refl _ _) _
   have r3:Row W3 cb 3 [.int .i64 0]:=by rw [← hW3,← hcb];exact Row.new _ _ _
   have hco:=plCo_range HDV.out.2 8 p hv
   have hbb:=bch HB0.out.1 H2.out
   have hpx:=HPX.out _ hbb
   have HRES:=Lib.hid (result_ok p f b o db A c 8 cb w2.heap.size 0 W3 hpx.lt (fpAt_belowF hpx.at_ b3 hpx.lt) (plIn_below hpx.in_ b3) (dbIn_below (HDX.out _ hbb) b3) HDL.out HDV.out.2 hv (by omega) r3 (by omega) (by omega))
   have H3:=Lib.hid (And.intro b3 hcb)
   have HW3:=Lib.hid hW3
   have HHV:=Lib.hid hv
   clear hR0 hv b3 r3 hco hbb hpx hcb hW3
   go_upto_region 5 with fail
   rw [HW3.out,H3.out.2]
   go_wp2_with fail
   refine HRES.out.mono ?_
   rintro e w4 ⟨v,rfl,hot,hbut,hrc⟩
   obtain ⟨T,hT⟩:∃ t,plT db (8 + 1) p=t:=⟨_,rfl⟩
   obtain ⟨CO,hCO⟩:∃ t,0 + plCo db (8 + 1) p=t:=⟨_,rfl⟩
   rw [hT] at hot ⊢
   rw [hCO] at hrc
   obtain ⟨A9,c9,rfl,_,_,_⟩:=hot.read
   obtain ⟨V,hV⟩:∃ z,w4.alloc (.cells #[.int .i64 T.1,.slice A9 T.2.length c9] 32)=z:=⟨_,rfl⟩
   have bV:Below w4.heap.size w4 V:=by rw [← hV];exact balloc (Below.refl _ _) _
   obtain ⟨TB,hTB⟩:∃ n,w4.heap.size=n:=⟨_,rfl⟩
   have rv:Row V TB 32 [.int .i64 T.1,.slice A9 T.2.length c9]:=by rw [← hV,← hTB];exact Row.new _ _ _
   have hcbw:w.heap.size < cb ∧ cb < W3.heap.size:=by
    have h1:=H3.out.2
    have h2:=(HB0.out.2.on H2.out).lt
    refine ⟨by omega,?_⟩
    rw [← HW3.out];simp;omega
   have rr:Row V w.heap.size 32 [.int .i64 0,.slice none 0 0]:=(((HB0.out.2.on H2.out).on H3.out.1).only hbut (by omega)).on bV
   have rc:=hrc.on bV
   have HF:=Lib.hid (And.intro (owT_on hot bV) (And.intro hbut (And.intro bV (And.intro rr (And.intro hT (And.intro hCO hcbw))))))
   have KV:=Lib.hid (fun (z:World) (hz:Below V.heap.size V z)=>show (z.cell? ⟨cb,0,none⟩=some (.int .i64 CO) ∧ z.cell? ⟨TB,0,none⟩=some (.int .i64 T.1) ∧ z.cell? ⟨TB,1,none⟩=some (.slice A9 T.2.length c9)) from ⟨(rc.on hz).cell 0,(rv.on hz).cell 0,(rv.on hz).cell 1⟩)
   have HV:=Lib.hid (And.intro hV hTB)
   have HRC:=Lib.hid (And.intro rc rv)
   clear hot hbut hrc hV bV hTB rv rr rc hT hCO hcbw
   go_upto_region 6 with fail
   rw [HV.out.1,HV.out.2]
   obtain ⟨y0,hy0⟩:∃ z,V.drew=z:=⟨_,rfl⟩
   have By0:=Lib.hid (show Below V.heap.size V y0 from hy0 ▸ (Below.refl _ _).drew)
   have Hy0:=Lib.hid hy0
   clear hy0
   have f2:=HF.out.2.2.2.1.on By0.out
   have q0:=f2.lt
   have q1:=f2.frozen 0
   have q2:=f2.frozen 1
   have q3:y0.cell? ⟨w.heap.size,0,none⟩=some (.int .i64 0):=f2.cell 0
   have q4:y0.cell? ⟨w.heap.size,1,none⟩=some (.slice none 0 0):=f2.cell 1
   have HF2:=Lib.hid f2
   have KS:=Lib.hid (show (((y0.setCell ⟨w.heap.size,0,none⟩ (.int .i64 T.1)).setCell ⟨w.heap.size,1,none⟩ (.slice A9 T.2.length c9)).cell? ⟨cb,0,none⟩=some (.int .i64 CO) ∧ ((y0.setCell ⟨w.heap.size,0,none⟩ (.int .i64 T.1)).setCell ⟨w.heap.size,1,none⟩ (.slice A9 T.2.length c9)).cell? ⟨TB,0,none⟩=some (.int .i64 T.1) ∧ ((y0.setCell ⟨w.heap.size,0,none⟩ (.int .i64 T.1)).setCell ⟨w.heap.size,1,none⟩ (.slice A9 T.2.length c9)).cell? ⟨TB,1,none⟩=some (.slice A9 T.2.length c9)) from by
    have hzo:=onlyT y0 w.heap.size (.int .i64 T.1) (.slice A9 T.2.length c9)
    have k1:=(HRC.out.1.on By0.out).only hzo (by have:=HF.out.2.2.2.2.2.2;omega)
    have k2:=(HRC.out.2.on By0.out).only hzo (by have:=HF.out.2.2.2.2.2.2;have h1:=HV.out.2;have h2:=HF.out.2.1.size;omega)
    exact ⟨k1.cell 0,k2.cell 0,k2.cell 1⟩)
   clear f2
   refine wp_region_g 4 (fun z=>z.cell? ⟨cb,0,none⟩=some (.int .i64 CO) ∧ z.cell? ⟨TB,0,none⟩=some (.int .i64 T.1) ∧ z.cell? ⟨TB,1,none⟩=some (.slice A9 T.2.length c9)) (by kernel_rfl) ?_ (fun hHeld=>?_)
   ·exact KV.out _ (Below.refl _ _).drew
   rw [Hy0.out] at hHeld ⊢
   refine tkH (i:=0) rfl (by assumption) ?_
   try simp only [Act.put,sTA,sC0,sCS]
   refine tkH (i:=1) rfl (by assumption) ?_
   try simp only [Act.put,sTA,sC0,sCS]
   refine rdG (i:=2) (by kernel_rfl) rfl (fun K hK=>?_)
   go_simp
   refine hK.out _ _ ?hS3 (fun hHeld=>?_)
   case hS3=>exact fun _=>KS.out
   replace hHeld:=hHeld (by decide)
   clear hK K
   try simp only [Act.put,sTA,sC0,sCS]
   refine rdG (i:=3) (by kernel_rfl) rfl (fun K hK=>?_)
   go_simp
   refine hK.out _ _ ?hS4 (fun hHeld=>?_)
   case hS4=>exact fun _=>KS.out
   replace hHeld:=hHeld (by decide)
   clear hK K
   try simp only [Act.put,sTA,sC0,sCS]
   refine rdG (i:=4) (by kernel_rfl) rfl (fun K hK=>?_)
   go_simp
   refine hK.out _ _ ?hS5 (fun hHeld=>?_)
   case hS5=>exact fun h=>absurd rfl h
   clear hK K
   try simp only [Act.put,sTA,sC0,sCS]
   refine wpAnyG_done (by kernel_rfl) ?_ _
   go_wp2
   refine bodyPost_ret (resEvaluated (b:=w.heap.size) (n:=CO) (q:=true) _ rfl rfl rfl _ (v0:=.int .i64 T.1) (v1:=.slice A9 T.2.length c9) (by simp [go_sem,q3,q4,q0]) (by simp [go_sem,q3,q4,q0])) rfl ?_
   obtain ⟨hot,hbut,bV,rr,hT,hCO,hcbw⟩:=HF.out
   have hzo:=onlyT y0 w.heap.size (.int .i64 T.1) (.slice A9 T.2.length c9)
   refine ⟨T.1,CO,_,T.2,rfl,?_,fun _=>⟨by rw [hT],by rw [hT],by rw [← hCO];exact (Int.zero_add _).symm ▸ rfl⟩,fun h=>(by cases h),?_⟩
   ·exact owT_low (owT_only (owT_on hot By0.out) hzo fun k hk=>.inl (by rw [show k=w.heap.size from hk];omega)) (by omega)
   ·have k1:Only (fun k=>w.heap.size ≤ k) w W3:=only_below (bch HB0.out.1 (bch H2.out H3.out.1))
    have k2:Only (fun k=>w.heap.size ≤ k) W3 w4:=hbut.mono fun k _ hk=>by rw [show k=cb from hk];omega
    have k3:Only (fun k=>w.heap.size ≤ k) w4 y0:=only_below (bch bV By0.out)
    have k5:=((k1.trans k2).trans k3).trans (hzo.mono (T:=fun k=>w.heap.size ≤ k) fun k _ hk=>by rw [show k=w.heap.size from hk];exact Nat.le_refl _)
    exact k5.old fun k hk h=>by omega
def EpRes (db:List Tb) (p:Pl) (q:Bool) (w:World) (e:Ending) (w':World):Prop:=∃ (W1:Int) (v:Value) (rows:List Row1),e=.returned (.tuple #[.agg #[.int .i64 W1,v],.bool q]) ∧ OwT w.heap.size w' v rows ∧ (q=true → W1=(plT db 9 p).1 ∧ rows=(plT db 9 p).2) ∧ (q=false → W1=0 ∧ rows=[]) ∧ Below w.heap.size w w'
theorem resEvalPlan {b:Nat} {v0 v1:Value} {q:Bool} (tmps:Array Value) (hp:tmps.getD 4 undef=.pointer (some ⟨b,0,none⟩)) (hq:tmps.getD 5 undef=.bool q) (w:World) (c0:w.cell? ⟨b,0,none⟩=some v0) (c1:w.cell? ⟨b,1,none⟩=some v1) :
 (results Tryz.f10 tmps).run Tryz.prog w=.ok (.tuple #[.agg #[v0,v1],.bool q]) w:=by
 simp only [Array.getD_eq_getD_getElem?] at hp hq
 simp [results,Tryz.results10,go_sem,hp,hq,c0,c1]
set_option maxRecDepth 20000 in
set_option maxHeartbeats 4000000 in
theorem implEvalPlan_ok (p:Pl) (f:FP) (db:List Tb) (A:Option Addr) (c:Nat) (w:World) (h:PlIn w w.heap.size f p) (hdl:db.length ≤ maxLen) (hdb:DbIn w w.heap.size A db) (q:Bool) (hq:q=true ↔ DbV db ∧ plW (wsDb db) 8 p ≠ 0) :
 Calls Tryz.prog 10 #[fpV f,.slice A db.length c] w (EpRes db p q w):=by
 obtain ⟨W0,hW0⟩:∃ z,(w.alloc (.cells #[.int .i64 f.kind,.int .i64 f.table,.slice f.es.A f.es.n f.es.c,.slice f.cs.A f.cs.n f.cs.c,.slice f.ks.A f.ks.n f.ks.c] 38)).alloc (.cells #[.int .i64 0,.slice none 0 0] 32)=z:=⟨_,rfl⟩
 have B0:Below w.heap.size w W0:=by rw [← hW0];exact balloc (balloc (Below.refl _ _) _) _
 have r0:Row W0 w.heap.size 38 (fpC f):=by rw [← hW0];exact Row.first _ _ _ _
 have r1:Row W0 (w.heap.size + 1) 32 [.int .i64 0,.slice none 0 0]:=by rw [← hW0];exact Row.second _ _ _ _
 have hP:PcAt W0 w.heap.size 0 f p:=⟨r0.lt,⟨r0.cell 0,r0.cell 1,r0.cell 2,r0.cell 3,r0.cell 4⟩,h.on B0⟩
 have HE:=Lib.hid (evaluated_ok p f w.heap.size 0 db A c W0 hP hdl (dbIn_on hdb B0) q hq)
 have HW0:=Lib.hid hW0
 have H0:=Lib.hid (And.intro B0 r1)
 unfold fpV
 clear h hdb hq B0 r0 r1 hP hW0
 go_enter Tryz.func10,Tryz.ntmps10
 go_upto_region 1 with fail
 rw [HW0.out]
 go_wp2_with fail
 refine HE.out.mono ?_
 rintro e w1 ⟨W1,n,v,rows,rfl,hot,hq1,hq0,hb1⟩
 obtain ⟨A9,c9,rfl,_,_,_⟩:=hot.read
 obtain ⟨V,hV⟩:∃ z,w1.alloc (.cells #[.int .i64 W1,.slice A9 rows.length c9] 32)=z:=⟨_,rfl⟩
 have bV:Below w1.heap.size w1 V:=by rw [← hV];exact balloc (Below.refl _ _) _
 have rv:Row V w1.heap.size 32 [.int .i64 W1,.slice A9 rows.length c9]:=by rw [← hV];exact Row.new _ _ _
 have rr:=H0.out.2.on (bch hb1 bV)
 have q0:=rr.lt
 have q1:=rr.frozen 0
 have q2:=rr.frozen 1
 have q3:V.cell? ⟨w.heap.size + 1,0,none⟩=some (.int .i64 0):=rr.cell 0
 have q4:V.cell? ⟨w.heap.size + 1,1,none⟩=some (.slice none 0 0):=rr.cell 1
 have q5:V.cell? ⟨w1.heap.size,0,none⟩=some (.int .i64 W1):=rv.cell 0
 have q6:V.cell? ⟨w1.heap.size,1,none⟩=some (.slice A9 rows.length c9):=rv.cell 1
 have HF:=Lib.hid (And.intro (owT_on hot bV) (And.intro hq1 (And.intro hq0 (And.intro hb1 (And.intro bV rr)))))
 have HV:=Lib.hid hV
 clear hot hq1 hq0 hb1 hV bV rv rr
 go_upto_region 2 with fail
 rw [HV.out]
 go_wp2
 refine bodyPost_ret (resEvalPlan (b:=w.heap.size + 1) (q:=q) _ rfl rfl _ (v0:=.int .i64 W1) (v1:=.slice A9 rows.length c9) (by simp [go_sem,q3,q4,q0]) (by simp [go_sem,q3,q4,q0])) rfl ?_
 obtain ⟨hot,hq1,hq0,hb1,bV,rr⟩:=HF.out
 have hzo:=onlyT V (w.heap.size + 1) (.int .i64 W1) (.slice A9 rows.length c9)
 refine ⟨W1,_,rows,rfl,?_,fun h=>⟨(hq1 h).1,(hq1 h).2.1⟩,fun h=>⟨(hq0 h).1,(hq0 h).2.1⟩,belT (bch H0.out.1 (bch hb1 bV)) (by omega) _ _⟩
 exact owT_low (owT_only hot hzo fun k hk=>.inr (.inl (by rw [show k=w.heap.size + 1 from hk];exact rr.ty))) H0.out.1.size
end Go.Proofs.YtcbfbgngkdiijaaGreat
