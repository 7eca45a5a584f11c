import Derived.Test.YtcbfbgngkdiijaaGreatProg
import Derived.Test.YtcbfbgngkdiijaaGreatZvPln
import Derived.Test.YtcbfbgngkdiijaaGreatZvRwt
import Derived.Test.YtcbfbgngkdiijaaGreatZvCol
import Derived.Test.YtcbfbgngkdiijaaGreatZvGa
import Derived.Deep.RegionLaw
import Derived.StillTailTactics
set_option linter.unusedVariables false
set_option linter.unusedSimpArgs false
namespace Go.Proofs.YtcbfbgngkdiijaaGreat
open Go.RowKit Go.Qo

abbrev Key:=Int × Bool
def keyC (k:Key):List Value:=[.int .i64 k.1,.bool k.2]

theorem Key.at_ {w:World} {B:Nat} {A:Option Addr} {xs:List Key} (h:Sl 2 keyC w B A xs) {i:Nat} (hi:i < xs.length) :
 ∃ b off,A=some ⟨b,off,none⟩ ∧ b < B ∧ w.cell? ⟨b,off + i * 2,none⟩=some (.int .i64 xs[i].1) ∧ w.cell? ⟨b,off + i * 2 + 1,none⟩=some (.bool xs[i].2):=
 Sl.at2 (f:=fun k:Key=>.int .i64 k.1) (g:=fun k:Key=>.bool k.2) h hi

end Go.Proofs.YtcbfbgngkdiijaaGreat

namespace Go.Proofs.YtcbfbgngkdiijaaGreat
open Go.RowKit Go.Qo

end Go.Proofs.YtcbfbgngkdiijaaGreat

namespace Go.Proofs.YtcbfbgngkdiijaaGreat
open Go.RowKit Go.Qo

def Callable (f:FuncId):Prop:=∀ (args:Array Value) (w:World),(callFunc f args).run Tryz.prog w=.ok (.enter f args) w
theorem callable_of {f : FuncId} {fn : Func} (h : Tryz.prog.funcs[f]? = some fn) (hn : (fn.name == "runtime.NumGoroutine") = false) (hb : fn.body.isNone = false) : Callable f := by
 intro args w
 simp [callFunc,go_sem,h,hn,hb]
 rw [if_neg (by simpa using hn),if_neg (by intro h0;rw [h0] at hb;simp at hb)]
def IsCmp (w:World) (v:Value) (W:Int) (cmp:Row1 → Row1 → Int):Prop:=
 ∃ (f:FuncId) (cap:Array Value),v=.func (.func f) #[] cap ∧ Callable f ∧ ∀ z:World,Below w.heap.size w z → ∀ (A A':Option Addr) (c c':Nat) (a b:Row1),RowOk W a → RowOk W b → Sl 2 valC z z.heap.size A a → Sl 2 valC z z.heap.size A' b →
   Calls Tryz.prog f (#[.slice A a.length c,.slice A' b.length c'] ++ cap) z fun e w'=>e=.returned (.int .i64 (cmp a b)) ∧ Below z.heap.size z w'
theorem IsCmp.on {w w1:World} {v:Value} {W:Int} {cmp:Row1 → Row1 → Int} (h:IsCmp w v W cmp) (hb:Below w.heap.size w w1):IsCmp w1 v W cmp:=by
 obtain ⟨f,cap,hv,hf,hc⟩:=h
 exact ⟨f,cap,hv,hf,fun z hz=>hc z (bch hb hz)⟩

end Go.Proofs.YtcbfbgngkdiijaaGreat

namespace Go.Proofs.YtcbfbgngkdiijaaGreat
open Go.RowKit Go.Qo

end Go.Proofs.YtcbfbgngkdiijaaGreat

namespace Go.Proofs.YtcbfbgngkdiijaaGreat
open Go.RowKit Go.Qo

end Go.Proofs.YtcbfbgngkdiijaaGreat

namespace Go.Proofs.YtcbfbgngkdiijaaGreat
open Go.RowKit Go.Qo

theorem implNull_ok (w:World):Calls Tryz.prog 111 #[] w fun e w'=>e=.returned (.agg #[.bool true,.int .i64 0]) ∧ Below w.heap.size w w':=by
 go_enter Tryz.func111,Tryz.ntmps111
 go_wp2
 exact bodyPost_ret (v:=.agg #[.bool true,.int .i64 0]) (by simp [results,Tryz.results111,go_sem]) rfl ⟨rfl,balloc (Below.refl _ _) _⟩
theorem implNumber_ok (n:Int) (w:World):Calls Tryz.prog 117 #[.int .i64 n] w fun e w'=>e=.returned (.agg #[.bool false,.int .i64 n]) ∧ Below w.heap.size w w':=by
 go_enter Tryz.func117,Tryz.ntmps117
 go_wp2
 exact bodyPost_ret (v:=.agg #[.bool false,.int .i64 n]) (by simp [results,Tryz.results117,go_sem]) rfl ⟨rfl,balloc (Below.refl _ _) _⟩
set_option maxHeartbeats 1000000 in
theorem numberOrNull_ok (n:Int) (w:World):Calls Tryz.prog 138 #[.int .i64 n] w fun e w'=>e=.returned (vAgg (numV n)) ∧ Below w.heap.size w w':=by
 obtain ⟨r,hr⟩:∃ r,vValid (false,n)=r:=⟨_,rfl⟩
 have HN:=Lib.hid (fun z=>implNumber_ok n z)
 have HV:=Lib.hid (fun z=>implValid_ok (false,n) z r hr)
 have HU:=Lib.hid (fun z=>implNull_ok z)
 have hN:numV n=if r then (false,n) else (true,0):=by
  unfold numV
  rw [← hr]
  simp [vValid]
 have HNV:=Lib.hid hN
 have B0:=Lib.hid (balloc (Below.refl w.heap.size w) (.cells #[.bool false,.int .i64 0] 85))
 clear hN hr
 go_enter Tryz.func138,Tryz.ntmps138
 go_wp2_with fail
 refine (HN.out _).mono ?_
 rintro e w1 ⟨rfl,hb1⟩
 have hr1:=(Row.new w 85 #[.bool false,.int .i64 0]).on hb1
 have HB1:=Lib.hid (bch B0.out hb1)
 have HR1:=Lib.hid (hr1.alloc (.cells #[.bool false,.int .i64 n] 85))
 have HR2:=Lib.hid (Row.new w1 85 #[.bool false,.int .i64 n])
 clear hb1 hr1
 go_wp2_with fail
 refine (HV.out _).mono ?_
 rintro e w2 ⟨rfl,hb2⟩
 have r1:=HR1.out.on hb2
 have r2:=HR2.out.on hb2
 have HB2:=Lib.hid (bch (balloc HB1.out _) hb2)
 have HR3:=Lib.hid r1
 have q0:=r1.lt
 have q1:=r1.frozen 0
 have q2:=r1.frozen 1
 have q3:w2.cell? ⟨w.heap.size,0,none⟩=some (.bool false):=r1.cell 0
 have q4:w2.cell? ⟨w.heap.size,1,none⟩=some (.int .i64 0):=r1.cell 1
 have q5:w2.cell? ⟨w1.heap.size,0,none⟩=some (.bool false):=r2.cell 0
 have q6:w2.cell? ⟨w1.heap.size,1,none⟩=some (.int .i64 n):=r2.cell 1
 clear hb2 r1 r2
 cases r
 ·go_wp2_with fail
  refine (HU.out _).mono ?_
  rintro e w3 ⟨rfl,hb3⟩
  have r3:=HR3.out.on hb3
  have HB3:=Lib.hid (bch HB2.out hb3)
  clear q0 q1 q2 q3 q4 q5 q6 hb3
  have q0:=r3.lt
  have q1:=r3.frozen 0
  have q2:=r3.frozen 1
  have q3:w3.cell? ⟨w.heap.size,0,none⟩=some (.bool false):=r3.cell 0
  have q4:w3.cell? ⟨w.heap.size,1,none⟩=some (.int .i64 0):=r3.cell 1
  clear r3
  go_wp2
  exact bodyPost_ret (v:=.agg #[.bool true,.int .i64 0]) (by simp [results,Tryz.results138,go_sem,q0,q1,q2,q3,q4]) rfl ⟨(by rw [HNV.out];rfl),below_put HB3.out (Nat.le_refl _) _ _⟩
 ·go_wp2
  exact bodyPost_ret (v:=.agg #[.bool false,.int .i64 n]) (by simp [results,Tryz.results138,go_sem,q0,q1,q2,q3,q4]) rfl ⟨(by rw [HNV.out];rfl),below_put HB2.out (Nat.le_refl _) _ _⟩

end Go.Proofs.YtcbfbgngkdiijaaGreat

namespace Go.Proofs.YtcbfbgngkdiijaaGreat
open Go.RowKit Go.Qo

end Go.Proofs.YtcbfbgngkdiijaaGreat

namespace Go.Proofs.YtcbfbgngkdiijaaGreat
open Go.RowKit Go.Qo

end Go.Proofs.YtcbfbgngkdiijaaGreat
