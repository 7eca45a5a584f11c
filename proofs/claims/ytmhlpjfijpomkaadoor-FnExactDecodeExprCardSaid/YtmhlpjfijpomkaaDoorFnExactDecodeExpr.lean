/-
  The program's DecodeExpr returns what the reference's returns, for every text; no memory of the result is shared, and none is lost by a second call. (The tables of strconv and its two errors hold what the program's text lays.)
-/
import Derived.Test.YtmhlpjfijpomkaaDoorRows
import Derived.Test.YtmhlpjfijpomkaaDoorCards
import Derived.Test.YtmhlpjfijpomkaaDoorTie
import Derived.SevenTiedAt
import Derived.ChangeSame
import Derived.ChangeVars
import Derived.ChangeMaps
import Derived.JoinedOf
import Derived.JoinedAt
import Derived.LaidLaws
import Derived.Lib.LaidTab
import Derived.Stop.LaidErr
import Derived.Deep.DeepLaidRun
import Derived.Test.YtmhlpjfijpomkaaDoorDcV
import Derived.Test.YtmhlpjfijpomkaaDoorIxA
import Derived.Test.YtmhlpjfijpomkaaDoorEqX
import Derived.Test.YtmhlpjfijpomkaaDoorArg
import Derived.Test.YtmhlpjfijpomkaaDoorReg
namespace Go.Proofs.YtmhlpjfijpomkaaDoor
open Go.RowKit Go.Qo
set_option linter.unusedVariables false
set_option linter.unusedSimpArgs false

set_option maxRecDepth 20000 in
set_option maxHeartbeats 4000000 in
theorem FnExactDecodeExpr_walk (l : List UInt8) (w : World) (hs : (bArr l).size ≤ maxLen) (ht : T10 w.heap.size w) (hv : EvB w.heap.size w) :
    Calls Tryd.prog 5 #[.string (bArr l)] w fun e w' => e = .returned (.bool true) ∧ Below w.heap.size w w' := by
  obtain ⟨S, hS⟩ : ∃ S, bArr l = S := ⟨_, rfl⟩
  have hsz : S.size = l.length := by rw [← hS]; rfl
  by_cases hlen : (1048576 : Int) < (S.size : Int)
  · rw [hS]
    clear hs ht hv
    go_enter Tryd.func5, Tryd.ntmps5
    go_wp2
    go_ret
    exact ⟨rfl, Below.refl _ _⟩
  have hl : l.length ≤ 1048576 := by omega
  obtain ⟨x, b, hcnt, hbx, hSp, hIm⟩ := decode_both l hl (ix_all (by omega))
  rw [hS] at hSp hIm
  have HSp := Lib.hid hSp
  have HIm := Lib.hid hIm
  have HT := Lib.hid ht
  have HV := Lib.hid hv
  rw [hS]
  clear hSp hIm ht hv hbx hS hs hl
  go_enter Tryd.func5, Tryd.ntmps5
  go_wp2_with fail
  refine (HSp.out w).mono ?_
  rintro e w1 ⟨hb1, f, he, hx1⟩
  unfold feV at he
  subst he
  obtain ⟨W1, hW1⟩ : ∃ z, w1.alloc (.cells #[.int .i64 f.kind, .int .i64 f.col, .bool f.val.1, .int .i64 f.val.2, .slice f.sv.A f.sv.n f.sv.c] 32) = z := ⟨_, rfl⟩
  have bW1 : Below w1.heap.size w1 W1 := by rw [← hW1]; exact balloc (Below.refl _ _) _
  obtain ⟨n1, hn1⟩ : ∃ n, w1.heap.size = n := ⟨_, rfl⟩
  have rW1 : Row W1 n1 32 [.int .i64 f.kind, .int .i64 f.col, .bool f.val.1, .int .i64 f.val.2, .slice f.sv.A f.sv.n f.sv.c] := by rw [← hW1, ← hn1]; exact Row.new _ _ _
  have zW1 : W1.heap.size = n1 + 1 := by rw [← hW1, ← hn1]; simp
  have Hz := Lib.hid (And.intro hb1 (And.intro bW1 (And.intro hn1 zW1)))
  have HX1 := Lib.hid (show ExT (fun k => k < n1) W1 f x from (hx1.mono (T := fun k => k < n1) fun k hk _ => by omega).keep bW1.size fun k _ hl => bW1.block k hl)
  have HR1 := Lib.hid rW1
  have HW1 := Lib.hid hW1
  have HB1 := Lib.hid (bch hb1 bW1)
  have hwn1 : w.heap.size ≤ n1 := by have := hb1.size; omega
  have hzW1 := zW1
  have Hn1 := Lib.hid hn1
  clear hx1 rW1 hW1 hb1 bW1 zW1 hn1
  go_upto_region 4 with fail
  rw [HW1.out, Hn1.out]
  have lowS := HB1.out.size
  go_wp2_with fail
  refine (HIm.out w.heap.size W1 (HT.out.on HB1.out) (HV.out.on HB1.out) lowS).mono ?_
  rintro e w2 ⟨hb2, g, he, hx2⟩
  unfold feV at he
  subst he
  obtain ⟨W2, hW2⟩ : ∃ z, w2.alloc (.cells #[.int .i64 g.kind, .int .i64 g.col, .bool g.val.1, .int .i64 g.val.2, .slice g.sv.A g.sv.n g.sv.c] 32) = z := ⟨_, rfl⟩
  have bW2 : Below w2.heap.size w2 W2 := by rw [← hW2]; exact balloc (Below.refl _ _) _
  obtain ⟨n2, hn2⟩ : ∃ n, w2.heap.size = n := ⟨_, rfl⟩
  have rW2 : Row W2 n2 32 [.int .i64 g.kind, .int .i64 g.col, .bool g.val.1, .int .i64 g.val.2, .slice g.sv.A g.sv.n g.sv.c] := by rw [← hW2, ← hn2]; exact Row.new _ _ _
  have zW2 : W2.heap.size = n2 + 1 := by rw [← hW2, ← hn2]; simp
  have hn12 : n1 < n2 := by have := hb2.size; omega
  have HX2 := Lib.hid (show ExW 32 W2 (fun k => n1 < k ∧ k < n2) g x from (hx2.mono (T := fun k => n1 < k ∧ k < n2) fun k hk h => ⟨by omega, by omega⟩).keep bW2.size fun k _ hl => bW2.block k hl)
  have HB2 := Lib.hid (bch HB1.out (bch hb2 bW2))
  have HX12 := Lib.hid (show ExT (fun k => k < n1) W2 f x from HX1.out.keep (bch hb2 bW2).size fun k _ hl => (bch hb2 bW2).block k hl)
  have HR12 := Lib.hid (HR1.out.on (bch hb2 bW2))
  have HR2 := Lib.hid rW2
  have HW2 := Lib.hid hW2
  have Hn2 := Lib.hid hn2
  have hzW2 := zW2
  clear hx2 rW2 hW2 hb2 bW2 zW2 hn2
  go_upto_region 5 with fail
  rw [HW2.out, Hn2.out]
  have c0 := HR12.out.cell 0
  have c1 := HR12.out.cell 1
  have c2 := HR12.out.cell 2
  have c3 := HR12.out.cell 3
  have c4 := HR12.out.cell 4
  have cl := HR12.out.lt
  have d0 := HR2.out.cell 0
  have d1 := HR2.out.cell 1
  have d2 := HR2.out.cell 2
  have d3 := HR2.out.cell 3
  have d4 := HR2.out.cell 4
  have dl := HR2.out.lt
  have HQ := Lib.hid (eqExpr_ok x g f W2 HX2.out.in_ HX12.out.in_)
  unfold feV at HQ
  go_wp2_with fail
  refine HQ.out.mono ?_
  rintro e w3 ⟨rfl, hb3⟩
  have HB3 := Lib.hid hb3
  clear c0 c1 c2 c3 c4 cl d0 d1 d2 d3 d4 dl
  clear hb3
  have HR23 := Lib.hid (HR2.out.on HB3.out)
  have HX23 := Lib.hid (show ExW 32 w3 (fun k => n1 < k ∧ k < n2) g x from HX2.out.keep HB3.out.size fun k _ hl => HB3.out.block k hl)
  have d0 := HR23.out.cell 0
  have d1 := HR23.out.cell 1
  have d2 := HR23.out.cell 2
  have d3 := HR23.out.cell 3
  have d4 := HR23.out.cell 4
  have dl := HR23.out.lt
  have HM := Lib.hid (markExpr_ok x g (fun k => n1 < k ∧ k < n2) 1 w3 HX23.out (by omega) (by omega))
  unfold feV at HM
  obtain ⟨mk, hmk⟩ : ∃ mk, (1 : Int) + 4 * ((x.kids.length : Int) + (exKids x.kids : Int)) = mk := ⟨_, rfl⟩
  have hmk0 : ¬ mk < 0 := by omega
  rw [hmk] at HM
  have Hmk := Lib.hid hmk
  clear hmk
  go_wp2_with fail
  refine HM.out.mono ?_
  rintro e w4 ⟨rfl, hx4, ho4⟩
  clear d0 d1 d2 d3 d4 dl
  have HX4 := Lib.hid (show ExIn w4 w4.heap.size g (reTop 1 x) from hx4.in_)
  have HR24 := Lib.hid (HR23.out.only ho4 (by omega))
  have HR14 := Lib.hid ((HR12.out.on HB3.out).only ho4 (by omega))
  have HX14 := Lib.hid (show ExT (fun k => k < n1) w4 f x from (HX12.out.keep HB3.out.size fun k _ hl => HB3.out.block k hl).keep ho4.size fun k hk hl => ho4.block k hl (by omega))
  have hB4 := Only.from_ (bch HB2.out HB3.out) rfl ho4 (fun k hk => by omega)
  have HB4 := Lib.hid hB4
  have hsz4 := hB4.size
  clear hx4 ho4 hB4
  have d0 := HR24.out.cell 0
  have d1 := HR24.out.cell 1
  have d2 := HR24.out.cell 2
  have d3 := HR24.out.cell 3
  have d4 := HR24.out.cell 4
  have dl := HR24.out.lt
  have HBx := Lib.hid (show ExB x from exB_of_cnt x (by rw [exCnt_eq]; omega))
  have HH := Lib.hid (fun (z : World) (hz : Below w4.heap.size w4 z) => heldExpr_ok x g 1 z (HX4.out.on hz) HBx.out (by omega) (by omega))
  rw [Hmk.out] at HH
  unfold feV at HH
  go_wp2_with fail
  refine (HH.out w4 (Below.refl _ _)).mono ?_
  rintro e w5 ⟨rfl, hb5⟩
  clear d0 d1 d2 d3 d4 dl
  have HB5 := Lib.hid hb5
  have lowS5 := (bch HB4.out hb5).size
  clear hb5
  go_wp2_with fail
  refine (HIm.out w.heap.size w5 (HT.out.on (bch HB4.out HB5.out)) (HV.out.on (bch HB4.out HB5.out)) lowS5).mono ?_
  rintro e w6 ⟨hb6, k, he, hx6⟩
  unfold feV at he
  subst he
  obtain ⟨W6, hW6⟩ : ∃ z, w6.alloc (.cells #[.int .i64 k.kind, .int .i64 k.col, .bool k.val.1, .int .i64 k.val.2, .slice k.sv.A k.sv.n k.sv.c] 32) = z := ⟨_, rfl⟩
  have bW6 : Below w6.heap.size w6 W6 := by rw [← hW6]; exact balloc (Below.refl _ _) _
  obtain ⟨n6, hn6⟩ : ∃ n, w6.heap.size = n := ⟨_, rfl⟩
  have rW6 : Row W6 n6 32 [.int .i64 k.kind, .int .i64 k.col, .bool k.val.1, .int .i64 k.val.2, .slice k.sv.A k.sv.n k.sv.c] := by rw [← hW6, ← hn6]; exact Row.new _ _ _
  have zW6 : W6.heap.size = n6 + 1 := by rw [← hW6, ← hn6]; simp
  have HB6 := Lib.hid (bch HB5.out (bch hb6 bW6))
  have HX6 := Lib.hid (show ExIn W6 W6.heap.size k x from hx6.in_.on bW6)
  have HX16 := Lib.hid (show ExIn W6 W6.heap.size f x from HX14.out.in_.on HB6.out)
  have HR16 := Lib.hid (HR14.out.on HB6.out)
  have HR26 := Lib.hid (HR24.out.on HB6.out)
  have HR6 := Lib.hid rW6
  have HW6 := Lib.hid hW6
  have Hn6 := Lib.hid hn6
  clear hx6 rW6 hW6 hb6 bW6 zW6 hn6
  go_upto_region 16 with fail
  rw [HW6.out, Hn6.out]
  have c0 := HR16.out.cell 0
  have c1 := HR16.out.cell 1
  have c2 := HR16.out.cell 2
  have c3 := HR16.out.cell 3
  have c4 := HR16.out.cell 4
  have cl := HR16.out.lt
  have e0 := HR6.out.cell 0
  have e1 := HR6.out.cell 1
  have e2 := HR6.out.cell 2
  have e3 := HR6.out.cell 3
  have e4 := HR6.out.cell 4
  have el := HR6.out.lt
  have HQ6 := Lib.hid (eqExpr_ok x k f W6 HX6.out HX16.out)
  unfold feV at HQ6
  go_wp2_with fail
  refine HQ6.out.mono ?_
  rintro e w7 ⟨rfl, hb7⟩
  clear c0 c1 c2 c3 c4 cl e0 e1 e2 e3 e4 el
  have HB7 := Lib.hid (bch HB6.out hb7)
  have HR27 := Lib.hid (HR26.out.on hb7)
  clear hb7
  have d0 := HR27.out.cell 0
  have d1 := HR27.out.cell 1
  have d2 := HR27.out.cell 2
  have d3 := HR27.out.cell 3
  have d4 := HR27.out.cell 4
  have dl := HR27.out.lt
  go_wp2_with fail
  refine (HH.out w7 HB7.out).mono ?_
  rintro e w8 ⟨rfl, hb8⟩
  clear d0 d1 d2 d3 d4 dl
  go_wp2
  go_ret
  exact ⟨rfl, bch HB4.out (bch HB7.out hb8)⟩

namespace lawFnExactDecodeExpr
open Go.ChangeShapes Go.WideShapes Go.ChangeAt
theorem own : ownKnob Tryd.prog.godebug = none := by kernel_rfl
theorem laidOut : laidOutB Tryd.prog = true := by kernel_rfl

/-- So many blocks has the settled world. -/
noncomputable def low : Nat := (World.holding Tryd.prog default ⟨#[], #[], []⟩).heap.size
abbrev synS : ByteArray := { data := #[105, 110, 118, 97, 108, 105, 100, 32, 115, 121, 110, 116, 97, 120] }
abbrev rngS : ByteArray := { data := #[118, 97, 108, 117, 101, 32, 111, 117, 116, 32, 111, 102, 32, 114, 97, 110, 103, 101] }
/-- One start that fits: the settled world with two blocks more (two errors), the three tables and the two errors as their initialisers lay them. -/
noncomputable def laidWorld (os : Os) : World :=
  let w0 := World.holding Tryd.prog os ⟨#[.cells #[.string synS] 177, .cells #[.string rngS] 177], #[], []⟩
  let put (h : Array Obj) (g : Nat) (cs : Array Value) : Array Obj := h.modify g fun
    | .cells _ t frozen => .cells cs t frozen
    | o => o
  let h1 := put w0.heap 0 (Lib.pow10Tab.map fun z => Value.int .u64 z).toArray
  let h2 := put h1 4 #[.int .u8 0, .int .u8 1, .int .u8 28, .int .u8 2, .int .u8 29, .int .u8 14, .int .u8 24, .int .u8 3, .int .u8 30, .int .u8 22, .int .u8 20, .int .u8 15, .int .u8 25, .int .u8 17, .int .u8 4, .int .u8 8, .int .u8 31, .int .u8 27, .int .u8 13, .int .u8 23, .int .u8 21, .int .u8 19, .int .u8 16, .int .u8 7, .int .u8 26, .int .u8 12, .int .u8 18, .int .u8 6, .int .u8 11, .int .u8 5, .int .u8 10, .int .u8 9]
  let h3 := put h2 5 #[.int .u8 0, .int .u8 1, .int .u8 56, .int .u8 2, .int .u8 57, .int .u8 49, .int .u8 28, .int .u8 3, .int .u8 61, .int .u8 58, .int .u8 42, .int .u8 50, .int .u8 38, .int .u8 29, .int .u8 17, .int .u8 4, .int .u8 62, .int .u8 47, .int .u8 59, .int .u8 36, .int .u8 45, .int .u8 43, .int .u8 51, .int .u8 22, .int .u8 53, .int .u8 39, .int .u8 33, .int .u8 30, .int .u8 24, .int .u8 18, .int .u8 12, .int .u8 5, .int .u8 63, .int .u8 55, .int .u8 48, .int .u8 27, .int .u8 60, .int .u8 41, .int .u8 37, .int .u8 16, .int .u8 46, .int .u8 35, .int .u8 44, .int .u8 21, .int .u8 52, .int .u8 32, .int .u8 23, .int .u8 11, .int .u8 54, .int .u8 26, .int .u8 40, .int .u8 15, .int .u8 34, .int .u8 20, .int .u8 31, .int .u8 10, .int .u8 25, .int .u8 14, .int .u8 19, .int .u8 9, .int .u8 13, .int .u8 8, .int .u8 7, .int .u8 6]
  let h4 := put h3 1 #[.iface 175 (.pointer (some ⟨low, 0, none⟩))]
  let h5 := put h4 2 #[.iface 175 (.pointer (some ⟨low + 1, 0, none⟩))]
  { w0 with heap := h5 }
theorem laidWorld_met (os : Os) (args : Array Value) : laidMet Tryd.prog Rows.fnExactDecodeExprRow.laid ((laidWorld os).forCall (fun _ _ => 0) ⟨#[], args, []⟩).memory :=
  laidMet_of_run3 8 (by kernel_rfl) (by kernel_rfl) (by kernel_rfl)
theorem gTab : Tryd.prog.globalNamed "internal/strconv.uint64pow10" = some 0 := by kernel_rfl
theorem gTabType : (Tryd.prog.globals[0]?).map (·.type) = some 162 := by kernel_rfl
theorem tab {W : World} (h : laidMet Tryd.prog Rows.fnExactDecodeExprRow.laid W) : T10 W.heap.size W := by
  have h1 := h.tail.tail
  exact Lib.tabBelow_of_tabIs (Lib.tabIs_of_head gTab gTabType Tryd.underlying162 Tryd.underlying135 (by kernel_rfl) (by kernel_rfl) h1)
theorem star : "*" ++ "errors.errorString" = "*errors.errorString" := by decide
theorem rowErr (u : TypeId) (h : Tryd.prog.typeName? 3 u = some "*errors.errorString") : u = 175 :=
  typeName_ptr_named (nm := "errors.errorString") (by rw [star]; kernel_rfl) (by kernel_rfl) (by decide) u (by rw [star]; exact h)
theorem gSyn : Tryd.prog.globalNamed "strconv.ErrSyntax" = some 1 := by kernel_rfl
theorem gRng : Tryd.prog.globalNamed "strconv.ErrRange" = some 2 := by kernel_rfl
theorem gSynType : (Tryd.prog.globals[1]?).map (·.type) = some 129 := by kernel_rfl
theorem gRngType : (Tryd.prog.globals[2]?).map (·.type) = some 129 := by kernel_rfl
theorem evb {W : World} (h : laidMet Tryd.prog Rows.fnExactDecodeExprRow.laid W) : EvB W.heap.size W := by
  have h1 := h.tail.tail.tail
  obtain ⟨a0, s0, hv0, _⟩ := laid_sentinel h1 gRng gRngType Tryd.underlying129 rowErr Tryd.underlying175 Tryd.underlying177 rfl rfl Tryd.underlying9 (by kernel_rfl) (by kernel_rfl)
  obtain ⟨a1, s1, hv1, _⟩ := laid_sentinel h1.tail gSyn gSynType Tryd.underlying129 rowErr Tryd.underlying175 Tryd.underlying177 rfl rfl Tryd.underlying9 (by kernel_rfl) (by kernel_rfl)
  have k0 : W.cell? ⟨2, 0, none⟩ = some (.iface 175 (.pointer (some a0))) := by simpa using World.var?_cell gRng hv0 0
  have k1 : W.cell? ⟨1, 0, none⟩ = some (.iface 175 (.pointer (some a1))) := by simpa using World.var?_cell gSyn hv1 0
  intro z hz
  exact ⟨⟨_, _, (hz.cell (World.block_lt_of_cell? _ _ k1)).trans k1⟩, _, _, (hz.cell (World.block_lt_of_cell? _ _ k0)).trans k0⟩

set_option maxRecDepth 100000 in
theorem lifted (os : Os) (started : os.Started) (H : Type) (enc : TypeId × Value → H) :
    ReturnsInHanded {} Tryd.checked os 5 .any (fun w args => (Rows.fnExactDecodeExprSpec.pre enc Tryd.prog Tryd.f5 Rows.fnExactDecodeExprRow.domain false w args ∧ laidMet Tryd.prog Rows.fnExactDecodeExprRow.laid w) ∧ sizedMet enc Tryd.prog Tryd.f5 (OpenSpec.ofChange Rows.fnExactDecodeExprSpec) false w args)
      (Rows.fnExactDecodeExprSpec.post enc Tryd.prog Tryd.f5 false true false false) := by
  refine returnsInHanded_of_change_and (C := Tryd.checked) (X := fun w _ => laidMet Tryd.prog Rows.fnExactDecodeExprRow.laid w) (fun _ _ _ hh h => h.of_heap hh) own started (by kernel_rfl) Tryd.func5
    (ChangeSpec.witness_at (enc := enc) (C := Tryd.checked) (os := os) (X := fun w _ => laidMet Tryd.prog Rows.fnExactDecodeExprRow.laid w) false (laidWorld os) #[.string ⟨#[]⟩] 8 rfl (by kernel_rfl) (by kernel_rfl) (by kernel_rfl) (by kernel_rfl) (by kernel_rfl) (laidWorld_met os _)) ?_
  intro W base args ds gs before hval0 hW hcnd hsz0 hL _
  have hval : ∀ (j : Nat) t v, Tryd.f5.params[j]? = some t → args[j]? = some v → Value.okWide Tryd.prog W .any base t v := hval0
  have hW' := hW
  obtain ⟨p, q, hA0, hV, rfl, hfz, hnd⟩ := hW
  have hA : DataW.TrodAll enc Tryd.prog W 0 (fun _ => true) true Tryd.f5.params.toList args.toList ds p := hA0
  rw [Tryd.params5] at hA hval
  obtain ⟨v0, vs0, d0, ds0, p0, q0, hargs, rfl, rfl, h0, r0⟩ := trodAll_cons hA
  obtain ⟨rfl, rfl, rfl⟩ := trodAll_nil r0
  obtain rfl : args = #[v0] := by cases args; simp_all
  obtain ⟨rfl, rfl⟩ := trodVars_none hV
  have k0 := h0
  have lt0 : ∀ x ∈ p0, x.block < W.heap.size := by obtain ⟨m, hm⟩ := k0; exact DataW.trod_lt m _ _ _ hm
  obtain ⟨s0, rfl, rfl, rfl, ws0⟩ := Go.ChangeMaps.open_string Tryd.underlying9 (hval 0 9 v0 rfl rfl) h0
  clear hA0 hval0
  refine (FnExactDecodeExpr_walk s0.data.toList W ws0 (tab hL) (evb hL)).mono fun e W' ⟨he, bel⟩ => ?_
  subst he
  exact ⟨_, rfl, _, _, _, [], _, [], hW', trodAll_mk1 (shut_bool Tryd.underlying4 _), (trodAll_cons_mk (Below.trod laidOut (by kernel_rfl) (of_decide_eq_true (by kernel_rfl)) k0 bel lt0) trodAll_mk0), rfl, bel.frame _, fun h => by cases h⟩

theorem over : Rows.fnExactDecodeExprRow.holds Tryd.pinned (OpenSpec.ofChange Rows.fnExactDecodeExprSpec) :=
  OpenClaim.holds_of_wide 5 Tryd.f5 rfl rfl rfl rfl rfl rfl rfl ⟨rfl, rfl, rfl, rfl, rfl⟩ rfl rfl rfl rfl rfl (by kernel_rfl) Tryd.func5 (by kernel_rfl)
    (of_decide_eq_true (by kernel_rfl)) (by unfold Func.isWrapper; first | (rw [if_pos (by decide +kernel)]; kernel_rfl) | (rw [if_neg (by decide +kernel)]; exact ⟨rfl, rfl⟩))
    (fun os started H enc _ => lifted os started H enc)

theorem proved : Rows.FnExactDecodeExprCardSaid :=
  Claim7.holds_tied_plain_at .later [] Rows.fnExactDecodeExprCard.laidKinds true Rows.fnExactDecodeExprCard.stood.harness true
    over (fun _ h => by cases h) (by kernel_rfl) (fun _ h => by cases h) fnExactDecodeExpr_row_tie rfl ⟨rfl, rfl⟩ (by kernel_rfl) rfl
    (fun f fn hf hfn => by
      obtain rfl : f = 5 := Option.some.inj ((show Tryd.prog.funcNamed "loop.example/queryoptimizer/laws.FnExactDecodeExpr" = some 5 by kernel_rfl).symm.trans hf) |>.symm
      obtain rfl : fn = Tryd.f5 := (Option.some.inj (Tryd.func5.symm.trans hfn)).symm
      exact ⟨by kernel_rfl, fun j t ht => by
        rw [Tryd.params5] at ht
        have h3 : t = 9 := by
          rcases j with _ | j
          · simpa using ht.symm
          · simp at ht
        subst h3
        exact (show Tryd.prog.wantsStandIn 9 = false by kernel_rfl)⟩)
    (by kernel_rfl)
end lawFnExactDecodeExpr
#print axioms lawFnExactDecodeExpr.proved
end Go.Proofs.YtmhlpjfijpomkaaDoor
