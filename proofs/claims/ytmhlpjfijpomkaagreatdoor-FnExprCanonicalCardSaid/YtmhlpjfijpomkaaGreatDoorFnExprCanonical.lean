/-
  What is decoded is encoded as the text that it was read from, for all codes; both decoders agree. (The tables of strconv and its two errors hold what the program's text lays.)
-/
import Derived.Test.YtmhlpjfijpomkaaGreatDoorRows
import Derived.Test.YtmhlpjfijpomkaaGreatDoorCards
import Derived.Test.YtmhlpjfijpomkaaGreatDoorTie
import Derived.SevenTiedAt
import Derived.ChangeSame
import Derived.ChangeVars
import Derived.JoinedOf
import Derived.JoinedAt
import Derived.LaidLaws
import Derived.Lib.LaidTab
import Derived.Stop.LaidErr
import Derived.Deep.DeepLaidRun
import Derived.Test.YtmhlpjfijpomkaaGreatDoorDrM
import Derived.Test.YtmhlpjfijpomkaaGreatDoorDcV
import Derived.Test.YtmhlpjfijpomkaaGreatDoorIxA
import Derived.Test.YtmhlpjfijpomkaaGreatDoorArg
import Derived.Test.YtmhlpjfijpomkaaGreatDoorArgB
import Derived.Test.YtmhlpjfijpomkaaGreatDoorReg
namespace Go.Proofs.YtmhlpjfijpomkaaGreatDoor
open Go.RowKit Go.Qo
set_option linter.unusedVariables false
set_option linter.unusedSimpArgs false

set_option maxRecDepth 20000 in
set_option maxHeartbeats 4000000 in
theorem FnExprCanonical_walk (A : Option Addr) (c : Nat) (xs : List Int) (w : World) (hn : xs.length ≤ c) (hc : c ≤ maxLen) (hg : ∀ x ∈ xs, 0 ≤ x ∧ x ≤ 255) (hs : Sl 1 byteC w w.heap.size A xs) (ht : T10 w.heap.size w) (hv : EvB w.heap.size w) :
    Calls Tryz.prog 4 #[.slice A xs.length c] w fun e w' => e = .returned (.bool true) ∧ Below w.heap.size w w' := by
  by_cases hlen : (1048576 : Int) < (xs.length : Int)
  · clear hs hg
    go_enter Tryz.func4, Tryz.ntmps4
    go_wp2
    go_ret
    exact ⟨rfl, Below.refl _ _⟩
  have HD := Lib.hid (drawDecodeExpr_ok A c xs w hn hc hg hs)
  have HT := Lib.hid ht
  have HV := Lib.hid hv
  clear hs hg hn hc ht hv
  go_enter Tryz.func4, Tryz.ntmps4
  go_wp2_with fail
  refine HD.out.mono ?_
  rintro e w1 ⟨S, rfl, hS, hb1⟩
  obtain ⟨l, hl⟩ : ∃ l, bArr l = S := ⟨S.data.toList, rfl⟩
  have hll : l.length ≤ 10000 := by rw [← hl] at hS; exact hS
  obtain ⟨x, b, hcnt, hbx, hSp, hIm⟩ := decode_both l (by omega) (ix_all (by omega))
  rw [hl] at hSp hIm
  have HSp := Lib.hid hSp
  have HIm := Lib.hid hIm
  have HB1 := Lib.hid hb1
  have Hl := Lib.hid hl
  have Hbx := Lib.hid hbx
  have lowS := hb1.size
  clear hSp hIm hbx hl hb1 hcnt
  go_wp2_with fail
  refine (HIm.out w.heap.size w1 (HT.out.on HB1.out) (HV.out.on HB1.out) lowS).mono ?_
  rintro e w2 ⟨hb2, g, he, hx2⟩
  unfold feV at he
  subst he
  obtain ⟨W2, hW2⟩ : ∃ z, w2.alloc (.cells #[.int .i64 g.kind, .int .i64 g.col, .bool g.val.1, .int .i64 g.val.2, .slice g.sv.A g.sv.n g.sv.c] 40) = z := ⟨_, rfl⟩
  have bW2 : Below w2.heap.size w2 W2 := by rw [← hW2]; exact balloc (Below.refl _ _) _
  obtain ⟨n2, hn2⟩ : ∃ n, w2.heap.size = n := ⟨_, rfl⟩
  have rW2 : Row W2 n2 40 [.int .i64 g.kind, .int .i64 g.col, .bool g.val.1, .int .i64 g.val.2, .slice g.sv.A g.sv.n g.sv.c] := by rw [← hW2, ← hn2]; exact Row.new _ _ _
  have HB2 := Lib.hid (bch HB1.out (bch hb2 bW2))
  have HX2 := Lib.hid (show ExIn W2 W2.heap.size g x from hx2.in_.on bW2)
  have HR2 := Lib.hid rW2
  have HW2 := Lib.hid hW2
  have Hn2 := Lib.hid hn2
  clear hx2 rW2 hW2 hb2 bW2 hn2
  go_upto_region 5 with fail
  rw [HW2.out, Hn2.out]
  go_wp2_with fail
  refine (HSp.out W2).mono ?_
  rintro e w3 ⟨hb3, f, he, hx3⟩
  unfold feV at he
  subst he
  obtain ⟨W3, hW3⟩ : ∃ z, w3.alloc (.cells #[.int .i64 f.kind, .int .i64 f.col, .bool f.val.1, .int .i64 f.val.2, .slice f.sv.A f.sv.n f.sv.c] 40) = z := ⟨_, rfl⟩
  have bW3 : Below w3.heap.size w3 W3 := by rw [← hW3]; exact balloc (Below.refl _ _) _
  obtain ⟨n3, hn3⟩ : ∃ n, w3.heap.size = n := ⟨_, rfl⟩
  have rW3 : Row W3 n3 40 [.int .i64 f.kind, .int .i64 f.col, .bool f.val.1, .int .i64 f.val.2, .slice f.sv.A f.sv.n f.sv.c] := by rw [← hW3, ← hn3]; exact Row.new _ _ _
  have HB3 := Lib.hid (bch HB2.out (bch hb3 bW3))
  have HX3 := Lib.hid (show ExIn W3 W3.heap.size f x from hx3.in_.on bW3)
  have HX23 := Lib.hid (show ExIn W3 W3.heap.size g x from HX2.out.on (bch hb3 bW3))
  have HR23 := Lib.hid (HR2.out.on (bch hb3 bW3))
  have HR3 := Lib.hid rW3
  have HW3 := Lib.hid hW3
  have Hn3 := Lib.hid hn3
  clear hx3 rW3 hW3 hb3 bW3 hn3
  have HE := Lib.hid (fun (z : World) (hz : Below W3.heap.size W3 z) => equalExprs_ok x g f z (HX23.out.on hz) (HX3.out.on hz))
  have IE := Lib.hid (fun (z : World) (hz : Below W3.heap.size W3 z) (hx : ExOk 6 8 x) => implEncodeExpr_ok x g w.heap.size z (exText x) (HX23.out.on hz) (HT.out.on ((HB3.out.trans (hz.mono HB3.out.size)))) (Nat.le_trans HB3.out.size hz.size) (fun _ => rfl) (fun h => absurd hx h))
  have VE := Lib.hid (fun (z : World) (hz : Below W3.heap.size W3 z) (hx : ExOk 6 8 x) => implValidExpr_ok x g 6 z true (HX23.out.on hz) (by simp [hx]))
  unfold feV at HE IE VE
  go_upto_region 6 with fail
  rw [HW3.out, Hn3.out]
  have c0 := HR3.out.cell 0
  have c1 := HR3.out.cell 1
  have c2 := HR3.out.cell 2
  have c3 := HR3.out.cell 3
  have c4 := HR3.out.cell 4
  have cl := HR3.out.lt
  have d0 := HR23.out.cell 0
  have d1 := HR23.out.cell 1
  have d2 := HR23.out.cell 2
  have d3 := HR23.out.cell 3
  have d4 := HR23.out.cell 4
  have dl := HR23.out.lt
  go_wp2_with fail
  refine (HE.out W3 (Below.refl _ _)).mono ?_
  rintro e w4 ⟨rfl, hb4⟩
  have HB4 := Lib.hid hb4
  clear c0 c1 c2 c3 c4 cl d0 d1 d2 d3 d4 dl
  clear hb4
  have HR34 := Lib.hid (HR3.out.on HB4.out)
  have HR24 := Lib.hid (HR23.out.on HB4.out)
  cases b with
  | false =>
    have c0 := HR34.out.cell 0
    have c1 := HR34.out.cell 1
    have c2 := HR34.out.cell 2
    have c3 := HR34.out.cell 3
    have c4 := HR34.out.cell 4
    have cl := HR34.out.lt
    have d0 := HR24.out.cell 0
    have d1 := HR24.out.cell 1
    have d2 := HR24.out.cell 2
    have d3 := HR24.out.cell 3
    have d4 := HR24.out.cell 4
    have dl := HR24.out.lt
    go_wp2_with fail
    refine (HE.out w4 HB4.out).mono ?_
    rintro e w5 ⟨rfl, hb5⟩
    go_wp2
    go_ret
    exact ⟨rfl, bch HB3.out (bch HB4.out hb5)⟩
  | true =>
    obtain ⟨hok, htx⟩ := Hbx.out.1 rfl
    have IE2 := fun (z : World) (hz : Below W3.heap.size W3 z) => IE.out z hz hok
    rw [htx, Hl.out] at IE2
    have HI := Lib.hid IE2
    have VE2 := Lib.hid (fun (z : World) (hz : Below W3.heap.size W3 z) => VE.out z hz hok)
    have hnn : (S.toList == S.toList) = true := by simp
    clear hok htx IE2
    have d0 := HR24.out.cell 0
    have d1 := HR24.out.cell 1
    have d2 := HR24.out.cell 2
    have d3 := HR24.out.cell 3
    have d4 := HR24.out.cell 4
    have dl := HR24.out.lt
    go_wp2_with fail
    refine (HI.out w4 HB4.out).mono ?_
    rintro e w5 ⟨rfl, hb5⟩
    clear d0 d1 d2 d3 d4 dl
    have HB5 := Lib.hid (bch HB4.out hb5)
    have HR25 := Lib.hid (HR24.out.on hb5)
    clear hb5
    have d0 := HR25.out.cell 0
    have d1 := HR25.out.cell 1
    have d2 := HR25.out.cell 2
    have d3 := HR25.out.cell 3
    have d4 := HR25.out.cell 4
    have dl := HR25.out.lt
    go_wp2_with fail
    refine (VE2.out w5 HB5.out).mono ?_
    rintro e w6 ⟨rfl, hb6⟩
    go_wp2
    go_ret
    exact ⟨rfl, bch HB3.out (bch HB5.out hb6)⟩

namespace lawFnExprCanonical
open Go.ChangeShapes Go.WideShapes Go.ChangeAt
theorem own : ownKnob Tryz.prog.godebug = none := by kernel_rfl
theorem laidOut : laidOutB Tryz.prog = true := by kernel_rfl

/-- So many blocks has the settled world. -/
noncomputable def low : Nat := (World.holding Tryz.prog default ⟨#[], #[], []⟩).heap.size
abbrev synS : ByteArray := { data := #[105, 110, 118, 97, 108, 105, 100, 32, 115, 121, 110, 116, 97, 120] }
abbrev rngS : ByteArray := { data := #[118, 97, 108, 117, 101, 32, 111, 117, 116, 32, 111, 102, 32, 114, 97, 110, 103, 101] }
/-- One start that fits: the settled world with two blocks more (two errors), the three tables and the two errors as their initialisers lay them. -/
noncomputable def laidWorld (os : Os) : World :=
  let w0 := World.holding Tryz.prog os ⟨#[.cells #[.string synS] 176, .cells #[.string rngS] 176], #[], []⟩
  let put (h : Array Obj) (g : Nat) (cs : Array Value) : Array Obj := h.modify g fun
    | .cells _ t frozen => .cells cs t frozen
    | o => o
  let h1 := put w0.heap 3 (Lib.pow10Tab.map fun z => Value.int .u64 z).toArray
  let h2 := put h1 4 #[.int .u8 0, .int .u8 1, .int .u8 28, .int .u8 2, .int .u8 29, .int .u8 14, .int .u8 24, .int .u8 3, .int .u8 30, .int .u8 22, .int .u8 20, .int .u8 15, .int .u8 25, .int .u8 17, .int .u8 4, .int .u8 8, .int .u8 31, .int .u8 27, .int .u8 13, .int .u8 23, .int .u8 21, .int .u8 19, .int .u8 16, .int .u8 7, .int .u8 26, .int .u8 12, .int .u8 18, .int .u8 6, .int .u8 11, .int .u8 5, .int .u8 10, .int .u8 9]
  let h3 := put h2 5 #[.int .u8 0, .int .u8 1, .int .u8 56, .int .u8 2, .int .u8 57, .int .u8 49, .int .u8 28, .int .u8 3, .int .u8 61, .int .u8 58, .int .u8 42, .int .u8 50, .int .u8 38, .int .u8 29, .int .u8 17, .int .u8 4, .int .u8 62, .int .u8 47, .int .u8 59, .int .u8 36, .int .u8 45, .int .u8 43, .int .u8 51, .int .u8 22, .int .u8 53, .int .u8 39, .int .u8 33, .int .u8 30, .int .u8 24, .int .u8 18, .int .u8 12, .int .u8 5, .int .u8 63, .int .u8 55, .int .u8 48, .int .u8 27, .int .u8 60, .int .u8 41, .int .u8 37, .int .u8 16, .int .u8 46, .int .u8 35, .int .u8 44, .int .u8 21, .int .u8 52, .int .u8 32, .int .u8 23, .int .u8 11, .int .u8 54, .int .u8 26, .int .u8 40, .int .u8 15, .int .u8 34, .int .u8 20, .int .u8 31, .int .u8 10, .int .u8 25, .int .u8 14, .int .u8 19, .int .u8 9, .int .u8 13, .int .u8 8, .int .u8 7, .int .u8 6]
  let h4 := put h3 0 #[.iface 174 (.pointer (some ⟨low, 0, none⟩))]
  let h5 := put h4 1 #[.iface 174 (.pointer (some ⟨low + 1, 0, none⟩))]
  { w0 with heap := h5 }
theorem laidWorld_met (os : Os) (args : Array Value) : laidMet Tryz.prog Rows.fnExprCanonicalRow.laid ((laidWorld os).forCall (fun _ _ => 0) ⟨#[], args, []⟩).memory :=
  laidMet_of_run3 8 (by kernel_rfl) (by kernel_rfl) (by kernel_rfl)
theorem gTab : Tryz.prog.globalNamed "internal/strconv.uint64pow10" = some 3 := by kernel_rfl
theorem gTabType : (Tryz.prog.globals[3]?).map (·.type) = some 168 := by kernel_rfl
theorem tab {W : World} (h : laidMet Tryz.prog Rows.fnExprCanonicalRow.laid W) : T10 W.heap.size W := by
  have h1 := h.tail.tail
  exact Lib.tabBelow_of_tabIs (Lib.tabIs_of_head gTab gTabType Tryz.underlying168 Tryz.underlying140 (by kernel_rfl) (by kernel_rfl) h1)
theorem star : "*" ++ "errors.errorString" = "*errors.errorString" := by decide
theorem rowErr (u : TypeId) (h : Tryz.prog.typeName? 3 u = some "*errors.errorString") : u = 174 :=
  typeName_ptr_named (nm := "errors.errorString") (by rw [star]; kernel_rfl) (by kernel_rfl) (by decide) u (by rw [star]; exact h)
theorem gSyn : Tryz.prog.globalNamed "strconv.ErrSyntax" = some 0 := by kernel_rfl
theorem gRng : Tryz.prog.globalNamed "strconv.ErrRange" = some 1 := by kernel_rfl
theorem gSynType : (Tryz.prog.globals[0]?).map (·.type) = some 118 := by kernel_rfl
theorem gRngType : (Tryz.prog.globals[1]?).map (·.type) = some 118 := by kernel_rfl
theorem evb {W : World} (h : laidMet Tryz.prog Rows.fnExprCanonicalRow.laid W) : EvB W.heap.size W := by
  have h1 := h.tail.tail.tail
  obtain ⟨a0, s0, hv0, _⟩ := laid_sentinel h1 gRng gRngType Tryz.underlying118 rowErr Tryz.underlying174 Tryz.underlying176 rfl rfl Tryz.underlying9 (by kernel_rfl) (by kernel_rfl)
  obtain ⟨a1, s1, hv1, _⟩ := laid_sentinel h1.tail gSyn gSynType Tryz.underlying118 rowErr Tryz.underlying174 Tryz.underlying176 rfl rfl Tryz.underlying9 (by kernel_rfl) (by kernel_rfl)
  have k0 : W.cell? ⟨1, 0, none⟩ = some (.iface 174 (.pointer (some a0))) := by simpa using World.var?_cell gRng hv0 0
  have k1 : W.cell? ⟨0, 0, none⟩ = some (.iface 174 (.pointer (some a1))) := by simpa using World.var?_cell gSyn hv1 0
  intro z hz
  exact ⟨⟨_, _, (hz.cell (World.block_lt_of_cell? _ _ k1)).trans k1⟩, _, _, (hz.cell (World.block_lt_of_cell? _ _ k0)).trans k0⟩

set_option maxRecDepth 100000 in
theorem lifted (os : Os) (started : os.Started) (H : Type) (enc : TypeId × Value → H) :
    ReturnsInHanded {} Tryz.checked os 4 .any (fun w args => (Rows.fnExprCanonicalSpec.pre enc Tryz.prog Tryz.f4 Rows.fnExprCanonicalRow.domain false w args ∧ laidMet Tryz.prog Rows.fnExprCanonicalRow.laid w) ∧ sizedMet enc Tryz.prog Tryz.f4 (OpenSpec.ofChange Rows.fnExprCanonicalSpec) false w args)
      (Rows.fnExprCanonicalSpec.post enc Tryz.prog Tryz.f4 false true false false) := by
  refine returnsInHanded_of_change_and (C := Tryz.checked) (X := fun w _ => laidMet Tryz.prog Rows.fnExprCanonicalRow.laid w) (fun _ _ _ hh h => h.of_heap hh) own started (by kernel_rfl) Tryz.func4
    (ChangeSpec.witness_at (enc := enc) (C := Tryz.checked) (os := os) (X := fun w _ => laidMet Tryz.prog Rows.fnExprCanonicalRow.laid w) false (laidWorld os) #[.slice none 0 0] 8 rfl (by kernel_rfl) (by kernel_rfl) (by kernel_rfl) (by kernel_rfl) (by kernel_rfl) (laidWorld_met os _)) ?_
  intro W base args ds gs before hval0 hW hcnd hsz0 hL _
  have hval : ∀ (j : Nat) t v, Tryz.f4.params[j]? = some t → args[j]? = some v → Value.okWide Tryz.prog W .any base t v := hval0
  have hW' := hW
  obtain ⟨p, q, hA0, hV, rfl, hfz, hnd⟩ := hW
  have hA : DataW.TrodAll enc Tryz.prog W 0 (fun _ => true) true Tryz.f4.params.toList args.toList ds p := hA0
  rw [Tryz.params4] at hA hval
  obtain ⟨v0, vs0, d0, ds0, p0, q0, hargs, rfl, rfl, h0, r0⟩ := trodAll_cons hA
  obtain ⟨rfl, rfl, rfl⟩ := trodAll_nil r0
  obtain rfl : args = #[v0] := by cases args; simp_all
  obtain ⟨rfl, rfl⟩ := trodVars_none hV
  obtain ⟨a0, len0, c0, rfl⟩ := okWide_slice Tryz.underlying35 (hval 0 35 v0 rfl rfl)
  have k0 := h0
  have lt0 : ∀ x ∈ p0, x.block < W.heap.size := by obtain ⟨m, hm⟩ := k0; exact DataW.trod_lt m _ _ _ hm
  obtain ⟨f0, h0⟩ := h0
  obtain ⟨xs0, rfl, hc0, hm0, g0, s0⟩ := open_sl (sz := 1) (ec := byteC) Tryz.underlying35 (by kernel_rfl) (by omega) byteC_length (el_byte Tryz.underlying5) h0
  clear hA0 hval0
  refine (FnExprCanonical_walk a0 c0 xs0 W hc0 hm0 g0 s0 (tab hL) (evb hL)).mono fun e W' ⟨he, bel⟩ => ?_
  subst he
  exact ⟨_, rfl, _, _, _, [], _, [], hW', trodAll_mk1 (shut_bool Tryz.underlying4 _), (trodAll_cons_mk (Below.trod laidOut (by kernel_rfl) (of_decide_eq_true (by kernel_rfl)) k0 bel lt0) trodAll_mk0), rfl, bel.frame _, fun h => by cases h⟩

theorem over : Rows.fnExprCanonicalRow.holds Tryz.pinned (OpenSpec.ofChange Rows.fnExprCanonicalSpec) :=
  OpenClaim.holds_of_wide 4 Tryz.f4 rfl rfl rfl rfl rfl rfl rfl ⟨rfl, rfl, rfl, rfl, rfl⟩ rfl rfl rfl rfl rfl (by kernel_rfl) Tryz.func4 (by kernel_rfl)
    (of_decide_eq_true (by kernel_rfl)) (by unfold Func.isWrapper; first | (rw [if_pos (by decide +kernel)]; kernel_rfl) | (rw [if_neg (by decide +kernel)]; exact ⟨rfl, rfl⟩))
    (fun os started H enc _ => lifted os started H enc)

theorem proved : Rows.FnExprCanonicalCardSaid :=
  Claim7.holds_tied_plain_at .later [] Rows.fnExprCanonicalCard.laidKinds true Rows.fnExprCanonicalCard.stood.harness true
    over (fun _ h => by cases h) (by kernel_rfl) (fun _ h => by cases h) fnExprCanonical_row_tie rfl ⟨rfl, rfl⟩ (by kernel_rfl) rfl
    (fun f fn hf hfn => by
      obtain rfl : f = 4 := Option.some.inj ((show Tryz.prog.funcNamed "loop.example/queryoptimizer/laws.FnExprCanonical" = some 4 by kernel_rfl).symm.trans hf) |>.symm
      obtain rfl : fn = Tryz.f4 := (Option.some.inj (Tryz.func4.symm.trans hfn)).symm
      exact ⟨by kernel_rfl, fun j t ht => by
        rw [Tryz.params4] at ht
        have h3 : t = 35 := by
          rcases j with _ | j
          · simpa using ht.symm
          · simp at ht
        subst h3
        exact (show Tryz.prog.wantsStandIn 35 = false by kernel_rfl)⟩)
    (by kernel_rfl)
end lawFnExprCanonical
#print axioms lawFnExprCanonical.proved
end Go.Proofs.YtmhlpjfijpomkaaGreatDoor
