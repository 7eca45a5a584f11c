/-
  Every valid plan is read back from its text, for all codes. (The tables of strconv and its two errors hold what the program's text lays.)
-/
import Derived.Test.YtmhlpjfijpomkaaGreatDoorRows
import Derived.Test.YtmhlpjfijpomkaaGreatDoorZpCards
import Derived.Test.YtmhlpjfijpomkaaGreatDoorZpTie
import Derived.SevenTiedAt
import Derived.ChangeSame
import Derived.ChangeVars
import Derived.JoinedOf
import Derived.JoinedAt
import Derived.LaidLaws
import Derived.Lib.LaidTab
import Derived.Stop.LaidErr
import Derived.Deep.DeepLaidRun
import Derived.Test.YtmhlpjfijpomkaaGreatDoorZpDrN
import Derived.Test.YtmhlpjfijpomkaaGreatDoorZpDcY
import Derived.Test.YtmhlpjfijpomkaaGreatDoorZpEnH
import Derived.Test.YtmhlpjfijpomkaaGreatDoorZpGb
import Derived.Test.YtmhlpjfijpomkaaGreatDoorZpArg
import Derived.Test.YtmhlpjfijpomkaaGreatDoorZpArgB
import Derived.Test.YtmhlpjfijpomkaaGreatDoorZpGd
namespace Go.Proofs.YtmhlpjfijpomkaaGreatDoor
open Go.RowKit Go.Qo
set_option linter.unusedVariables false
set_option linter.unusedSimpArgs false

theorem plText_ne (p : Pl) : plText p ≠ [] := by
  obtain ⟨k, t, es, cs, ks⟩ := p
  rw [plText]
  simp
theorem plText_inj {ws : List Int} {x y : Pl} (hx : widthP ws x ≠ 0) (hy : widthP ws y ≠ 0) (h : plText x = plText y) : x = y := by
  have h1 := readP_back hx h
  have h2 := readP_back hy rfl
  rw [h1] at h2
  cases h2
  rfl
theorem plText_len8 {ws : List Int} {x : Pl} (hx : widthP ws x ≠ 0) : (plText x).length ≤ 8388608 := by
  have := plText_len 8 x (rdOk_iff.1 (rd_of hx)).1
  omega

set_option maxRecDepth 20000 in
set_option maxHeartbeats 4000000 in
theorem FnPlanRoundTrip_walk (A : Option Addr) (c : Nat) (xs : List Int) (w : World) (hn : xs.length ≤ c) (hc : c ≤ maxLen) (hg : ∀ x ∈ xs, 0 ≤ x ∧ x ≤ 255) (hs : Sl 1 byteC w w.heap.size A xs) (ht : T10 w.heap.size w) (hv : EvB w.heap.size w) :
    Calls Tryz.prog 5 #[.slice A xs.length c] w fun e w' => e = .returned (.bool true) ∧ Below w.heap.size w w' := by
  by_cases hlen : (1048576 : Int) < (xs.length : Int)
  · clear hs hg
    go_enter Tryz.func5, Tryz.ntmps5
    go_wp2
    go_ret
    exact ⟨rfl, Below.refl _ _⟩
  have HD := Lib.hid (drawEncodePlan_ok A c xs w hn hc hg hs)
  have HT := Lib.hid ht
  have HV := Lib.hid hv
  clear hs hg hn hc ht hv
  go_enter Tryz.func5, Tryz.ntmps5
  go_wp2_with fail
  refine HD.out.mono ?_
  rintro e w1 ⟨f, x, v2, ws, rfl, ⟨hx, how, hwl, hwr⟩, hb1⟩
  obtain ⟨A2, c2, rfl, hc21, hc22, hs2⟩ := how.shape intC_length
  have hwb : ws.length ≤ maxLen := by unfold maxLen; omega
  obtain ⟨W2, hW2⟩ : ∃ z, w1.alloc (.cells #[.int .i64 f.kind, .int .i64 f.table, .slice f.es.A f.es.n f.es.c, .slice f.cs.A f.cs.n f.cs.c, .slice f.ks.A f.ks.n f.ks.c] 26) = z := ⟨_, rfl⟩
  have B2 : Below w1.heap.size w1 W2 := by rw [← hW2]; exact balloc (Below.refl _ _) _
  have r2 : Row W2 w1.heap.size 26 [.int .i64 f.kind, .int .i64 f.table, .slice f.es.A f.es.n f.es.c, .slice f.cs.A f.cs.n f.cs.c, .slice f.ks.A f.ks.n f.ks.c] := by rw [← hW2]; exact Row.new _ _ _
  have HB2 := Lib.hid (bch hb1 B2)
  have HX2 := Lib.hid (hx.in_.on B2)
  have HS2 := Lib.hid (show Sl 1 intC W2 W2.heap.size A2 ws from hs2.sl.on B2)
  have HW2 := Lib.hid hW2
  have Hr2 := Lib.hid r2
  obtain ⟨r, hr⟩ : ∃ r, widthP ws x = r := ⟨_, rfl⟩
  obtain ⟨R, hR⟩ : ∃ R : List UInt8, (widthP ws x ≠ 0 → R = plText x) ∧ (widthP ws x = 0 → R = []) := by
    by_cases ho : widthP ws x = 0
    · exact ⟨[], fun h => absurd ho h, fun _ => rfl⟩
    · exact ⟨plText x, fun _ => rfl, fun h => absurd h ho⟩
  have SX := Lib.hid (fun (z : World) (hz : Below W2.heap.size W2 z) => specEncodePlan_ok x f ws A2 c2 z R (HX2.out.on hz) hwb (HS2.out.on hz) hR.1 hR.2)
  have IX := Lib.hid (fun (z : World) (hz : Below W2.heap.size W2 z) => implEncodePlan_ok x f ws A2 c2 z R z.heap.size (((HT.out.on HB2.out).mono HB2.out.size).on hz |>.mono hz.size) (Nat.le_refl _) (HX2.out.on hz) hwb (HS2.out.on hz) hR.1 hR.2)
  have VX := Lib.hid (fun (z : World) (hz : Below W2.heap.size W2 z) => PlanWidth_ok x f ws A2 c2 z r (HX2.out.on hz) hwb (HS2.out.on hz) hr)
  have CX := Lib.hid (fun (z : World) (hz : Below W2.heap.size W2 z) => show z.cell? ⟨w1.heap.size, 0, none⟩ = some (.int .i64 f.kind) ∧ z.cell? ⟨w1.heap.size, 1, none⟩ = some (.int .i64 f.table) ∧ z.cell? ⟨w1.heap.size, 2, none⟩ = some (.slice f.es.A f.es.n f.es.c) ∧ z.cell? ⟨w1.heap.size, 3, none⟩ = some (.slice f.cs.A f.cs.n f.cs.c) ∧ z.cell? ⟨w1.heap.size, 4, none⟩ = some (.slice f.ks.A f.ks.n f.ks.c) from by
    have ra := Hr2.out.on hz
    exact ⟨ra.cell 0, ra.cell 1, ra.cell 2, ra.cell 3, ra.cell 4⟩)
  obtain ⟨S, hS⟩ : ∃ S, bArr R = S := ⟨_, rfl⟩
  rw [hS] at SX IX
  unfold fpV at SX IX VX ⊢
  have hnn : (S.toList == S.toList) = true := by simp
  have hnm : (S.toList != S.toList) = false := by simp
  have Hr := Lib.hid hr
  have HR := Lib.hid hR
  have HS := Lib.hid hS
  clear hb1 hx B2 r2 hW2 hr hR hS how hwl hwr hc21 hc22 hs2
  go_upto_region 4 with fail
  rw [HW2.out]
  obtain ⟨c0, c1, c2', c3, c4⟩ := CX.out W2 (Below.refl _ _)
  go_wp2_with fail
  refine (IX.out W2 (Below.refl _ _)).mono ?_
  rintro e w3 ⟨rfl, hb3⟩
  have HB3 := Lib.hid hb3
  clear c0 c1 c2' c3 c4 hb3
  obtain ⟨c0, c1, c2', c3, c4⟩ := CX.out _ HB3.out
  go_wp2_with fail
  refine (SX.out _ HB3.out).mono ?_
  rintro e w4 ⟨rfl, hb4⟩
  have HB4 := Lib.hid (bch HB3.out hb4)
  clear c0 c1 c2' c3 c4 hb4
  obtain ⟨c0, c1, c2', c3, c4⟩ := CX.out _ HB4.out
  by_cases hr0 : r = 0
  · have hSe : S = ⟨#[]⟩ := by rw [← HS.out, HR.out.2 (Hr.out.trans hr0)]; rfl
    subst hSe
    subst hr0
    have he : (({ data := #[] } : ByteArray).toList == []) = true := by
      show ((bArr []).toList == []) = true
      rw [bArr_list]
      rfl
    go_wp2_with fail
    refine (SX.out _ HB4.out).mono ?_
    rintro e w5 ⟨rfl, hb5⟩
    have HB5 := Lib.hid (bch HB4.out hb5)
    clear c0 c1 c2' c3 c4 hb5
    obtain ⟨c0, c1, c2', c3, c4⟩ := CX.out _ HB5.out
    go_wp2_with fail
    refine (VX.out _ HB5.out).mono ?_
    rintro e w6 ⟨rfl, hb6⟩
    go_wp2
    go_ret
    exact ⟨rfl, bch HB2.out (bch HB5.out hb6)⟩
  · have hok : widthP ws x ≠ 0 := fun h => hr0 (Hr.out.symm.trans h)
    have hRx := HR.out.1 hok
    have hSe : (S.toList == []) = false := by
      rw [← HS.out, bArr_list, hRx, beq_eq_false_iff_ne]
      exact plText_ne x
    have HDc := Lib.hid (implDecodePlan_ok w4.heap.size (plText x) ws A2 c2 w4 hwb (HS2.out.on HB4.out) (plText_len8 hok) (((HT.out.on HB2.out).mono HB2.out.size).on HB4.out |>.mono HB4.out.size) (((HV.out.on HB2.out).mono HB2.out.size).on HB4.out |>.mono HB4.out.size) (Nat.le_refl _))
    rw [← hRx, HS.out] at HDc
    have Hok := Lib.hid (And.intro hok hRx)
    clear hok hRx c0 c1 c2' c3 c4 hr0
    go_wp2_with fail
    refine HDc.out.mono ?_
    rintro e w5 ⟨hb5, ⟨g, y, hy1, hy2, rfl, hy3⟩ | ⟨hno, rfl⟩⟩
    · have hyx : g = x := plText_inj hy1 Hok.out.1 (by rw [hy2, Hok.out.2])
      subst hyx
      obtain ⟨W6, hW6⟩ : ∃ z, w5.alloc (.cells #[.int .i64 y.kind, .int .i64 y.table, .slice y.es.A y.es.n y.es.c, .slice y.cs.A y.cs.n y.cs.c, .slice y.ks.A y.ks.n y.ks.c] 26) = z := ⟨_, rfl⟩
      have B6 : Below w5.heap.size w5 W6 := by rw [← hW6]; exact balloc (Below.refl _ _) _
      have r6 : Row W6 w5.heap.size 26 [.int .i64 y.kind, .int .i64 y.table, .slice y.es.A y.es.n y.es.c, .slice y.cs.A y.cs.n y.cs.c, .slice y.ks.A y.ks.n y.ks.c] := by rw [← hW6]; exact Row.new _ _ _
      have HB6 := Lib.hid (bch (bch HB4.out hb5) B6)
      have HE := Lib.hid (equalPlans_ok g y f W6 (hy3.in_.on B6) (HX2.out.on HB6.out))
      have HW6 := Lib.hid hW6
      have r6 := Lib.hid r6
      unfold fpV at HE ⊢
      obtain ⟨c0, c1, c2', c3, c4⟩ := CX.out _ HB6.out
      clear B6 hW6 hy1 hy2 hy3 hb5
      go_upto_region 8 with fail
      rw [HW6.out]
      have d0 := r6.out.cell 0
      have d1 := r6.out.cell 1
      have d2 := r6.out.cell 2
      have d3 := r6.out.cell 3
      have d4 := r6.out.cell 4
      go_wp2_with fail
      refine HE.out.mono ?_
      rintro e w7 ⟨rfl, hb7⟩
      clear c0 c1 c2' c3 c4 d0 d1 d2 d3 d4
      go_wp2
      go_ret
      exact ⟨rfl, bch HB2.out (bch HB6.out hb7)⟩
    · exact absurd Hok.out.2.symm (hno x Hok.out.1)

namespace lawFnPlanRoundTrip
open Go.ChangeShapes Go.WideShapes Go.ChangeAt
theorem own : ownKnob Tryz.prog.godebug = none := by kernel_rfl
theorem laidOut : laidOutB Tryz.prog = true := by kernel_rfl

/-- So many blocks has the settled world. -/
noncomputable def low : Nat := (World.holding Tryz.prog default ⟨#[], #[], []⟩).heap.size
abbrev synS : ByteArray := { data := #[105, 110, 118, 97, 108, 105, 100, 32, 115, 121, 110, 116, 97, 120] }
abbrev rngS : ByteArray := { data := #[118, 97, 108, 117, 101, 32, 111, 117, 116, 32, 111, 102, 32, 114, 97, 110, 103, 101] }
/-- One start that fits: the settled world with two blocks more (two errors), the three tables and the two errors as their initialisers lay them. -/
noncomputable def laidWorld (os : Os) : World :=
  let w0 := World.holding Tryz.prog os ⟨#[.cells #[.string synS] 176, .cells #[.string rngS] 176], #[], []⟩
  let put (h : Array Obj) (g : Nat) (cs : Array Value) : Array Obj := h.modify g fun
    | .cells _ t frozen => .cells cs t frozen
    | o => o
  let h1 := put w0.heap 3 (Lib.pow10Tab.map fun z => Value.int .u64 z).toArray
  let h2 := put h1 4 #[.int .u8 0, .int .u8 1, .int .u8 28, .int .u8 2, .int .u8 29, .int .u8 14, .int .u8 24, .int .u8 3, .int .u8 30, .int .u8 22, .int .u8 20, .int .u8 15, .int .u8 25, .int .u8 17, .int .u8 4, .int .u8 8, .int .u8 31, .int .u8 27, .int .u8 13, .int .u8 23, .int .u8 21, .int .u8 19, .int .u8 16, .int .u8 7, .int .u8 26, .int .u8 12, .int .u8 18, .int .u8 6, .int .u8 11, .int .u8 5, .int .u8 10, .int .u8 9]
  let h3 := put h2 5 #[.int .u8 0, .int .u8 1, .int .u8 56, .int .u8 2, .int .u8 57, .int .u8 49, .int .u8 28, .int .u8 3, .int .u8 61, .int .u8 58, .int .u8 42, .int .u8 50, .int .u8 38, .int .u8 29, .int .u8 17, .int .u8 4, .int .u8 62, .int .u8 47, .int .u8 59, .int .u8 36, .int .u8 45, .int .u8 43, .int .u8 51, .int .u8 22, .int .u8 53, .int .u8 39, .int .u8 33, .int .u8 30, .int .u8 24, .int .u8 18, .int .u8 12, .int .u8 5, .int .u8 63, .int .u8 55, .int .u8 48, .int .u8 27, .int .u8 60, .int .u8 41, .int .u8 37, .int .u8 16, .int .u8 46, .int .u8 35, .int .u8 44, .int .u8 21, .int .u8 52, .int .u8 32, .int .u8 23, .int .u8 11, .int .u8 54, .int .u8 26, .int .u8 40, .int .u8 15, .int .u8 34, .int .u8 20, .int .u8 31, .int .u8 10, .int .u8 25, .int .u8 14, .int .u8 19, .int .u8 9, .int .u8 13, .int .u8 8, .int .u8 7, .int .u8 6]
  let h4 := put h3 0 #[.iface 174 (.pointer (some ⟨low, 0, none⟩))]
  let h5 := put h4 1 #[.iface 174 (.pointer (some ⟨low + 1, 0, none⟩))]
  { w0 with heap := h5 }
theorem laidWorld_met (os : Os) (args : Array Value) : laidMet Tryz.prog Rows.fnPlanRoundTripRow.laid ((laidWorld os).forCall (fun _ _ => 0) ⟨#[], args, []⟩).memory :=
  laidMet_of_run3 8 (by kernel_rfl) (by kernel_rfl) (by kernel_rfl)
theorem gTab : Tryz.prog.globalNamed "internal/strconv.uint64pow10" = some 3 := by kernel_rfl
theorem gTabType : (Tryz.prog.globals[3]?).map (·.type) = some 168 := by kernel_rfl
theorem tab {W : World} (h : laidMet Tryz.prog Rows.fnPlanRoundTripRow.laid W) : T10 W.heap.size W := by
  have h1 := h.tail.tail
  exact Lib.tabBelow_of_tabIs (Lib.tabIs_of_head gTab gTabType Tryz.underlying168 Tryz.underlying140 (by kernel_rfl) (by kernel_rfl) h1)
theorem star : "*" ++ "errors.errorString" = "*errors.errorString" := by decide
theorem rowErr (u : TypeId) (h : Tryz.prog.typeName? 3 u = some "*errors.errorString") : u = 174 :=
  typeName_ptr_named (nm := "errors.errorString") (by rw [star]; kernel_rfl) (by kernel_rfl) (by decide) u (by rw [star]; exact h)
theorem gSyn : Tryz.prog.globalNamed "strconv.ErrSyntax" = some 0 := by kernel_rfl
theorem gRng : Tryz.prog.globalNamed "strconv.ErrRange" = some 1 := by kernel_rfl
theorem gSynType : (Tryz.prog.globals[0]?).map (·.type) = some 118 := by kernel_rfl
theorem gRngType : (Tryz.prog.globals[1]?).map (·.type) = some 118 := by kernel_rfl
theorem evb {W : World} (h : laidMet Tryz.prog Rows.fnPlanRoundTripRow.laid W) : EvB W.heap.size W := by
  have h1 := h.tail.tail.tail
  obtain ⟨a0, s0, hv0, _⟩ := laid_sentinel h1 gRng gRngType Tryz.underlying118 rowErr Tryz.underlying174 Tryz.underlying176 rfl rfl Tryz.underlying9 (by kernel_rfl) (by kernel_rfl)
  obtain ⟨a1, s1, hv1, _⟩ := laid_sentinel h1.tail gSyn gSynType Tryz.underlying118 rowErr Tryz.underlying174 Tryz.underlying176 rfl rfl Tryz.underlying9 (by kernel_rfl) (by kernel_rfl)
  have k0 : W.cell? ⟨1, 0, none⟩ = some (.iface 174 (.pointer (some a0))) := by simpa using World.var?_cell gRng hv0 0
  have k1 : W.cell? ⟨0, 0, none⟩ = some (.iface 174 (.pointer (some a1))) := by simpa using World.var?_cell gSyn hv1 0
  intro z hz
  exact ⟨⟨_, _, (hz.cell (World.block_lt_of_cell? _ _ k1)).trans k1⟩, _, _, (hz.cell (World.block_lt_of_cell? _ _ k0)).trans k0⟩

set_option maxRecDepth 100000 in
theorem lifted (os : Os) (started : os.Started) (H : Type) (enc : TypeId × Value → H) :
    ReturnsInHanded {} Tryz.checked os 5 .any (fun w args => (Rows.fnPlanRoundTripSpec.pre enc Tryz.prog Tryz.f5 Rows.fnPlanRoundTripRow.domain false w args ∧ laidMet Tryz.prog Rows.fnPlanRoundTripRow.laid w) ∧ sizedMet enc Tryz.prog Tryz.f5 (OpenSpec.ofChange Rows.fnPlanRoundTripSpec) false w args)
      (Rows.fnPlanRoundTripSpec.post enc Tryz.prog Tryz.f5 false true false false) := by
  refine returnsInHanded_of_change_and (C := Tryz.checked) (X := fun w _ => laidMet Tryz.prog Rows.fnPlanRoundTripRow.laid w) (fun _ _ _ hh h => h.of_heap hh) own started (by kernel_rfl) Tryz.func5
    (ChangeSpec.witness_at (enc := enc) (C := Tryz.checked) (os := os) (X := fun w _ => laidMet Tryz.prog Rows.fnPlanRoundTripRow.laid w) false (laidWorld os) #[.slice none 0 0] 8 rfl (by kernel_rfl) (by kernel_rfl) (by kernel_rfl) (by kernel_rfl) (by kernel_rfl) (laidWorld_met os _)) ?_
  intro W base args ds gs before hval0 hW hcnd hsz0 hL _
  have hval : ∀ (j : Nat) t v, Tryz.f5.params[j]? = some t → args[j]? = some v → Value.okWide Tryz.prog W .any base t v := hval0
  have hW' := hW
  obtain ⟨p, q, hA0, hV, rfl, hfz, hnd⟩ := hW
  have hA : DataW.TrodAll enc Tryz.prog W 0 (fun _ => true) true Tryz.f5.params.toList args.toList ds p := hA0
  rw [Tryz.params5] at hA hval
  obtain ⟨v0, vs0, d0, ds0, p0, q0, hargs, rfl, rfl, h0, r0⟩ := trodAll_cons hA
  obtain ⟨rfl, rfl, rfl⟩ := trodAll_nil r0
  obtain rfl : args = #[v0] := by cases args; simp_all
  obtain ⟨rfl, rfl⟩ := trodVars_none hV
  obtain ⟨a0, len0, c0, rfl⟩ := okWide_slice Tryz.underlying35 (hval 0 35 v0 rfl rfl)
  have k0 := h0
  have lt0 : ∀ x ∈ p0, x.block < W.heap.size := by obtain ⟨m, hm⟩ := k0; exact DataW.trod_lt m _ _ _ hm
  obtain ⟨f0, h0⟩ := h0
  obtain ⟨xs0, rfl, hc0, hm0, g0, s0⟩ := open_sl (sz := 1) (ec := byteC) Tryz.underlying35 (by kernel_rfl) (by omega) byteC_length (el_byte Tryz.underlying5) h0
  clear hA0 hval0
  refine (FnPlanRoundTrip_walk a0 c0 xs0 W hc0 hm0 g0 s0 (tab hL) (evb hL)).mono fun e W' ⟨he, bel⟩ => ?_
  subst he
  exact ⟨_, rfl, _, _, _, [], _, [], hW', trodAll_mk1 (shut_bool Tryz.underlying4 _), (trodAll_cons_mk (Below.trod laidOut (by kernel_rfl) (of_decide_eq_true (by kernel_rfl)) k0 bel lt0) trodAll_mk0), rfl, bel.frame _, fun h => by cases h⟩

theorem over : Rows.fnPlanRoundTripRow.holds Tryz.pinned (OpenSpec.ofChange Rows.fnPlanRoundTripSpec) :=
  OpenClaim.holds_of_wide 5 Tryz.f5 rfl rfl rfl rfl rfl rfl rfl ⟨rfl, rfl, rfl, rfl, rfl⟩ rfl rfl rfl rfl rfl (by kernel_rfl) Tryz.func5 (by kernel_rfl)
    (of_decide_eq_true (by kernel_rfl)) (by unfold Func.isWrapper; first | (rw [if_pos (by decide +kernel)]; kernel_rfl) | (rw [if_neg (by decide +kernel)]; exact ⟨rfl, rfl⟩))
    (fun os started H enc _ => lifted os started H enc)

theorem proved : Rows.FnPlanRoundTripCardSaid :=
  Claim7.holds_tied_plain_at .later [] Rows.fnPlanRoundTripCard.laidKinds true Rows.fnPlanRoundTripCard.stood.harness true
    over (fun _ h => by cases h) (by kernel_rfl) (fun _ h => by cases h) fnPlanRoundTrip_row_tie rfl ⟨rfl, rfl⟩ (by kernel_rfl) rfl
    (fun f fn hf hfn => by
      obtain rfl : f = 5 := Option.some.inj ((show Tryz.prog.funcNamed "loop.example/queryoptimizer/laws.FnPlanRoundTrip" = some 5 by kernel_rfl).symm.trans hf) |>.symm
      obtain rfl : fn = Tryz.f5 := (Option.some.inj (Tryz.func5.symm.trans hfn)).symm
      exact ⟨by kernel_rfl, fun j t ht => by
        rw [Tryz.params5] at ht
        have h3 : t = 35 := by
          rcases j with _ | j
          · simpa using ht.symm
          · simp at ht
        subst h3
        exact (show Tryz.prog.wantsStandIn 35 = false by kernel_rfl)⟩)
    (by kernel_rfl)
end lawFnPlanRoundTrip
#print axioms lawFnPlanRoundTrip.proved
end Go.Proofs.YtmhlpjfijpomkaaGreatDoor
