/-
  The program's EncodePlan returns what the reference's returns, for every plan and widths: each argument reads behind the call as it read before. (The tables of strconv hold what the program's text lays.)
-/
import Derived.Test.YtmhlpjfijpomkaaDoorRows
import Derived.Test.YtmhlpjfijpomkaaDoorCards
import Derived.Test.YtmhlpjfijpomkaaDoorTie
import Derived.SevenTiedAt
import Derived.ChangeSame
import Derived.ChangeVars
import Derived.JoinedOf
import Derived.JoinedAt
import Derived.LaidLaws
import Derived.Lib.LaidTab
import Derived.Stop.LaidErr
import Derived.Deep.DeepLaidRun
import Derived.Test.YtmhlpjfijpomkaaDoorEnL
import Derived.Test.YtmhlpjfijpomkaaDoorCpY
import Derived.Test.YtmhlpjfijpomkaaDoorEqY
import Derived.Test.YtmhlpjfijpomkaaDoorArgY
import Derived.Test.YtmhlpjfijpomkaaDoorReg
namespace Go.Proofs.YtmhlpjfijpomkaaDoor
open Go.RowKit Go.Qo
set_option linter.unusedVariables false
set_option linter.unusedSimpArgs false

set_option maxRecDepth 20000 in
set_option maxHeartbeats 4000000 in
theorem FnExactEncodePlan_walk (f : FP) (x : Pl) (A : Option Addr) (c : Nat) (ws : List Int) (w : World) (h : PlIn w w.heap.size f x) (hwl : ws.length ≤ maxLen) (hsl : Sl 1 intC w w.heap.size A ws) (ht : T10 w.heap.size w) :
    Calls Tryd.prog 4 #[fpV f, .slice A ws.length c] w fun e w' => e = .returned (.bool true) ∧ Below w.heap.size w w' := by
  obtain ⟨W1, hW1⟩ : ∃ z, w.alloc (.cells #[.int .i64 f.kind, .int .i64 f.table, .slice f.es.A f.es.n f.es.c, .slice f.cs.A f.cs.n f.cs.c, .slice f.ks.A f.ks.n f.ks.c] 39) = z := ⟨_, rfl⟩
  have B1 : Below w.heap.size w W1 := by rw [← hW1]; exact balloc (Below.refl _ _) _
  have r1 : Row W1 w.heap.size 39 [.int .i64 f.kind, .int .i64 f.table, .slice f.es.A f.es.n f.es.c, .slice f.cs.A f.cs.n f.cs.c, .slice f.ks.A f.ks.n f.ks.c] := by rw [← hW1]; exact Row.new _ _ _
  have HH := Lib.hid (h.on B1)
  have HSl := Lib.hid (hsl.on B1)
  have HT := Lib.hid ((ht.on B1).mono B1.size)
  have HB1 := Lib.hid B1
  have HW1 := Lib.hid hW1
  have Hr := Lib.hid r1
  have c0 := r1.cell 0
  have c1 := r1.cell 1
  have c2 := r1.cell 2
  have c3 := r1.cell 3
  have c4 := r1.cell 4
  have HZ := Lib.hid (szPlan_ok x f 1048576 W1 HH.out (by omega) (by omega))
  unfold fpV at HZ ⊢
  clear h ht B1 r1 hW1 hsl
  unfold maxLen at hwl
  by_cases hbig : 1048576 < (ws.length : Int)
  case pos =>
    go_enter Tryd.func4, Tryd.ntmps4
    go_upto_region 1 with fail
    rw [HW1.out]
    go_wp2
    go_ret
    exact ⟨rfl, HB1.out⟩
  have hw20 : ws.length ≤ 1048576 := by omega
  by_cases hs : (plCnt x : Int) ≤ 1048576
  case neg =>
    rw [szR_no hs] at HZ
    clear hs
    go_enter Tryd.func4, Tryd.ntmps4
    go_upto_region 1 with fail
    rw [HW1.out]
    go_wp2_with fail
    refine HZ.out.mono ?_
    rintro e w2 ⟨rfl, hb2⟩
    go_wp2
    go_ret
    exact ⟨rfl, bch HB1.out hb2⟩
  rw [szR_yes hs] at HZ
  have hnn : ¬ (1048576 - (plCnt x : Int)) < 0 := by omega
  have HD := Lib.hid (plB_of_cnt x (by omega))
  obtain ⟨q, hq⟩ : ∃ q : Int, 1048576 - (plCnt x : Int) = q := ⟨_, rfl⟩
  rw [hq] at HZ hnn
  obtain ⟨R, hR⟩ : ∃ R : List UInt8, (widthP ws x ≠ 0 → R = plText x) ∧ (widthP ws x = 0 → R = []) := by
    by_cases ho : widthP ws x = 0
    · exact ⟨[], fun h => absurd ho h, fun _ => rfl⟩
    · exact ⟨plText x, fun _ => rfl, fun h => absurd h ho⟩
  have hml : ws.length ≤ maxLen := by unfold maxLen; omega
  have CX := Lib.hid (fun (z : World) hz => toPlan_ok x f z HD.out hz)
  have CI := Lib.hid (fun (z : World) hz => toIntS_ok A c ws z hw20 hz)
  have SX := Lib.hid (fun (z : World) (f' : FP) (A' : Option Addr) hz hs => specEncodePlan_ok x f' ws A' ws.length z R hz hml hs hR.1 hR.2)
  have IX := Lib.hid (fun (z : World) (f' : FP) (A' : Option Addr) hz hs ht => implEncodePlan_ok x f' ws A' ws.length z R z.heap.size ht (Nat.le_refl _) hz hml hs hR.1 hR.2)
  have EI := Lib.hid (fun (z : World) (A' A'' : Option Addr) h1 h2 => eqIntS_ok A' A'' ws.length ws.length ws ws z hml hml h1 h2)
  rw [show decide (ws = ws) = true by simp] at EI
  obtain ⟨S, hS⟩ : ∃ S, bArr R = S := ⟨_, rfl⟩
  rw [hS] at SX IX
  unfold fpV at CX SX IX
  clear hs hq hR hS hml
  go_enter Tryd.func4, Tryd.ntmps4
  go_upto_region 1 with fail
  rw [HW1.out]
  go_wp2_with fail
  refine HZ.out.mono ?_
  rintro e w2 ⟨rfl, hb2⟩
  have HB2 := Lib.hid hb2
  have r2 := Hr.out.on hb2
  clear c0 c1 c2 c3 c4
  have c0 := r2.cell 0
  have c1 := r2.cell 1
  have c2 := r2.cell 2
  have c3 := r2.cell 3
  have c4 := r2.cell 4
  clear hb2 r2
  go_wp2_with fail
  refine (CX.out w2 (HH.out.on HB2.out)).mono ?_
  rintro e w3 ⟨f3, rfl, hx3, hb3⟩
  have HX3 := Lib.hid hx3.in_
  have HB3 := Lib.hid (bch HB2.out hb3)
  clear hx3 hb3 c0 c1 c2 c3 c4
  go_wp2_with fail
  refine (CI.out w3 (HSl.out.on HB3.out)).mono ?_
  rintro e w3a ⟨rfl, hb3a, hr3a⟩
  have HX3a := Lib.hid (HX3.out.on hb3a)
  have HS3a := Lib.hid (Row.sl' intC_length hr3a)
  have HB3a := Lib.hid (bch HB3.out hb3a)
  clear hb3a hr3a
  go_wp2_with fail
  refine (SX.out w3a f3 _ HX3a.out HS3a.out).mono ?_
  rintro e w4 ⟨rfl, hb4⟩
  have HB4 := Lib.hid (bch HB3a.out hb4)
  have r2 := Hr.out.on HB4.out
  have c0 := r2.cell 0
  have c1 := r2.cell 1
  have c2 := r2.cell 2
  have c3 := r2.cell 3
  have c4 := r2.cell 4
  clear hb4 r2
  go_wp2_with fail
  refine (CX.out w4 (HH.out.on HB4.out)).mono ?_
  rintro e w5 ⟨f5, rfl, hx5, hb5⟩
  obtain ⟨W6, hW6⟩ : ∃ z, w5.alloc (.cells #[.int .i64 f5.kind, .int .i64 f5.table, .slice f5.es.A f5.es.n f5.es.c, .slice f5.cs.A f5.cs.n f5.cs.c, .slice f5.ks.A f5.ks.n f5.ks.c] 44) = z := ⟨_, rfl⟩
  have B6 : Below w5.heap.size w5 W6 := by rw [← hW6]; exact balloc (Below.refl _ _) _
  have r6 : Row W6 w5.heap.size 44 [.int .i64 f5.kind, .int .i64 f5.table, .slice f5.es.A f5.es.n f5.es.c, .slice f5.cs.A f5.cs.n f5.cs.c, .slice f5.ks.A f5.ks.n f5.ks.c] := by rw [← hW6]; exact Row.new _ _ _
  have HX6 := Lib.hid (hx5.in_.on B6)
  have HB6 := Lib.hid (bch (bch HB4.out hb5) B6)
  have HW6 := Lib.hid hW6
  have Hr6 := Lib.hid r6
  clear hx5 hb5 hW6 B6 r6 c0 c1 c2 c3 c4
  go_upto_region 9 with fail
  rw [HW6.out]
  go_wp2_with fail
  refine (CI.out W6 (HSl.out.on HB6.out)).mono ?_
  rintro e w7a ⟨rfl, hb7a, hr7a⟩
  have HX7a := Lib.hid (HX6.out.on hb7a)
  have HS7a := Lib.hid (Row.sl' intC_length hr7a)
  have HB7a := Lib.hid (bch HB6.out hb7a)
  have Hr7a := Lib.hid (Hr6.out.on hb7a)
  clear hb7a hr7a
  have c0 := Hr7a.out.cell 0
  have c1 := Hr7a.out.cell 1
  have c2 := Hr7a.out.cell 2
  have c3 := Hr7a.out.cell 3
  have c4 := Hr7a.out.cell 4
  go_wp2_with fail
  refine (IX.out w7a f5 _ HX7a.out HS7a.out ((HT.out.on HB7a.out).mono HB7a.out.size)).mono ?_
  rintro e w7 ⟨rfl, hb7⟩
  have HX7 := Lib.hid (HX7a.out.on hb7)
  have HS7 := Lib.hid (HS7a.out.on hb7)
  have HB7 := Lib.hid (bch HB7a.out hb7)
  have Hr7 := Lib.hid (Hr7a.out.on hb7)
  clear hb7 c0 c1 c2 c3 c4
  go_wp2
  obtain ⟨u, hu⟩ : ∃ u, w7.drew = u := ⟨_, rfl⟩
  have Bu : Hid (Below w7.heap.size w7 u) := Lib.hid (hu ▸ (Below.refl _ _).drew)
  have Hu := Lib.hid hu
  have SB := Lib.hid (fun (z : World) (hz : Below w7.heap.size w7 z) => show z.cell? ⟨w5.heap.size, 0, none⟩ = some (.int .i64 f5.kind) ∧ z.cell? ⟨w5.heap.size, 1, none⟩ = some (.int .i64 f5.table) ∧ z.cell? ⟨w5.heap.size, 2, none⟩ = some (.slice f5.es.A f5.es.n f5.es.c) ∧ z.cell? ⟨w5.heap.size, 3, none⟩ = some (.slice f5.cs.A f5.cs.n f5.cs.c) ∧ z.cell? ⟨w5.heap.size, 4, none⟩ = some (.slice f5.ks.A f5.ks.n f5.ks.c) ∧ z.cell? ⟨w.heap.size, 0, none⟩ = some (.int .i64 f.kind) ∧ z.cell? ⟨w.heap.size, 1, none⟩ = some (.int .i64 f.table) ∧ z.cell? ⟨w.heap.size, 2, none⟩ = some (.slice f.es.A f.es.n f.es.c) ∧ z.cell? ⟨w.heap.size, 3, none⟩ = some (.slice f.cs.A f.cs.n f.cs.c) ∧ z.cell? ⟨w.heap.size, 4, none⟩ = some (.slice f.ks.A f.ks.n f.ks.c) from by
    have ra := Hr7.out.on hz
    have rb := Hr.out.on (bch HB7.out hz)
    exact ⟨ra.cell 0, ra.cell 1, ra.cell 2, ra.cell 3, ra.cell 4, rb.cell 0, rb.cell 1, rb.cell 2, rb.cell 3, rb.cell 4⟩)
  clear hu
  refine wp_region_held_drew (S := fun z => z.cell? ⟨w5.heap.size, 0, none⟩ = some (.int .i64 f5.kind) ∧ z.cell? ⟨w5.heap.size, 1, none⟩ = some (.int .i64 f5.table) ∧ z.cell? ⟨w5.heap.size, 2, none⟩ = some (.slice f5.es.A f5.es.n f5.es.c) ∧ z.cell? ⟨w5.heap.size, 3, none⟩ = some (.slice f5.cs.A f5.cs.n f5.cs.c) ∧ z.cell? ⟨w5.heap.size, 4, none⟩ = some (.slice f5.ks.A f5.ks.n f5.ks.c) ∧ z.cell? ⟨w.heap.size, 0, none⟩ = some (.int .i64 f.kind) ∧ z.cell? ⟨w.heap.size, 1, none⟩ = some (.int .i64 f.table) ∧ z.cell? ⟨w.heap.size, 2, none⟩ = some (.slice f.es.A f.es.n f.es.c) ∧ z.cell? ⟨w.heap.size, 3, none⟩ = some (.slice f.cs.A f.cs.n f.cs.c) ∧ z.cell? ⟨w.heap.size, 4, none⟩ = some (.slice f.ks.A f.ks.n f.ks.c)) (by kernel_rfl) ?_ (fun hHeld => ?_)
  · exact SB.out _ (Below.refl _ _).drew
  rw [Hu.out] at hHeld ⊢
  refine takeL (i := 0) (v := ?v0) rfl (by kernel_rfl) (by kernel_rfl) (by kernel_rfl) (fun _ _ _ h => h) (Or.inl ⟨by rfl, ?hy0⟩) (by assumption) ?_
  case hy0 => ((intro w' hSw; (try dsimp only at hSw); obtain ⟨s0, s1, s2, s3, s4, t0, t1, t2, t3, t4⟩ := hSw; go_simp) <;> with_reducible rfl)
  try simp only [Act.put, List.setIfInBounds_toArray, List.set_cons_zero, List.set_cons_succ]
  refine takeL (i := 1) (v := ?v1) rfl (by kernel_rfl) (by kernel_rfl) (by kernel_rfl) (fun _ _ _ h => h) (Or.inl ⟨by rfl, ?hy1⟩) (by assumption) ?_
  case hy1 => ((intro w' hSw; (try dsimp only at hSw); obtain ⟨s0, s1, s2, s3, s4, t0, t1, t2, t3, t4⟩ := hSw; go_simp) <;> with_reducible rfl)
  try simp only [Act.put, List.setIfInBounds_toArray, List.set_cons_zero, List.set_cons_succ]
  refine wpAnyH_ready (rs := [2]) (by kernel_rfl) (by simp) ?_
  refine readyL rfl (fun K hK => ?_) AllReadyH.nil
  go_simp
  go_at_call 14
  refine (CX.out u (HH.out.on (bch HB7.out Bu.out))).mono ?_
  rintro e w8 ⟨f8, rfl, hx8, hb8⟩
  have HX8 := Lib.hid hx8.in_
  have HB8 := Lib.hid (bch Bu.out hb8)
  clear hx8 hb8
  refine hK.out _ _ ?hS2 (fun hHeld => ?_)
  case hS2 => exact SB.out _ HB8.out
  clear hK K
  try simp only [Act.put, List.setIfInBounds_toArray, List.set_cons_zero, List.set_cons_succ]
  refine wpAnyH_ready (rs := [3]) (by kernel_rfl) (by simp) ?_
  refine readyL rfl (fun K hK => ?_) AllReadyH.nil
  have EX := eqPlan_ok x f5 f8 w8 (HX7.out.on HB8.out) HX8.out
  unfold fpV at EX
  go_simp
  go_at_call 17
  refine EX.mono ?_
  rintro e w9 ⟨rfl, hb9⟩
  have HB9 := Lib.hid (bch HB8.out hb9)
  clear hb9 EX
  refine hK.out _ _ ?hS3 (fun hHeld => ?_)
  case hS3 => exact SB.out _ HB9.out
  clear hK K
  try simp only [Act.put, List.setIfInBounds_toArray, List.set_cons_zero, List.set_cons_succ]
  refine takeL (i := 4) (v := ?v4) rfl (by kernel_rfl) (by kernel_rfl) (by kernel_rfl) (fun _ _ _ h => h) (Or.inl ⟨by rfl, ?hy4⟩) (by assumption) ?_
  case hy4 => ((intro w' hSw; (try dsimp only at hSw); obtain ⟨s0, s1, s2, s3, s4, t0, t1, t2, t3, t4⟩ := hSw; go_simp) <;> with_reducible rfl)
  try simp only [Act.put, List.setIfInBounds_toArray, List.set_cons_zero, List.set_cons_succ]
  refine wpAnyH_done (by kernel_rfl) ?_ _
  clear hHeld
  go_wp2_with fail
  refine (CI.out w9 (HSl.out.on (bch HB7.out HB9.out))).mono ?_
  rintro e w10 ⟨rfl, hb10, hr10⟩
  have HS10 := Lib.hid (Row.sl' intC_length hr10)
  have HB10 := Lib.hid (bch HB9.out hb10)
  clear hb10 hr10
  go_wp2_with fail
  refine (EI.out w10 _ _ (HS7.out.on HB10.out) HS10.out).mono ?_
  rintro e w11 ⟨rfl, hb11⟩
  go_wp2
  go_ret
  exact ⟨rfl, bch HB1.out (bch (bch HB7.out HB10.out) hb11)⟩

namespace lawFnExactEncodePlan
open Go.ChangeShapes Go.WideShapes Go.ChangeAt
theorem own : ownKnob Tryd.prog.godebug = none := by kernel_rfl
theorem laidOut : laidOutB Tryd.prog = true := by kernel_rfl
theorem exTypes : ExTypes Tryd.prog 26 24 23 4 3 :=
  ⟨⟨_, _, _, _, Tryd.underlying26, rfl, rfl, rfl, rfl, rfl, rfl, rfl, rfl⟩, ⟨_, _, Tryd.underlying23, rfl, rfl, rfl, rfl⟩, Tryd.underlying24, Tryd.underlying4, Tryd.underlying3, by kernel_rfl, by kernel_rfl, by kernel_rfl, by kernel_rfl, by kernel_rfl⟩

theorem plTypes : PlTypes Tryd.prog 39 37 26 24 36 23 4 3 :=
  ⟨exTypes, ⟨_, _, _, _, _, Tryd.underlying39, rfl, rfl, rfl, rfl, rfl, rfl, rfl, rfl, rfl, rfl⟩, Tryd.underlying37, Tryd.underlying36, by kernel_rfl, by kernel_rfl, by kernel_rfl⟩

/-- One start that fits: the settled world, the three tables as their initialisers lay them. -/
noncomputable def laidWorld (os : Os) : World :=
  let w0 := World.holding Tryd.prog os ⟨#[], #[], []⟩
  let put (h : Array Obj) (g : Nat) (cs : Array Value) : Array Obj := h.modify g fun
    | .cells _ t frozen => .cells cs t frozen
    | o => o
  let h1 := put w0.heap 0 (Lib.pow10Tab.map fun z => Value.int .u64 z).toArray
  let h2 := put h1 4 #[.int .u8 0, .int .u8 1, .int .u8 28, .int .u8 2, .int .u8 29, .int .u8 14, .int .u8 24, .int .u8 3, .int .u8 30, .int .u8 22, .int .u8 20, .int .u8 15, .int .u8 25, .int .u8 17, .int .u8 4, .int .u8 8, .int .u8 31, .int .u8 27, .int .u8 13, .int .u8 23, .int .u8 21, .int .u8 19, .int .u8 16, .int .u8 7, .int .u8 26, .int .u8 12, .int .u8 18, .int .u8 6, .int .u8 11, .int .u8 5, .int .u8 10, .int .u8 9]
  let h3 := put h2 5 #[.int .u8 0, .int .u8 1, .int .u8 56, .int .u8 2, .int .u8 57, .int .u8 49, .int .u8 28, .int .u8 3, .int .u8 61, .int .u8 58, .int .u8 42, .int .u8 50, .int .u8 38, .int .u8 29, .int .u8 17, .int .u8 4, .int .u8 62, .int .u8 47, .int .u8 59, .int .u8 36, .int .u8 45, .int .u8 43, .int .u8 51, .int .u8 22, .int .u8 53, .int .u8 39, .int .u8 33, .int .u8 30, .int .u8 24, .int .u8 18, .int .u8 12, .int .u8 5, .int .u8 63, .int .u8 55, .int .u8 48, .int .u8 27, .int .u8 60, .int .u8 41, .int .u8 37, .int .u8 16, .int .u8 46, .int .u8 35, .int .u8 44, .int .u8 21, .int .u8 52, .int .u8 32, .int .u8 23, .int .u8 11, .int .u8 54, .int .u8 26, .int .u8 40, .int .u8 15, .int .u8 34, .int .u8 20, .int .u8 31, .int .u8 10, .int .u8 25, .int .u8 14, .int .u8 19, .int .u8 9, .int .u8 13, .int .u8 8, .int .u8 7, .int .u8 6]
  { w0 with heap := h3 }
theorem laidWorld_met (os : Os) (args : Array Value) : laidMet Tryd.prog Rows.fnExactEncodePlanRow.laid ((laidWorld os).forCall (fun _ _ => 0) ⟨#[], args, []⟩).memory :=
  laidMet_of_run3 8 (by kernel_rfl) (by kernel_rfl) (by kernel_rfl)
theorem gTab : Tryd.prog.globalNamed "internal/strconv.uint64pow10" = some 0 := by kernel_rfl
theorem gTabType : (Tryd.prog.globals[0]?).map (·.type) = some 162 := by kernel_rfl
theorem tab {W : World} (h : laidMet Tryd.prog Rows.fnExactEncodePlanRow.laid W) : T10 W.heap.size W := by
  have h1 : laidMet Tryd.prog [("internal/strconv.uint64pow10", Lib.tabData .u64 Lib.pow10Tab)] W := h.tail.tail
  exact Lib.tabBelow_of_tabIs (Lib.tabIs_of_head gTab gTabType Tryd.underlying162 Tryd.underlying135 (by kernel_rfl) (by kernel_rfl) h1)

set_option maxRecDepth 100000 in
theorem lifted (os : Os) (started : os.Started) (H : Type) (enc : TypeId × Value → H) :
    ReturnsInHanded {} Tryd.checked os 4 .any (fun w args => (Rows.fnExactEncodePlanSpec.pre enc Tryd.prog Tryd.f4 Rows.fnExactEncodePlanRow.domain false w args ∧ laidMet Tryd.prog Rows.fnExactEncodePlanRow.laid w) ∧ sizedMet enc Tryd.prog Tryd.f4 (OpenSpec.ofChange Rows.fnExactEncodePlanSpec) false w args)
      (Rows.fnExactEncodePlanSpec.post enc Tryd.prog Tryd.f4 false true false false) := by
  refine returnsInHanded_of_change_and (C := Tryd.checked) (X := fun w _ => laidMet Tryd.prog Rows.fnExactEncodePlanRow.laid w) (fun _ _ _ hh h => h.of_heap hh) own started (by kernel_rfl) Tryd.func4
    (ChangeSpec.witness_at (enc := enc) (C := Tryd.checked) (os := os) (X := fun w _ => laidMet Tryd.prog Rows.fnExactEncodePlanRow.laid w) false (laidWorld os) #[.agg #[.int .i64 0, .int .i64 0, .slice none 0 0, .slice none 0 0, .slice none 0 0], .slice none 0 0] 8 rfl (by kernel_rfl) (by kernel_rfl) (by kernel_rfl) (by kernel_rfl) (by kernel_rfl) (laidWorld_met os _)) ?_
  intro W base args ds gs before hval0 hW hcnd hsz0 hL _
  have hval : ∀ (j : Nat) t v, Tryd.f4.params[j]? = some t → args[j]? = some v → Value.okWide Tryd.prog W .any base t v := hval0
  have hW' := hW
  obtain ⟨p, q, hA0, hV, rfl, hfz, hnd⟩ := hW
  have hA : DataW.TrodAll enc Tryd.prog W 0 (fun _ => true) true Tryd.f4.params.toList args.toList ds p := hA0
  rw [Tryd.params4] at hA hval
  obtain ⟨v0, vs0, d0, ds0, p0, q0, hargs, rfl, rfl, h0, r0⟩ := trodAll_cons hA
  obtain ⟨v1, vs1, d1, ds1, p1, q1, rfl, rfl, rfl, h1, r1⟩ := trodAll_cons r0
  obtain ⟨rfl, rfl, rfl⟩ := trodAll_nil r1
  obtain rfl : args = #[v0, v1] := by cases args; simp_all
  obtain ⟨rfl, rfl⟩ := trodVars_none hV
  obtain ⟨cs0, rfl, hz0⟩ := okWide_struct Tryd.underlying39 (hval 0 39 v0 rfl rfl)
  obtain ⟨cs0⟩ := cs0
  obtain ⟨a1, len1, c1, rfl⟩ := okWide_slice Tryd.underlying36 (hval 1 36 v1 rfl rfl)
  have k0 := h0
  have lt0 : ∀ x ∈ p0, x.block < W.heap.size := by obtain ⟨m, hm⟩ := k0; exact DataW.trod_lt m _ _ _ hm
  obtain ⟨f0, h0⟩ := h0
  have k1 := h1
  have lt1 : ∀ x ∈ p1, x.block < W.heap.size := by obtain ⟨m, hm⟩ := k1; exact DataW.trod_lt m _ _ _ hm
  obtain ⟨f1, h1⟩ := h1
  obtain ⟨g, hcs0, x, dd, hx⟩ := open_pl plTypes _ _ _ _ (Nat.le_refl _) (hz0.trans (by kernel_rfl)) h0
  have hcs0 : cs0 = fpC g := hcs0
  subst hcs0
  obtain ⟨xs1, rfl, hc1, hm1, _, s1⟩ := open_sl (sz := 1) (ec := intC) (Good := fun _ => True) Tryd.underlying36 (by kernel_rfl) (by omega) intC_length (el_intP Tryd.underlying3) h1
  clear hA0 hval0
  refine (FnExactEncodePlan_walk g x a1 c1 xs1 W ⟨dd, hx⟩ (Nat.le_trans hc1 hm1) s1 (tab hL)).mono fun e W' ⟨he, bel⟩ => ?_
  subst he
  exact ⟨_, rfl, _, _, _, [], _, [], hW', trodAll_mk1 (shut_bool Tryd.underlying4 _), (trodAll_cons_mk (Below.trod laidOut (by kernel_rfl) (of_decide_eq_true (by kernel_rfl)) k0 bel lt0) (trodAll_cons_mk (Below.trod laidOut (by kernel_rfl) (of_decide_eq_true (by kernel_rfl)) k1 bel lt1) trodAll_mk0)), rfl, bel.frame _, fun h => by cases h⟩

theorem over : Rows.fnExactEncodePlanRow.holds Tryd.pinned (OpenSpec.ofChange Rows.fnExactEncodePlanSpec) :=
  OpenClaim.holds_of_wide 4 Tryd.f4 rfl rfl rfl rfl rfl rfl rfl ⟨rfl, rfl, rfl, rfl, rfl⟩ rfl rfl rfl rfl rfl (by kernel_rfl) Tryd.func4 (by kernel_rfl)
    (of_decide_eq_true (by kernel_rfl)) (by unfold Func.isWrapper; first | (rw [if_pos (by decide +kernel)]; kernel_rfl) | (rw [if_neg (by decide +kernel)]; exact ⟨rfl, rfl⟩))
    (fun os started H enc _ => lifted os started H enc)

theorem proved : Rows.FnExactEncodePlanCardSaid :=
  Claim7.holds_tied_plain_at .later [] Rows.fnExactEncodePlanCard.laidKinds true Rows.fnExactEncodePlanCard.stood.harness true
    over (fun _ h => by cases h) (by kernel_rfl) (fun _ h => by cases h) fnExactEncodePlan_row_tie rfl ⟨rfl, rfl⟩ (by kernel_rfl) rfl
    (fun f fn hf hfn => by
      obtain rfl : f = 4 := Option.some.inj ((show Tryd.prog.funcNamed "loop.example/queryoptimizer/laws.FnExactEncodePlan" = some 4 by kernel_rfl).symm.trans hf) |>.symm
      obtain rfl : fn = Tryd.f4 := (Option.some.inj (Tryd.func4.symm.trans hfn)).symm
      exact ⟨by kernel_rfl, fun j t ht => by
        rw [Tryd.params4] at ht
        have h3 : t = 39 ∨ t = 36 := by
          rcases j with _ | _ | j
          · exact .inl (by simpa using ht.symm)
          · exact .inr (by simpa using ht.symm)
          · simp at ht
        rcases h3 with h3 | h3
        · subst h3
          exact (show Tryd.prog.wantsStandIn 39 = false by kernel_rfl)
        · subst h3
          exact (show Tryd.prog.wantsStandIn 36 = false by kernel_rfl)⟩)
    (by kernel_rfl)
end lawFnExactEncodePlan
#print axioms lawFnExactEncodePlan.proved
end Go.Proofs.YtmhlpjfijpomkaaDoor
