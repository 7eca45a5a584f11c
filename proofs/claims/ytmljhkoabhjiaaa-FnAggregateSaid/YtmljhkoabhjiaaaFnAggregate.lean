/-
  FnAggregate returns true for all bytes and leaves them as they were. No condition.
-/
import Derived.Test.YtmljhkoabhjiaaaRows
import Derived.OpenShut
import Derived.Test.YtmljhkoabhjiaaaAgK
import Derived.Test.YtmljhkoabhjiaaaAgG
import Derived.Test.YtmljhkoabhjiaaaArgB
import Derived.Deep.DeepCutAuto
namespace Go.Proofs.Ytmljhkoabhjiaaa
open Go.RowKit Go.Qo
open Go.ChangeShapes Go.WideShapes Go.ChangeAt
set_option linter.unusedVariables false
set_option linter.unusedSimpArgs false

theorem aggOk_k {k q : Int} {xs : List Val} (h : AggOk k xs) (h1 : 1 ≤ q) (h5 : q ≤ 5) : AggOk q xs := ⟨h.all, h.len, h1, h5⟩
set_option maxRecDepth 20000 in
set_option maxHeartbeats 2000000 in
theorem FnAggregate_walk (A : Option Addr) (c : Nat) (xs : List Int) (w : World) (hc : xs.length ≤ c) (hm : c ≤ maxLen) (hg : ∀ x ∈ xs, 0 ≤ x ∧ x ≤ 255) (h : Sl 1 byteC w w.heap.size A xs) :
    Calls Try.prog 5 #[.slice A xs.length c] w fun e w' => e = .returned (.bool true) ∧ Below w.heap.size w w' := by
  have HD := Lib.hid (drawAggregate_ok A c xs w hc hm hg h)
  have hx63 : xs.length ≤ 9223372036854775807 := by unfold maxLen at hm; omega
  have hg := eqgVal
  clear h hc hm
  by_cases hx : (1048576 : Int) < xs.length
  · clear HD
    go_enter Try.func5, Try.ntmps5
    go_wp2
    go_ret
    exact ⟨rfl, Below.refl _ _⟩
  · go_enter Try.func5, Try.ntmps5
    go_wp2_with fail
    refine HD.out.mono ?_
    rintro e w1 ⟨v1, v2, rfl, ys, k, rfl, hl, hsm, how, hb1⟩
    obtain ⟨A1, c1, rfl, hc11, hc12, hs1⟩ := how.shape valC_length
    obtain ⟨d, hd⟩ : ∃ d : Bool, d = true ↔ AggOk k ys := ⟨_, @decide_eq_true_iff _ (Classical.propDecidable _)⟩
    obtain ⟨m, hmm⟩ : ∃ m : Val, (if d then aggF k ys else zV) = m := ⟨_, rfl⟩
    have HL := Lib.hid (And.intro hs1.sl hb1)
    have S1 := Lib.hid (fun (z : World) (hz : Below w1.heap.size w1 z) => specAggregate_ok A1 c1 ys k z (by omega) (HL.out.1.on hz) d hd)
    have S2 := Lib.hid (fun (z : World) (hz : Below w1.heap.size w1 z) => implAggregate_ok A1 c1 ys k z (by omega) (HL.out.1.on hz) d hd)
    rw [hmm] at S1 S2
    unfold vAgg2 at S1 S2
    have HM := Lib.hid hmm
    have Hd := Lib.hid hd
    have hne := neqVal (x := m) (y := m) false (by simp)
    have heq := eqlVal (x := m) (y := m) true (by simp)
    clear hd hmm how hs1 hc11 hc12 hb1 hsm
    have hdd : (d != d) = false := by simp
    have hdd2 : (d == d) = true := by simp
    go_wp2_with fail
    refine (S2.out _ (Below.refl _ _)).mono ?_
    rintro e w2 ⟨rfl, hb2⟩
    have H2 := Lib.hid (balloc hb2 (.cells #[.bool m.1, .int .i64 m.2] 25))
    have R2 := Lib.hid (Row.new w2 25 #[.bool m.1, .int .i64 m.2])
    clear hb2
    go_wp2_with fail
    refine (S1.out _ H2.out).mono ?_
    rintro e w3 ⟨rfl, hb3⟩
    have H3 := Lib.hid (bch H2.out hb3)
    have R3 := Lib.hid (R2.out.on hb3)
    have c0 : w3.cell? ⟨w2.heap.size, 0, none⟩ = some (.bool m.1) := R3.out.cell 0
    have c1' : w3.cell? ⟨w2.heap.size, 1, none⟩ = some (.int .i64 m.2) := R3.out.cell 1
    have e0 := R3.out.lt
    clear hb3
    cases d
    · go_wp2
      go_ret
      exact ⟨rfl, bch HL.out.2 (balloc H3.out _)⟩
    · have hok := Hd.out.1 rfl
      have HOK := Lib.hid hok
      obtain ⟨y, hy⟩ : ∃ y, aggF k (few ys) = y := ⟨_, rfl⟩
      have HY := Lib.hid (show k = 1 ∨ y = m by
        by_cases hk1 : k = 1
        · exact .inl hk1
        · right; rw [← hy, ← HM.out]; exact few_agg hok hk1)
      have hnl := nnN_le ys
      have HA6 := Lib.hid (fun (B : Option Addr) (cc n : Nat) (z : World) (hn : (few ys).length = n) (hz : Sl 2 valC z z.heap.size B (few ys)) => hn ▸ implAggregate_ok B cc (few ys) k z (by rw [few_length]; omega) hz true ⟨fun _ => few_ok HOK.out, fun _ => rfl⟩)
      have HA7 := Lib.hid (fun (z : World) (hz : Below w1.heap.size w1 z) => implAggregate_ok A1 c1 ys 1 z (by omega) (HL.out.1.on hz) true ⟨fun _ => aggOk_k HOK.out (by omega) (by omega), fun _ => rfl⟩)
      have HA8 := Lib.hid (fun (z : World) (hz : Below w1.heap.size w1 z) => implAggregate_ok A1 c1 ys 2 z (by omega) (HL.out.1.on hz) true ⟨fun _ => aggOk_k HOK.out (by omega) (by omega), fun _ => rfl⟩)
      rw [show (if (true : Bool) = true then aggF 1 ys else zV) = (false, (ys.length : Int)) from numV_in (by omega) (by omega)] at HA7
      rw [show (if (true : Bool) = true then aggF 2 ys else zV) = (false, (nnN ys : Int)) from numV_in (by omega) (by omega)] at HA8
      unfold vAgg2 at HA6 HA7 HA8
      simp only [if_true, hy] at HA6
      obtain ⟨W5, hW5⟩ : ∃ W5, w3.alloc (.cells #[.bool m.1, .int .i64 m.2] 25) = W5 := ⟨_, rfl⟩
      have hB5 : Below w1.heap.size w1 W5 := by rw [← hW5]; exact balloc H3.out _
      have hR5 : Row W5 w2.heap.size 25 [.bool m.1, .int .i64 m.2] := by rw [← hW5]; exact R3.out.alloc _
      have H5 := Lib.hid (And.intro hB5 hR5)
      have HW5 := Lib.hid hW5
      clear hok hy hW5 hB5 hR5
      go_upto_region 8 with fail
      rw [HW5.out]
      clear c0 c1' e0
      go_wp2
      go_loopg [9, 10] ys.length (fun g v iv wr => ∃ i : Nat, i ≤ ys.length ∧ g = ys.length - i ∧ iv = .int .i64 i ∧ Below W5.heap.size W5 wr ∧ Ow W5.heap.size 25 2 valC wr v (few (ys.take i)))
      case atStart => exact ⟨0, by omega, by omega, rfl, balloc (Below.refl _ _) _, Ow.lit (xs := ([] : List Val)) rfl rfl (Nat.le_refl _) (by decide)⟩
      case round =>
        obtain ⟨i, hi, rfl, rfl, hb, how⟩ := hrel
        have HB := Lib.hid (And.intro hb how)
        obtain ⟨A9, c9, rfl, hc91, hc92, hs9⟩ := how.shape valC_length
        have hfl6 : (few (ys.take i)).length ≤ 6 := by rw [few_length]; have := nnN_le (ys.take i); rw [List.length_take] at this; omega
        by_cases hlt : i < ys.length
        · obtain ⟨b, off, hA, hBl, d0, d1⟩ := Val.at_ (HL.out.1.on (bch H5.out.1 hb)) hlt
          subst hA
          have hx := Lib.hid (List.getElem?_eq_getElem hlt)
          generalize ys[i] = x at *
          obtain ⟨nx, x⟩ := x
          have HT := Lib.hid (take_at hx.out)
          have hsz : W5.heap.size ≤ (wr.alloc (.cells #[.bool false, .int .i64 x] 25)).heap.size := by have := hb.size; simp; omega
          clear hb how hs9 hc91 hc92
          cases nx
          · have HO1 := Lib.hid (HB.out.2.on (balloc (Below.refl _ wr) (.cells #[.bool false, .int .i64 x] 25)))
            have HS := Lib.hid (Row.sl' (w := wr.alloc (.cells #[.bool false, .int .i64 x] 25)) (t := 25) (xs := [((false, x) : Val)]) valC_length ((Row.new wr _ _).of rfl))
            dsimp only at *
            go_wp2_with (at_builtin; refine wpList_app rfl (.tmp 70) (.tmp 75) 28 rfl W5.heap.size 25 _ 2 16 valC Try.underlying28 zeroVal rfl (by decide) (by decide) valC_length valC_one _ (few (ys.take i)) rfl HO1.out (some ⟨wr.heap.size, 0, none⟩) 1 1 [((false, x) : Val)] rfl rfl HS.out (by simp; omega) hsz ?_; intro v' w' hown hgr)
            go_roundg (ys.length - (i + 1))
            case measure => omega
            case rel =>
              refine ⟨i + 1, by omega, rfl, by go_num, (((only_below (S := fun _ => False) HB.out.1).alloc _).grown hgr (fun k hk => .inr (HO1.out.ty k hk).1)).old (fun _ _ h => h), ?_⟩
              rw [HT.out, few_snoc rfl]; exact hown
          · dsimp only at *
            go_wp2
            go_roundg (ys.length - (i + 1))
            case measure => omega
            case rel =>
              refine ⟨i + 1, by omega, rfl, by go_num, HB.out.1, ?_⟩
              rw [HT.out, few_snoc_null rfl]; exact HB.out.2
        · obtain rfl : i = ys.length := by omega
          have hfe : ((nnN ys : Int) == ((few ys).length : Int)) = true := by simp [few_length]
          have hs9' : Sl 2 valC wr wr.heap.size A9 (few ys) := by have := hs9.sl; rwa [List.take_length] at this
          have HF := Lib.hid (HA6.out A9 c9 (few (ys.take ys.length)).length wr (by rw [List.take_length]) hs9')
          have hle : (few (ys.take ys.length)).length = (few ys).length := by rw [List.take_length]
          rw [hle] at HF ⊢
          clear hb how hs9 hs9' hc91 hc92 hle hfl6
          go_wp2_with fail
          refine HF.out.mono ?_
          rintro e w6 ⟨rfl, hb6⟩
          have H6 := Lib.hid (balloc (bch H5.out.1 (bch HB.out.1 hb6)) (.cells #[.bool y.1, .int .i64 y.2] 25))
          have R6 := Lib.hid (And.intro ((H5.out.2.on (bch HB.out.1 hb6)).alloc (.cells #[.bool y.1, .int .i64 y.2] 25)) (Row.new w6 25 #[.bool y.1, .int .i64 y.2]))
          clear hb6
          go_wp2_with fail
          refine (HA7.out _ H6.out).mono ?_
          rintro e w7 ⟨rfl, hb7⟩
          have H7 := Lib.hid (balloc (bch H6.out hb7) (.cells #[.bool false, .int .i64 ys.length] 25))
          have R7 := Lib.hid (And.intro ((R6.out.1.on hb7).alloc (.cells #[.bool false, .int .i64 ys.length] 25)) (And.intro ((R6.out.2.on hb7).alloc (.cells #[.bool false, .int .i64 ys.length] 25)) (Row.new w7 25 #[.bool false, .int .i64 ys.length])))
          clear hb7
          go_wp2_with fail
          refine (HA8.out _ H7.out).mono ?_
          rintro e w8 ⟨rfl, hb8⟩
          have H8 := Lib.hid (bch H7.out hb8)
          have r1 := R7.out.1.on hb8
          have r2 := R7.out.2.1.on hb8
          have r3 := R7.out.2.2.on hb8
          have c0 : w8.cell? ⟨w2.heap.size, 0, none⟩ = some (.bool m.1) := r1.cell 0
          have c1' : w8.cell? ⟨w2.heap.size, 1, none⟩ = some (.int .i64 m.2) := r1.cell 1
          have c2 : w8.cell? ⟨w6.heap.size, 0, none⟩ = some (.bool y.1) := r2.cell 0
          have c3 : w8.cell? ⟨w6.heap.size, 1, none⟩ = some (.int .i64 y.2) := r2.cell 1
          have c4 : w8.cell? ⟨w7.heap.size, 1, none⟩ = some (.int .i64 ys.length) := r3.cell 1
          have e1 := r1.lt
          have e2 := r2.lt
          have e3 := r3.lt
          have hyl : ((ys.length : Int) == (ys.length : Int)) = true := by simp
          clear hb8 r1 r2 r3
          by_cases hk1 : k = 1
          · subst hk1
            go_wp2
            go_ret
            exact ⟨rfl, bch HL.out.2 (balloc H8.out _)⟩
          · have hym : y = m := HY.out.resolve_left hk1
            have hkb : (k == 1) = false := by simp [hk1]
            have heqy := eqlVal (x := y) (y := m) true (by simp [hym])
            clear hym
            go_wp2
            go_ret
            exact ⟨rfl, bch HL.out.2 (balloc H8.out _)⟩

namespace lawFnAggregate
theorem own : ownKnob Try.prog.godebug = none := by kernel_rfl
theorem laidOut : laidOutB Try.prog = true := by kernel_rfl

set_option maxRecDepth 100000 in
theorem lifted (os : Os) (started : os.Started) (H : Type) (enc : TypeId × Value → H) :
    ReturnsInHanded {} Try.checked os 5 .any (Rows.fnAggregateSpec.pre6 enc Try.prog Try.f5 Rows.fnAggregateRow.domain false) (Rows.fnAggregateSpec.post enc Try.prog Try.f5 false true false false) := by
  refine returnsInHanded_of_change (C := Try.checked) own started (by kernel_rfl) Try.func5
    (ChangeSpec.witness6 (enc := enc) (C := Try.checked) false ⟨#[], #[.slice none 0 0], []⟩ 8 (by kernel_rfl) (by kernel_rfl) (by kernel_rfl) (by kernel_rfl)) ?_
  intro W base args ds gs before hval0 hW hcnd _
  have hval : ∀ (j : Nat) t v, Try.f5.params[j]? = some t → args[j]? = some v → Value.okWide Try.prog W .any base t v := hval0
  have hW' := hW
  obtain ⟨p, q, hA0, hV, rfl, hfz, hnd⟩ := hW
  have hA : DataW.TrodAll enc Try.prog W 0 (fun _ => true) true Try.f5.params.toList args.toList ds p := hA0
  rw [Try.params5] at hA hval
  obtain ⟨v0, vs0, d0, ds0, p0, q0, hargs, rfl, rfl, h0, r0⟩ := trodAll_cons hA
  obtain ⟨rfl, rfl, rfl⟩ := trodAll_nil r0
  obtain rfl : args = #[v0] := by cases args; simp_all
  obtain ⟨rfl, rfl⟩ := trodVars_none hV
  obtain ⟨a0, len0, c0, rfl⟩ := okWide_slice Try.underlying37 (hval 0 37 v0 rfl rfl)
  have k0 := h0
  have lt0 : ∀ x ∈ p0, x.block < W.heap.size := by obtain ⟨m, hm⟩ := k0; exact DataW.trod_lt m _ _ _ hm
  obtain ⟨f0, h0⟩ := h0
  obtain ⟨xs0, rfl, hc0, hm0, g0, s0⟩ := open_sl (sz := 1) (ec := byteC) Try.underlying37 (by kernel_rfl) (by omega) byteC_length (el_byte Try.underlying5) h0
  clear hA0 hval0
  refine (FnAggregate_walk a0 c0 xs0 W hc0 hm0 g0 s0).mono fun e W' ⟨he, bel⟩ => ?_
  subst he
  exact ⟨_, rfl, _, _, _, [], _, [], hW', trodAll_mk1 (shut_bool Try.underlying4 _), (trodAll_cons_mk (Below.trod laidOut (by kernel_rfl) (of_decide_eq_true (by kernel_rfl)) k0 bel lt0) trodAll_mk0), rfl, bel.frame _, fun h => by cases h⟩

theorem over : Rows.fnAggregateRow.holds Try.pinned (OpenSpec.ofChange Rows.fnAggregateSpec) :=
  OpenClaim.holds_of_wide 5 Try.f5 rfl rfl rfl rfl rfl rfl rfl ⟨rfl, rfl, rfl, rfl, rfl⟩ rfl rfl rfl rfl rfl (by kernel_rfl) Try.func5 (by kernel_rfl)
    (of_decide_eq_true (by kernel_rfl)) (by unfold Func.isWrapper; first | (rw [if_pos (by decide +kernel)]; kernel_rfl) | (rw [if_neg (by decide +kernel)]; exact ⟨rfl, rfl⟩))
    (fun os started H enc _ => lifted os started H enc)

theorem proved : Rows.FnAggregateSaid := over
end lawFnAggregate
#print axioms lawFnAggregate.proved

end Go.Proofs.Ytmljhkoabhjiaaa
