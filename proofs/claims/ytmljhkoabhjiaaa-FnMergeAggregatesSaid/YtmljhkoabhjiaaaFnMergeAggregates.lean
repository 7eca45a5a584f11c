/-
  FnMergeAggregates returns true for all bytes and leaves them as they were. No condition.
-/
import Derived.Test.YtmljhkoabhjiaaaRows
import Derived.OpenShut
import Derived.Test.YtmljhkoabhjiaaaAgM
import Derived.Test.YtmljhkoabhjiaaaAgG
import Derived.Test.YtmljhkoabhjiaaaArgB
import Derived.Deep.DeepCutAuto
namespace Go.Proofs.Ytmljhkoabhjiaaa
open Go.RowKit Go.Qo
open Go.ChangeShapes Go.WideShapes Go.ChangeAt
set_option linter.unusedVariables false
set_option linter.unusedSimpArgs false

theorem aggOk_take {k : Int} {xs : List Val} (h : AggOk k xs) (n : Nat) : AggOk k (xs.take n) := ⟨take_valid h.all n, by rw [List.length_take]; have := h.len; omega, h.k1, h.k5⟩
theorem aggOk_drop {k : Int} {xs : List Val} (h : AggOk k xs) (n : Nat) : AggOk k (xs.drop n) := ⟨drop_valid h.all n, by rw [List.length_drop]; have := h.len; omega, h.k1, h.k5⟩
theorem mergeOk_of {k : Int} {xs ys : List Val} (h : AggOk k xs) (h' : AggOk k ys) : MergeOk k (aggF k xs) (aggF k ys) := ⟨aggF_valid h.all, aggF_valid h'.all, h.k1, h.k5⟩
theorem small_abs {x : Val} (h : Small x) : -10000 ≤ x.2 ∧ x.2 ≤ 10000 := h
theorem absN_small : ∀ (xs : List Val), (∀ x ∈ xs, Small x) → absN xs ≤ 10000 * (xs.length : Int)
  | [], _ => by simp [absN]
  | x :: xs, h => by
    have h1 := small_abs (h x (by simp))
    have h2 := absN_small xs fun v hv => h v (by simp [hv])
    rw [absN_cons, List.length_cons]
    push_cast
    omega

set_option maxRecDepth 20000 in
set_option maxHeartbeats 2000000 in
theorem FnMergeAggregates_walk (A : Option Addr) (c : Nat) (xs : List Int) (A' : Option Addr) (c' : Nat) (zs : List Int) (w : World) (hc : xs.length ≤ c) (hm : c ≤ maxLen) (hg : ∀ x ∈ xs, 0 ≤ x ∧ x ≤ 255) (h : Sl 1 byteC w w.heap.size A xs) (hc' : zs.length ≤ c') (hm' : c' ≤ maxLen) (hg' : ∀ x ∈ zs, 0 ≤ x ∧ x ≤ 255) (h' : Sl 1 byteC w w.heap.size A' zs) :
    Calls Try.prog 7 #[.slice A xs.length c, .slice A' zs.length c'] w fun e w' => e = .returned (.bool true) ∧ Below w.heap.size w w' := by
  have HD := Lib.hid (drawAggregate_ok A c xs w hc hm hg h)
  have hx63 : xs.length ≤ 9223372036854775807 := by unfold maxLen at hm; omega
  have hz63 : zs.length ≤ 9223372036854775807 := by unfold maxLen at hm'; omega
  have hgv := eqgVal
  clear h h' hc hm hc' hm' hg hg'
  by_cases hx : (1048576 : Int) < xs.length
  · clear HD
    go_enter Try.func7, Try.ntmps7
    go_wp2
    go_ret
    exact ⟨rfl, Below.refl _ _⟩
  · by_cases hzz : (1048576 : Int) < zs.length
    · clear HD
      go_enter Try.func7, Try.ntmps7
      go_wp2
      go_ret
      exact ⟨rfl, Below.refl _ _⟩
    · go_enter Try.func7, Try.ntmps7
      go_wp2_with fail
      refine HD.out.mono ?_
      rintro e w1 ⟨v1, v2, rfl, ys, k, rfl, hl, hsm, how, hb1⟩
      obtain ⟨A1, c1, rfl, hc11, hc12, hs1⟩ := how.shape valC_length
      obtain ⟨d, hd⟩ : ∃ d : Bool, d = true ↔ AggOk k ys := ⟨_, @decide_eq_true_iff _ (Classical.propDecidable _)⟩
      obtain ⟨m, hmm⟩ : ∃ m : Val, (if d then aggF k ys else zV) = m := ⟨_, rfl⟩
      have HL := Lib.hid (And.intro hs1.sl hb1)
      have HSM := Lib.hid hsm
      have S1 := Lib.hid (fun (z : World) (hz : Below w1.heap.size w1 z) => specAggregate_ok A1 c1 ys k z (by omega) (HL.out.1.on hz) d hd)
      have S2 := Lib.hid (fun (z : World) (hz : Below w1.heap.size w1 z) => implAggregate_ok A1 c1 ys k z (by omega) (HL.out.1.on hz) d hd)
      rw [hmm] at S1 S2
      unfold vAgg2 at S1 S2
      have HM := Lib.hid hmm
      have Hd := Lib.hid hd
      have hne := neqVal (x := m) (y := m) false (by simp)
      have heq := eqlVal (x := m) (y := m) true (by simp)
      clear hd hmm how hs1 hb1 hsm
      have hdd : (d != d) = false := by simp
      have hdd2 : (d == d) = true := by simp
      go_wp2_with fail
      refine (S2.out _ (Below.refl _ _)).mono ?_
      rintro e w2 ⟨rfl, hb2⟩
      have H2 := Lib.hid (balloc hb2 (.cells #[.bool m.1, .int .i64 m.2] 25))
      have R2 := Lib.hid (Row.new w2 25 #[.bool m.1, .int .i64 m.2])
      clear hb2
      go_wp2_with fail
      refine (S1.out _ H2.out).mono ?_
      rintro e w3 ⟨rfl, hb3⟩
      have H3 := Lib.hid (bch H2.out hb3)
      have R3 := Lib.hid (R2.out.on hb3)
      have c0 : w3.cell? ⟨w2.heap.size, 0, none⟩ = some (.bool m.1) := R3.out.cell 0
      have c1' : w3.cell? ⟨w2.heap.size, 1, none⟩ = some (.int .i64 m.2) := R3.out.cell 1
      have e0 := R3.out.lt
      clear hb3
      cases d
      · go_wp2
        go_ret
        exact ⟨rfl, bch HL.out.2 (balloc H3.out _)⟩
      · have HOK := Lib.hid (Hd.out.1 rfl)
        obtain ⟨q, hq⟩ : ∃ q, zs.length % (ys.length + 1) = q := ⟨_, rfl⟩
        have hq1 : q ≤ ys.length := by have := Nat.mod_lt zs.length (show 0 < ys.length + 1 by omega); omega
        have eq1 : (zs.length : Int).tmod ((ys.length : Int) + 1) = (q : Int) := by rw [← hq]; exact Int.ofNat_tmod _ _
        have eq2 : (zs.length : Int) % ((ys.length : Int) + 1) = (q : Int) := by rw [← hq]; rfl
        have hqz : ¬ ((ys.length : Int) + 1 = 0) := by omega
        have hqc : q ≤ c1 := by omega
        have hqi0 : (0 : Int) ≤ (q : Int) := by omega
        have hqi1 : (q : Int) ≤ (ys.length : Int) := by omega
        have hqi2 : (q : Int) ≤ (c1 : Int) := by omega
        obtain ⟨a, ha⟩ : ∃ a, aggF k (ys.take q) = a := ⟨_, rfl⟩
        obtain ⟨b, hb⟩ : ∃ b, aggF k (ys.drop q) = b := ⟨_, rfl⟩
        obtain ⟨y, hy⟩ : ∃ y, mergeF k a b = y := ⟨_, rfl⟩
        have hok2 : MergeOk k a b := by rw [← ha, ← hb]; exact mergeOk_of (aggOk_take HOK.out q) (aggOk_drop HOK.out q)
        have HY := Lib.hid (show absN ys ≤ 9999 → y = m by
          intro hle
          have h1 : AggOk k (ys.take q ++ ys.drop q) := by rw [List.take_append_drop]; exact HOK.out
          have h2 := merge_parts h1 (by rw [List.take_append_drop]; exact hle)
          rw [List.take_append_drop, ha, hb, hy] at h2
          rw [h2, ← HM.out]; rfl)
        have K1 := Lib.hid (fun (cc : Nat) (z : World) (hz : Below w1.heap.size w1 z) => implAggregate_ok A1 cc (ys.take q) k z (by rw [List.length_take]; omega) ((HL.out.1.on hz).cut q) true ⟨fun _ => aggOk_take HOK.out q, fun _ => rfl⟩)
        have K2 := Lib.hid (fun (B : Option Addr) (cc : Nat) (z : World) (hz : Below w1.heap.size w1 z) (hA : ∀ b off, A1 = some ⟨b, off, none⟩ → q < ys.length → B = some ⟨b, off + q * 2, none⟩) => implAggregate_ok B cc (ys.drop q) k z (by rw [List.length_drop]; omega) (Sl.from_ (HL.out.1.on hz) hA) true ⟨fun _ => aggOk_drop HOK.out q, fun _ => rfl⟩)
        have K3 := Lib.hid (fun (z : World) => implMerge_ok a b k z true ⟨fun _ => hok2, fun _ => rfl⟩)
        simp only [if_true, ha, List.length_take, Nat.min_eq_left hq1] at K1
        simp only [if_true, hb, List.length_drop] at K2
        rw [show (if (true : Bool) = true then mergeF k a b else zV) = y from hy] at K3
        unfold vAgg2 at K1 K2 K3
        obtain ⟨W5, hW5⟩ : ∃ W5, w3.alloc (.cells #[.bool m.1, .int .i64 m.2] 25) = W5 := ⟨_, rfl⟩
        have hB5 : Below w1.heap.size w1 W5 := by rw [← hW5]; exact balloc H3.out _
        have hR5 : Row W5 w2.heap.size 25 [.bool m.1, .int .i64 m.2] := by rw [← hW5]; exact R3.out.alloc _
        have H5 := Lib.hid (And.intro hB5 hR5)
        have HW5 := Lib.hid hW5
        clear ha hb hy hok2 hW5 hB5 hR5 hq
        go_upto_region 8 with fail
        rw [HW5.out]
        clear c0 c1' e0
        go_wp2
        go_loopg [11, 12] ys.length (fun g v iv wr => ∃ i : Nat, i ≤ ys.length ∧ g = ys.length - i ∧ iv = .int .i64 i ∧ v = .int .i64 (absN (ys.take i)) ∧ Below W5.heap.size W5 wr)
        case atStart => exact ⟨0, by omega, by omega, rfl, rfl, Below.refl _ _⟩
        case round =>
          obtain ⟨i, hi, rfl, rfl, rfl, hb⟩ := hrel
          have HB := Lib.hid hb
          obtain ⟨t, ht⟩ : ∃ t, absN (ys.take i) = t := ⟨_, rfl⟩
          have ht0 := absN_nonneg (ys.take i)
          have ht1 := absN_small (ys.take i) (fun x hx => HSM.out x (List.mem_of_mem_take hx))
          rw [List.length_take] at ht1
          rw [ht] at ht0 ht1 ⊢
          have ht2 : t ≤ 100000 := by omega
          have HT := Lib.hid ht
          clear ht ht1
          by_cases hlt : i < ys.length
          · obtain ⟨b0, off, hA, hBl, d0, d1⟩ := Val.at_ (HL.out.1.on (bch H5.out.1 hb)) hlt
            subst hA
            have hx := Lib.hid (List.getElem?_eq_getElem hlt)
            have hxs := small_abs (HSM.out _ (List.getElem_mem hlt))
            generalize ys[i] = x at *
            obtain ⟨nx, x⟩ := x
            have hxa : -10000 ≤ x := hxs.1
            have hxb : x ≤ 10000 := hxs.2
            have HTT := Lib.hid (take_at hx.out)
            have hwn : IntKind.i64.wrap (-x) = -x := IntWalk.i64_in _ (by omega)
            have hmx0 : 0 ≤ max x (-x) := by omega
            have hmx1 : max x (-x) ≤ 10000 := by omega
            have hwa : IntKind.i64.wrap (t + max x (-x)) = t + max x (-x) := IntWalk.i64_in _ (by omega)
            clear hxs hb
            dsimp only at *
            by_cases hsg : x < -x
            all_goals
              go_wp2
              go_quiet (fail)
              go_wp2
            all_goals first
              | (exfalso; omega)
              | skip
            all_goals
              go_roundg (ys.length - (i + 1))
              case measure => omega
              case rel =>
                refine ⟨i + 1, by omega, rfl, by go_num, ?_, bdrewN HB.out _⟩
                rw [HTT.out, absN_append, HT.out, absN_one]
                exact congrArg (Value.int IntKind.i64) (by show _ = t + max x (-x); omega)
          · obtain rfl : i = ys.length := by omega
            have hta : t = absN ys := by rw [← HT.out, List.take_length]
            have HTA := Lib.hid hta
            have R5 := Lib.hid (H5.out.2.on hb)
            have B5 := Lib.hid (bch H5.out.1 hb)
            clear hta hb
            by_cases hck : c1 = q
            all_goals
              go_wp2_with fail
              refine (K1.out _ _ B5.out).mono ?_
              rintro e w6 ⟨rfl, hb6⟩
              have H6 := Lib.hid (balloc (bch B5.out hb6) (.cells #[.bool a.1, .int .i64 a.2] 25))
              have R6 := Lib.hid (And.intro ((R5.out.on hb6).alloc (.cells #[.bool a.1, .int .i64 a.2] 25)) (Row.new w6 25 #[.bool a.1, .int .i64 a.2]))
              clear hb6
              go_wp2_with fail
              refine (K2.out _ _ _ H6.out ?_).mono ?_
              · intro b0 off hA hl2
                subst hA
                first
                | (exfalso; omega)
                | simp [Addr.add_lit, hck]
              rintro e w7 ⟨rfl, hb7⟩
              have H7 := Lib.hid (balloc (bch H6.out hb7) (.cells #[.bool b.1, .int .i64 b.2] 25))
              have R7 := Lib.hid (And.intro ((R6.out.1.on hb7).alloc (.cells #[.bool b.1, .int .i64 b.2] 25)) ((R6.out.2.on hb7).alloc (.cells #[.bool b.1, .int .i64 b.2] 25)))
              have r7 := R6.out.2.on hb7
              have c0 : w7.cell? ⟨w6.heap.size, 0, none⟩ = some (.bool a.1) := r7.cell 0
              have c1' : w7.cell? ⟨w6.heap.size, 1, none⟩ = some (.int .i64 a.2) := r7.cell 1
              have e0 := r7.lt
              clear hb7 r7
              go_wp2_with fail
              refine (K3.out _).mono ?_
              rintro e w8 ⟨rfl, hb8⟩
              have H8 := Lib.hid (bch H7.out hb8)
              have r8 := R7.out.1.on hb8
              clear c0 c1' e0 hb8
              have c0 : w8.cell? ⟨w2.heap.size, 0, none⟩ = some (.bool m.1) := r8.cell 0
              have c1' : w8.cell? ⟨w2.heap.size, 1, none⟩ = some (.int .i64 m.2) := r8.cell 1
              have e0 := r8.lt
              clear r8
              by_cases hbig : 9999 < t
              · go_wp2
                go_ret
                exact ⟨rfl, bch HL.out.2 (balloc H8.out _)⟩
              · have hym : y = m := HY.out (by rw [← HTA.out]; omega)
                have heqy := eqlVal (x := y) (y := m) true (by simp [hym])
                clear hym
                go_wp2
                go_ret
                exact ⟨rfl, bch HL.out.2 (balloc H8.out _)⟩

namespace lawFnMergeAggregates
theorem own : ownKnob Try.prog.godebug = none := by kernel_rfl
theorem laidOut : laidOutB Try.prog = true := by kernel_rfl

set_option maxRecDepth 100000 in
theorem lifted (os : Os) (started : os.Started) (H : Type) (enc : TypeId × Value → H) :
    ReturnsInHanded {} Try.checked os 7 .any (Rows.fnMergeAggregatesSpec.pre6 enc Try.prog Try.f7 Rows.fnMergeAggregatesRow.domain false) (Rows.fnMergeAggregatesSpec.post enc Try.prog Try.f7 false true false false) := by
  refine returnsInHanded_of_change (C := Try.checked) own started (by kernel_rfl) Try.func7
    (ChangeSpec.witness6 (enc := enc) (C := Try.checked) false ⟨#[], #[.slice none 0 0, .slice none 0 0], []⟩ 8 (by kernel_rfl) (by kernel_rfl) (by kernel_rfl) (by kernel_rfl)) ?_
  intro W base args ds gs before hval0 hW hcnd _
  have hval : ∀ (j : Nat) t v, Try.f7.params[j]? = some t → args[j]? = some v → Value.okWide Try.prog W .any base t v := hval0
  have hW' := hW
  obtain ⟨p, q, hA0, hV, rfl, hfz, hnd⟩ := hW
  have hA : DataW.TrodAll enc Try.prog W 0 (fun _ => true) true Try.f7.params.toList args.toList ds p := hA0
  rw [Try.params7] at hA hval
  obtain ⟨v0, vs0, d0, ds0, p0, q0, hargs, rfl, rfl, h0, r0⟩ := trodAll_cons hA
  obtain ⟨v1, vs1, d1, ds1, p1, q1, rfl, rfl, rfl, h1, r1⟩ := trodAll_cons r0
  obtain ⟨rfl, rfl, rfl⟩ := trodAll_nil r1
  obtain rfl : args = #[v0, v1] := by cases args; simp_all
  obtain ⟨rfl, rfl⟩ := trodVars_none hV
  obtain ⟨a0, len0, c0, rfl⟩ := okWide_slice Try.underlying37 (hval 0 37 v0 rfl rfl)
  obtain ⟨a1, len1, c1, rfl⟩ := okWide_slice Try.underlying37 (hval 1 37 v1 rfl rfl)
  have k0 := h0
  have lt0 : ∀ x ∈ p0, x.block < W.heap.size := by obtain ⟨m, hm⟩ := k0; exact DataW.trod_lt m _ _ _ hm
  obtain ⟨f0, h0⟩ := h0
  have k1 := h1
  have lt1 : ∀ x ∈ p1, x.block < W.heap.size := by obtain ⟨m, hm⟩ := k1; exact DataW.trod_lt m _ _ _ hm
  obtain ⟨f1, h1⟩ := h1
  obtain ⟨xs0, rfl, hc0, hm0, g0, s0⟩ := open_sl (sz := 1) (ec := byteC) Try.underlying37 (by kernel_rfl) (by omega) byteC_length (el_byte Try.underlying5) h0
  obtain ⟨xs1, rfl, hc1, hm1, g1, s1⟩ := open_sl (sz := 1) (ec := byteC) Try.underlying37 (by kernel_rfl) (by omega) byteC_length (el_byte Try.underlying5) h1
  clear hA0 hval0
  refine (FnMergeAggregates_walk a0 c0 xs0 a1 c1 xs1 W hc0 hm0 g0 s0 hc1 hm1 g1 s1).mono fun e W' ⟨he, bel⟩ => ?_
  subst he
  exact ⟨_, rfl, _, _, _, [], _, [], hW', trodAll_mk1 (shut_bool Try.underlying4 _), (trodAll_cons_mk (Below.trod laidOut (by kernel_rfl) (of_decide_eq_true (by kernel_rfl)) k0 bel lt0) (trodAll_cons_mk (Below.trod laidOut (by kernel_rfl) (of_decide_eq_true (by kernel_rfl)) k1 bel lt1) trodAll_mk0)), rfl, bel.frame _, fun h => by cases h⟩

theorem over : Rows.fnMergeAggregatesRow.holds Try.pinned (OpenSpec.ofChange Rows.fnMergeAggregatesSpec) :=
  OpenClaim.holds_of_wide 7 Try.f7 rfl rfl rfl rfl rfl rfl rfl ⟨rfl, rfl, rfl, rfl, rfl⟩ rfl rfl rfl rfl rfl (by kernel_rfl) Try.func7 (by kernel_rfl)
    (of_decide_eq_true (by kernel_rfl)) (by unfold Func.isWrapper; first | (rw [if_pos (by decide +kernel)]; kernel_rfl) | (rw [if_neg (by decide +kernel)]; exact ⟨rfl, rfl⟩))
    (fun os started H enc _ => lifted os started H enc)

theorem proved : Rows.FnMergeAggregatesSaid := over
end lawFnMergeAggregates
#print axioms lawFnMergeAggregates.proved

end Go.Proofs.Ytmljhkoabhjiaaa
