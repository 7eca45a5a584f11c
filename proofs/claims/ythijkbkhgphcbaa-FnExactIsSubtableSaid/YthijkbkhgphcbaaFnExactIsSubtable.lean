/-
  FnExactIsSubtable returns true for all arguments and leaves them as they were. No condition.
-/
import Derived.Test.YthijkbkhgphcbaaRows
import Derived.OpenShut
import Derived.Test.YthijkbkhgphcbaaSub
import Derived.Test.YthijkbkhgphcbaaOrdD
import Derived.Test.YthijkbkhgphcbaaArg
import Derived.Test.YthijkbkhgphcbaaArgT
namespace Go.Proofs.Ythijkbkhgphcbaa
open Go.RowKit Go.Qo
open Go.ChangeShapes Go.WideShapes Go.ChangeAt
set_option linter.unusedVariables false
set_option linter.unusedSimpArgs false

theorem two_rows {w w1 : World} {t t' : TypeId} {c c' : Array Value} (hb : Below ((w.alloc (.cells c t)).alloc (.cells c' t')).heap.size ((w.alloc (.cells c t)).alloc (.cells c' t')) w1) :
    Row w1 w.heap.size t c.toList ∧ Row w1 (w.heap.size + 1) t' c'.toList := ⟨(Row.first _ _ _ _).on hb, (Row.second _ _ _ _).on hb⟩

set_option maxHeartbeats 2000000 in
theorem FnExactIsSubtable_walk (W W' : Int) (A A' : Option Addr) (c c' : Nat) (xs ys : List Row1) (w : World) (hn : xs.length ≤ maxLen) (hn' : ys.length ≤ maxLen) (h : Rws w w.heap.size A xs) (h' : Rws w w.heap.size A' ys) :
    Calls Try.prog 4 #[.agg #[.int .i64 W, .slice A xs.length c], .agg #[.int .i64 W', .slice A' ys.length c']] w fun e w' => e = .returned (.bool true) ∧ Below w.heap.size w w' := by
  obtain ⟨l, hl⟩ : ∃ l, szR 1048576 xs = l := ⟨_, rfl⟩
  have K1 := Lib.hid (fun (z : World) (hz : Below w.heap.size w z) => szTable_ok W A c xs 1048576 z hn (by omega) (by omega) (h.on hz) l hl)
  have hr1 := szR_range xs 1048576 (by omega)
  rw [hl] at hr1
  have Hr1 := Lib.hid hr1
  clear hr1 hl
  rcases Hr1.out with rfl | ⟨hl0, hl1, hx1, hx2⟩
  · clear h h'
    go_enter Try.func4, Try.ntmps4
    go_wp2_with fail
    refine (K1.out _ (balloc (balloc (Below.refl _ _) _) _)).mono ?_; rintro e w1 ⟨rfl, hb1⟩
    go_wp2_with fail
    go_ret
    exact ⟨rfl, bbox2 hb1⟩
  · obtain ⟨m, hm⟩ : ∃ m, szR l ys = m := ⟨_, rfl⟩
    have K2 := Lib.hid (fun (z : World) (hz : Below w.heap.size w z) => szTable_ok W' A' c' ys l z hn' hl0 hl1 (h'.on hz) m hm)
    have hr2 := szR_range ys l hl0
    rw [hm] at hr2
    have Hr2 := Lib.hid hr2
    have Hx := Lib.hid (And.intro hx1 hx2)
    have Hn := Lib.hid (And.intro hn hn')
    clear hr2 hm hx1 hx2
    rcases Hr2.out with rfl | ⟨hm0, hm1, hy1, hy2⟩
    · clear h h'
      go_enter Try.func4, Try.ntmps4
      go_wp2_with fail
      refine (K1.out _ (balloc (balloc (Below.refl _ _) _) _)).mono ?_; rintro e w1 ⟨rfl, hb1⟩
      have r1 := (two_rows hb1).2
      have e0 : w1.cell? ⟨w.heap.size + 1, 0, none⟩ = some (.int .i64 W') := r1.cell 0
      have e1 : w1.cell? ⟨w.heap.size + 1, 1, none⟩ = some (.slice A' ys.length c') := r1.cell 1
      have Hb1 := Lib.hid hb1
      clear r1 hb1
      go_wp2_with fail
      refine (K2.out _ (bbox2 Hb1.out)).mono ?_; rintro e w2 ⟨rfl, hb2⟩
      go_wp2_with fail
      go_ret
      exact ⟨rfl, bch (bbox2 Hb1.out) hb2⟩
    · obtain ⟨d, hd1⟩ : ∃ d : Bool, d = true ↔ ((TabOk W xs ∧ TabOk W' ys ∧ W = W') ∧ ∀ x ∈ xs, cnt xs x ≤ cnt ys x) := ⟨_, @decide_eq_true_iff _ (Classical.propDecidable _)⟩
      have Hd1 := Lib.hid hd1
      clear hd1
      have Hy := Lib.hid (And.intro hy1 hy2)
      have Hh := Lib.hid (And.intro h h')
      clear hy1 hy2 h h' hn hn'
      go_enter Try.func4, Try.ntmps4
      go_wp2_with fail
      refine (K1.out _ (balloc (balloc (Below.refl _ _) _) _)).mono ?_; rintro e w1 ⟨rfl, hb1⟩
      have r1 := (two_rows hb1).2
      have e0 : w1.cell? ⟨w.heap.size + 1, 0, none⟩ = some (.int .i64 W') := r1.cell 0
      have e1 : w1.cell? ⟨w.heap.size + 1, 1, none⟩ = some (.slice A' ys.length c') := r1.cell 1
      have R := Lib.hid (two_rows hb1)
      have Hb1 := Lib.hid (bbox2 hb1)
      clear r1 hb1
      go_wp2_with fail
      refine (K2.out _ Hb1.out).mono ?_; rintro e w2 ⟨rfl, hb2⟩
      have R2 := Lib.hid (And.intro (R.out.1.on hb2) (R.out.2.on hb2))
      have Hb2 := Lib.hid (bch Hb1.out hb2)
      clear e0 e1 R Hb1 hb2
      go_wp2_with fail
      have KS := Lib.hid (fun (z : World) (hz : Below w2.heap.size w2 z) => show (z.cell? ⟨w.heap.size, 0, none⟩ = some (.int .i64 W) ∧ z.cell? ⟨w.heap.size, 1, none⟩ = some (.slice A xs.length c) ∧ z.cell? ⟨w.heap.size + 1, 0, none⟩ = some (.int .i64 W') ∧ z.cell? ⟨w.heap.size + 1, 1, none⟩ = some (.slice A' ys.length c'))
        from ⟨(R2.out.1.on hz).cell 0, (R2.out.1.on hz).cell 1, (R2.out.2.on hz).cell 0, (R2.out.2.on hz).cell 1⟩)
      have T1 := Lib.hid (fun (z : World) (hz : Below w2.heap.size w2 z) => toTable_ok W A c xs z (by have := Hx.out.1; omega) (fun r hr => by have := Hx.out.2 r hr; omega) (Hh.out.1.on (bch Hb2.out hz)))
      have T2 := Lib.hid (fun (z : World) (hz : Below w2.heap.size w2 z) => toTable_ok W' A' c' ys z (by have := Hy.out.1; omega) (fun r hr => by have := Hy.out.2 r hr; omega) (Hh.out.2.on (bch Hb2.out hz)))
      have hd : Below w2.heap.size w2 w2.drew := (Below.refl _ _).drew
      have Hd := Lib.hid hd
      clear hd
      have hS := KS.out _ Hd.out
      have ML := Lib.hid (And.intro (fun r (hr : r ∈ xs) => show r.length ≤ maxLen by have := Hx.out.2 r hr; unfold maxLen; omega) (fun r (hr : r ∈ ys) => show r.length ≤ maxLen by have := Hy.out.2 r hr; unfold maxLen; omega))
      go_region_held3 (fun z => z.cell? ⟨w.heap.size, 0, none⟩ = some (.int .i64 W) ∧ z.cell? ⟨w.heap.size, 1, none⟩ = some (.slice A xs.length c) ∧ z.cell? ⟨w.heap.size + 1, 0, none⟩ = some (.int .i64 W') ∧ z.cell? ⟨w.heap.size + 1, 1, none⟩ = some (.slice A' ys.length c'))
        (assumption)
        (first
          | (go_at_call_of 16 (Value.int .i64 W); refine (T1.out _ Hd.out).mono ?_; rintro e w3 ⟨b3, bs3, rfl, hb3, ho3⟩; have H3 := Lib.hid (bch Hd.out hb3); have hS3 := KS.out _ H3.out; have O3 := Lib.hid ho3; clear hb3 ho3)
          | (go_at_call_of 16 (Value.int .i64 W'); refine (T2.out _ H3.out).mono ?_; rintro e w4 ⟨b4, bs4, rfl, hb4, ho4⟩; have H4 := Lib.hid (bch H3.out hb4); have hS4 := KS.out _ H4.out; have O3' := Lib.hid (O3.out.on hb4); have O4 := Lib.hid ho4; clear hb4 ho4)
          | (go_at_call 15; refine (specIsSubtable_ok W W' _ _ _ _ xs ys _ Hn.out.1 Hn.out.2 (O3'.out.svs (by omega) valC_length ML.out.1) (O4.out.svs (by omega) valC_length ML.out.2) _ Hd1.out).mono ?_; rintro e w5 ⟨rfl, hb5⟩; have H5 := Lib.hid (bch H4.out hb5); have hS5 := KS.out _ H5.out; clear hb5))
      have Hd2 : Hid (d = true ↔ ((TabOk W xs ∧ TabOk W' ys ∧ W = W') ∧ (merged xs ys).all (·.2) = true)) := by
        refine Lib.hid ?_
        rw [Hd1.out]
        constructor
        · rintro ⟨⟨h1, h2, h3⟩, h4⟩
          exact ⟨⟨h1, h2, h3⟩, (merged_all h1.srt (h3 ▸ h2.srt)).2 h4⟩
        · rintro ⟨⟨h1, h2, h3⟩, h4⟩
          exact ⟨⟨h1, h2, h3⟩, (merged_all h1.srt (h3 ▸ h2.srt)).1 h4⟩
      go_wp2_with fail
      refine (T1.out _ H5.out).mono ?_
      rintro e w6 ⟨b6, bs6, rfl, hb6, ho6⟩
      have H6 := Lib.hid (bch H5.out hb6)
      have O6 := Lib.hid ho6
      have hS6 := fun o => KS.out (w6.alloc o) (balloc H6.out o)
      clear hb6 ho6
      go_wp2_with fail
      refine (T2.out _ (balloc H6.out _)).mono ?_
      rintro e w7 ⟨b7, bs7, rfl, hb7, ho7⟩
      have H7 := Lib.hid (bch (balloc H6.out _) hb7)
      have O7 := Lib.hid ho7
      have B7 := Lib.hid ((Row.new w6 _ _).on hb7)
      have H67 := Lib.hid (bch (balloc (Below.refl _ w6) _) hb7)
      have f0 := fun o => (B7.out.alloc o).cell 0
      have f1 := fun o => (B7.out.alloc o).cell 1
      simp only [List.getElem?_cons_zero, List.getElem?_cons_succ] at f0 f1
      clear hb7 ho7 hS6
      go_wp2_with fail
      have H78 := Lib.hid (balloc (Below.refl _ w7) (.cells #[.int .i64 W', .slice (some ⟨b7, 0, none⟩) ys.length ys.length] 35))
      refine (implIsSubtable_ok W W' _ _ _ _ xs ys _ Hn.out.1 Hn.out.2 ((((O6.out.on H67.out).on H78.out)).svs (by omega) valC_length ML.out.1) ((O7.out.on H78.out).svs (by omega) valC_length ML.out.2) d Hd2.out).mono ?_
      rintro e w8 ⟨rfl, hb8⟩
      have H8 := Lib.hid (bch (balloc H7.out _) hb8)
      have B8 := Lib.hid ((B7.out.alloc _).on hb8)
      have B8' := Lib.hid ((Row.new w7 _ _).on hb8)
      have H79 := Lib.hid (bch H78.out hb8)
      clear hb8 f0 f1
      go_wp2_with fail
      have hd8 : Below w8.heap.size w8 w8.drew := (Below.refl _ _).drew
      have Hd8 := Lib.hid hd8
      clear hd8
      have KT := Lib.hid (fun (z : World) (hz : Below w8.heap.size w8 z) => show ((z.cell? ⟨w6.heap.size, 0, none⟩ = some (.int .i64 W) ∧ z.cell? ⟨w6.heap.size, 1, none⟩ = some (.slice (some ⟨b6, 0, none⟩) xs.length xs.length)) ∧ (z.cell? ⟨w7.heap.size, 0, none⟩ = some (.int .i64 W') ∧ z.cell? ⟨w7.heap.size, 1, none⟩ = some (.slice (some ⟨b7, 0, none⟩) ys.length ys.length)) ∧ z.cell? ⟨w.heap.size, 0, none⟩ = some (.int .i64 W) ∧ z.cell? ⟨w.heap.size, 1, none⟩ = some (.slice A xs.length c) ∧ z.cell? ⟨w.heap.size + 1, 0, none⟩ = some (.int .i64 W') ∧ z.cell? ⟨w.heap.size + 1, 1, none⟩ = some (.slice A' ys.length c'))
        from ⟨⟨(B8.out.on hz).cell 0, (B8.out.on hz).cell 1⟩, ⟨(B8'.out.on hz).cell 0, (B8'.out.on hz).cell 1⟩, KS.out _ (bch H8.out hz)⟩)
      have X6 := Lib.hid (fun (z : World) (hz : Below w8.heap.size w8 z) => ((O6.out.on H67.out).on (bch H79.out hz)).svs (by omega) valC_length ML.out.1)
      have X7 := Lib.hid (fun (z : World) (hz : Below w8.heap.size w8 z) => (O7.out.on (bch H79.out hz)).svs (by omega) valC_length ML.out.2)
      have hS8 := KT.out _ Hd8.out
      clear hS hS3 hS4 hS5
      go_region_held3 (fun z => (z.cell? ⟨w6.heap.size, 0, none⟩ = some (.int .i64 W) ∧ z.cell? ⟨w6.heap.size, 1, none⟩ = some (.slice (some ⟨b6, 0, none⟩) xs.length xs.length)) ∧ (z.cell? ⟨w7.heap.size, 0, none⟩ = some (.int .i64 W') ∧ z.cell? ⟨w7.heap.size, 1, none⟩ = some (.slice (some ⟨b7, 0, none⟩) ys.length ys.length)) ∧ z.cell? ⟨w.heap.size, 0, none⟩ = some (.int .i64 W) ∧ z.cell? ⟨w.heap.size, 1, none⟩ = some (.slice A xs.length c) ∧ z.cell? ⟨w.heap.size + 1, 0, none⟩ = some (.int .i64 W') ∧ z.cell? ⟨w.heap.size + 1, 1, none⟩ = some (.slice A' ys.length c'))
        (assumption)
        (first
          | (go_at_call 16; refine (T1.out _ (bch H8.out Hd8.out)).mono ?_; rintro e w9 ⟨b9, bs9, rfl, hb9, ho9⟩; have H9 := Lib.hid (bch Hd8.out hb9); have hS9 := KT.out _ H9.out; have O9 := Lib.hid ho9; clear hb9 ho9)
          | (go_at_call 18; refine (eqTable_ok W W _ _ _ _ xs xs _ Hn.out.1 Hn.out.1 (X6.out _ H9.out) (O9.out.svs (by omega) valC_length ML.out.1) true (by simp)).mono ?_; rintro e w10 ⟨rfl, hb10⟩; have H10 := Lib.hid (bch H9.out hb10); have hS10 := KT.out _ H10.out; clear hb10))
      go_wp2_with fail
      have hd10 : Below w8.heap.size w8 w10.drew := H10.out.drew
      have Hd10 := Lib.hid hd10
      clear hd10
      have hS10' := KT.out _ Hd10.out
      go_region_held3 (fun z => (z.cell? ⟨w6.heap.size, 0, none⟩ = some (.int .i64 W) ∧ z.cell? ⟨w6.heap.size, 1, none⟩ = some (.slice (some ⟨b6, 0, none⟩) xs.length xs.length)) ∧ (z.cell? ⟨w7.heap.size, 0, none⟩ = some (.int .i64 W') ∧ z.cell? ⟨w7.heap.size, 1, none⟩ = some (.slice (some ⟨b7, 0, none⟩) ys.length ys.length)) ∧ z.cell? ⟨w.heap.size, 0, none⟩ = some (.int .i64 W) ∧ z.cell? ⟨w.heap.size, 1, none⟩ = some (.slice A xs.length c) ∧ z.cell? ⟨w.heap.size + 1, 0, none⟩ = some (.int .i64 W') ∧ z.cell? ⟨w.heap.size + 1, 1, none⟩ = some (.slice A' ys.length c'))
        (assumption)
        (first
          | (go_at_call 16; refine (T2.out _ (bch H8.out Hd10.out)).mono ?_; rintro e w11 ⟨b11, bs11, rfl, hb11, ho11⟩; have H11 := Lib.hid (bch Hd10.out hb11); have hS11 := KT.out _ H11.out; have O11 := Lib.hid ho11; clear hb11 ho11)
          | (go_at_call 18; refine (eqTable_ok W' W' _ _ _ _ ys ys _ Hn.out.2 Hn.out.2 (X7.out _ H11.out) (O11.out.svs (by omega) valC_length ML.out.2) true (by simp)).mono ?_; rintro e w12 ⟨rfl, hb12⟩; have H12 := Lib.hid (bch H11.out hb12); have hS12 := KT.out _ H12.out; clear hb12))
      go_wp2_with fail
      go_ret
      exact ⟨rfl, bch Hb2.out (bch H8.out H12.out)⟩

namespace lawFnExactIsSubtable
theorem own : ownKnob Try.prog.godebug = none := by kernel_rfl
theorem laidOut : laidOutB Try.prog = true := by kernel_rfl
theorem valTypes : ValTypes Try.prog 108 4 3 := ⟨⟨_, _, Try.underlying108, rfl, rfl, rfl, rfl⟩, Try.underlying4, Try.underlying3, by kernel_rfl, by kernel_rfl, by kernel_rfl⟩

set_option maxRecDepth 100000 in
theorem lifted (os : Os) (started : os.Started) (H : Type) (enc : TypeId × Value → H) :
    ReturnsInHanded {} Try.checked os 4 .any (Rows.fnExactIsSubtableSpec.pre6 enc Try.prog Try.f4 Rows.fnExactIsSubtableRow.domain false) (Rows.fnExactIsSubtableSpec.post enc Try.prog Try.f4 false true false false) := by
  refine returnsInHanded_of_change (C := Try.checked) own started (by kernel_rfl) Try.func4
    (ChangeSpec.witness6 (enc := enc) (C := Try.checked) false ⟨#[], #[.agg #[.int .i64 0, .slice none 0 0], .agg #[.int .i64 0, .slice none 0 0]], []⟩ 8 (by kernel_rfl) (by kernel_rfl) (by kernel_rfl) (by kernel_rfl)) ?_
  intro W base args ds gs before hval0 hW hcnd _
  have hval : ∀ (j : Nat) t v, Try.f4.params[j]? = some t → args[j]? = some v → Value.okWide Try.prog W .any base t v := hval0
  have hW' := hW
  obtain ⟨p, q, hA0, hV, rfl, hfz, hnd⟩ := hW
  have hA : DataW.TrodAll enc Try.prog W 0 (fun _ => true) true Try.f4.params.toList args.toList ds p := hA0
  rw [Try.params4] at hA hval
  obtain ⟨v0, vs0, d0, ds0, p0, q0, hargs, rfl, rfl, h0, r0⟩ := trodAll_cons hA
  obtain ⟨v1, vs1, d1, ds1, p1, q1, rfl, rfl, rfl, h1, r1⟩ := trodAll_cons r0
  obtain ⟨rfl, rfl, rfl⟩ := trodAll_nil r1
  obtain rfl : args = #[v0, v1] := by cases args; simp_all
  obtain ⟨rfl, rfl⟩ := trodVars_none hV
  have kT : Try.prog.cellsOf 30 = 2 := by kernel_rfl
  obtain ⟨cs0, rfl, hz0⟩ := okWide_struct Try.underlying30 (hval 0 30 v0 rfl rfl)
  obtain ⟨cs1, rfl, hz1⟩ := okWide_struct Try.underlying30 (hval 1 30 v1 rfl rfl)
  obtain ⟨cs0⟩ := cs0
  obtain ⟨cs1⟩ := cs1
  have k0 := h0
  have k1 := h1
  have lt0 : ∀ x ∈ p0, x.block < W.heap.size := by obtain ⟨m, hm⟩ := k0; exact DataW.trod_lt m _ _ _ hm
  have lt1 : ∀ x ∈ p1, x.block < W.heap.size := by obtain ⟨m, hm⟩ := k1; exact DataW.trod_lt m _ _ _ hm
  obtain ⟨f0, h0⟩ := h0
  obtain ⟨f1, h1⟩ := h1
  have tT : ∃ f0 f1 : Field, Try.prog.underlying 30 = some (.struct #[f0, f1]) ∧ f0.offset = 0 ∧ f1.offset = 1 ∧ f0.type = 3 ∧ f1.type = 28 := ⟨_, _, Try.underlying30, rfl, rfl, rfl, rfl⟩
  obtain ⟨W0, a0, c0, xs, hcs0, _, hc0, hm0, s0⟩ := open_tab valTypes Try.underlying28 Try.underlying73 (by kernel_rfl) (by kernel_rfl) tT (hz0.trans kT) h0
  obtain ⟨W1, a1, c1, ys, hcs1, _, hc1, hm1, s1⟩ := open_tab valTypes Try.underlying28 Try.underlying73 (by kernel_rfl) (by kernel_rfl) tT (hz1.trans kT) h1
  have hcs0 : cs0 = [.int .i64 W0, .slice a0 xs.length c0] := hcs0
  have hcs1 : cs1 = [.int .i64 W1, .slice a1 ys.length c1] := hcs1
  subst hcs0
  subst hcs1
  clear hA0 hval0
  refine (FnExactIsSubtable_walk W0 W1 a0 a1 c0 c1 xs ys W (Nat.le_trans hc0 hm0) (Nat.le_trans hc1 hm1) s0 s1).mono fun e W' ⟨he, bel⟩ => ?_
  subst he
  exact ⟨_, rfl, _, _, _, [], _, [], hW', trodAll_mk1 (shut_bool Try.underlying4 _), (trodAll_cons_mk (Below.trod laidOut (by kernel_rfl) (of_decide_eq_true (by kernel_rfl)) k0 bel lt0) (trodAll_cons_mk (Below.trod laidOut (by kernel_rfl) (of_decide_eq_true (by kernel_rfl)) k1 bel lt1) trodAll_mk0)), rfl, bel.frame _, fun h => by cases h⟩

theorem over : Rows.fnExactIsSubtableRow.holds Try.pinned (OpenSpec.ofChange Rows.fnExactIsSubtableSpec) :=
  OpenClaim.holds_of_wide 4 Try.f4 rfl rfl rfl rfl rfl rfl rfl ⟨rfl, rfl, rfl, rfl, rfl⟩ rfl rfl rfl rfl rfl (by kernel_rfl) Try.func4 (by kernel_rfl)
    (of_decide_eq_true (by kernel_rfl)) (by unfold Func.isWrapper; first | (rw [if_pos (by decide +kernel)]; kernel_rfl) | (rw [if_neg (by decide +kernel)]; exact ⟨rfl, rfl⟩))
    (fun os started H enc _ => lifted os started H enc)

theorem proved : Rows.FnExactIsSubtableSaid := over
end lawFnExactIsSubtable
#print axioms lawFnExactIsSubtable.proved

end Go.Proofs.Ythijkbkhgphcbaa
