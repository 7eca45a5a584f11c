/-
  Contracts of IsSubtable's functions.
-/
import Derived.Test.YtlhonhacehgooaaGreatProg
import Derived.Test.YtlhonhacehgooaaGreatZrRwt
import Derived.Test.YtlhonhacehgooaaGreatZrPln
namespace Go.Proofs.YtlhonhacehgooaaGreat
open Go.RowKit Go.Qo
set_option linter.unusedVariables false
set_option linter.unusedSimpArgs false

set_option maxHeartbeats 400000 in
theorem isSubtable1_ok (A : Option Addr) (n c : Nat) (m m0 : Bool) (PB : Nat) (w : World) (hc : w.cell? ⟨PB, 0, none⟩ = some (.bool m0)) (hf : w.frozen? ⟨PB, 0, none⟩ = false) :
    Calls Tryz.prog 94 #[.slice A n c, .bool m, .pointer (some ⟨PB, 0, none⟩)] w fun e w' => e = .returned (.bool m) ∧ w' = w.setCell ⟨PB, 0, none⟩ (.bool m) := by
  have hc2 := World.cell?_setCell_same w ⟨PB, 0, none⟩ (.bool m) hc
  go_enter Tryz.func94, Tryz.ntmps94
  go_wp2
  go_ret
  exact ⟨rfl, rfl⟩

set_option maxHeartbeats 1000000 in
theorem eachMerged_sub_ok (W W' : Int) (A A' : Option Addr) (c c' : Nat) (xs ys : List Row1) (N PB : Nat) (w : World) (hN : N ≤ w.heap.size) (hn : xs.length ≤ maxLen) (hn' : ys.length ≤ maxLen) (h : Rws w N A xs) (h' : Rws w N A' ys) (hPB : N ≤ PB) (hrow : Row w PB 4 [.bool true]) :
    Calls Tryz.prog 93 #[.agg #[.int .i64 W, .slice A xs.length c], .agg #[.int .i64 W', .slice A' ys.length c'], .func (.func 94) #[] #[.pointer (some ⟨PB, 0, none⟩)]] w
      fun e w' => e = .returned (.tuple #[]) ∧ Below N w w' ∧ Row w' PB 4 [.bool ((merged xs ys).all (·.2))] := by
  unfold maxLen at hn hn'
  have hPlt := hrow.lt
  go_enter Tryz.func93, Tryz.ntmps93
  go_wp2
  go_loopg [6, 13] (xs.length) (fun g nx i wr => ∃ k j : Nat, k ≤ xs.length ∧ j ≤ ys.length ∧ g = xs.length - k ∧ i = .int .i64 k ∧ nx = .int .i64 j ∧ Below N w wr ∧ w.heap.size + 1 < wr.heap.size ∧
    Row wr (w.heap.size + 1) 32 [.int .i64 W', .slice A' ys.length c'] ∧ Row wr PB 4 [.bool true] ∧ (merged xs ys).all (·.2) = (merged (xs.drop k) (ys.drop j)).all (·.2))
  case atStart => exact ⟨0, 0, by omega, by omega, by omega, rfl, rfl, ((Below.refl _ _).alloc hN _).alloc (by simp; omega) _, by simp, Row.second _ _ _ _, (hrow.alloc _).alloc _, rfl⟩
  case round =>
    obtain ⟨k, j, hk, hj, rfl, rfl, rfl, hb, hsz, hbox, hP, hm⟩ := hrel
    have Hm := Lib.hid hm
    have Hbox := Lib.hid hbox
    have HP := Lib.hid hP
    clear hm hbox hP
    by_cases hlt : k < xs.length
    · obtain ⟨b, off, A1, C1, rfl, hB, c1, hc1, hm1, s1⟩ := ((h.below hb).more (show N ≤ wr.heap.size by omega)).at_ hlt
      have hx := Lib.hid (List.getElem?_eq_getElem hlt)
      generalize xs[k] = x at *
      go_wp2
      obtain ⟨wo, rfl⟩ : ∃ wo : World, wo = wr := ⟨_, rfl⟩
      go_loopg [6] (ys.length - j) (fun g nx wr => ∃ j' : Nat, j' ≤ ys.length ∧ g = ys.length - j' ∧ nx = .int .i64 j' ∧ Below wo.heap.size wo wr ∧ (ys.drop j).dropWhile (fun b => decide (rpCmp b x < 0)) = (ys.drop j').dropWhile (fun b => decide (rpCmp b x < 0)))
      case atStart => exact ⟨j, by omega, rfl, rfl, Below.refl _ _, rfl⟩
      case round =>
        obtain ⟨j', hj', rfl, rfl, hb2, hd⟩ := hrel
        have Hd := Lib.hid hd
        clear hd
        have hbt : N ≤ wo.heap.size := by omega
        have bx : wr.cell? ⟨w.heap.size + 1, 1, none⟩ = some (.slice A' ys.length c') := (Hbox.out.on hb2).cell 1
        have hs2 := hb2.size
        by_cases hlt2 : j' < ys.length
        · obtain ⟨b', off', A2, C2, rfl, hB2, c2, hc2, hm2, s2⟩ := ((h'.below (hb.trans (hb2.mono hbt))).more (show N ≤ wr.heap.size by omega)).at_ hlt2
          have hy := Lib.hid (List.getElem?_eq_getElem hlt2)
          generalize ys[j'] = y at *
          obtain ⟨R, hR⟩ : ∃ R, rpCmp y x = R := ⟨_, rfl⟩
          have HK := Lib.hid (implCompareRows_ok A2 A1 C2 C1 y x wr (by omega) (by omega) s2 (s1.on hb2))
          rw [hR] at HK
          have HR := Lib.hid hR
          have HL := Lib.hid (And.intro hc1 (And.intro hm1 (And.intro hc2 hm2)))
          have S1 := Lib.hid s1
          have S2 := Lib.hid s2
          clear hR s1 s2 hc1 hm1 hc2 hm2
          by_cases hneg : R < 0
          · go_wp2_with (go_at_call 116; refine HK.out.mono ?_; rintro e w1 ⟨rfl, hb3⟩)
            go_roundg (ys.length - (j' + 1))
            case measure => omega
            case rel => exact ⟨j' + 1, by omega, rfl, by go_num, bch hb2 (by assumption), Hd.out.trans (dropWhile_step hy.out (by rw [HR.out]; simp [hneg]))⟩
          · go_wp2_with fail
            refine HK.out.mono ?_; rintro e w1 ⟨rfl, hb3⟩
            have bx1 : w1.cell? ⟨w.heap.size + 1, 1, none⟩ = some (.slice (some ⟨b', off', none⟩) ys.length c') := ((Hbox.out.on hb2).on hb3).cell 1
            have c2' : w1.cell? ⟨b', off' + j', none⟩ = some (.slice A2 y.length C2) := (hb3.cell (p := ⟨b', _, none⟩) hB2).trans c2
            have HK2 := Lib.hid (implCompareRows_ok A2 A1 C2 C1 y x w1 (by have := HL.out; omega) (by have := HL.out; omega) (S2.out.on hb3) ((S1.out.on hb2).on hb3))
            rw [HR.out] at HK2
            have Hb3 := Lib.hid hb3
            clear hb3
            go_wp2_with fail
            refine HK2.out.mono ?_; rintro e w2 ⟨rfl, hb4⟩
            have hP2 := ((HP.out.on hb2).on Hb3.out).on hb4
            have key := Lib.hid (fun m => isSubtable1_ok A1 x.length C1 m true PB w2 (hP2.cell 0) (hP2.frozen 0))
            have HP2 := Lib.hid hP2
            have Hb4 := Lib.hid hb4
            clear hP2 hb4
            by_cases hz : R = 0
            · subst hz
              go_wp2_with fail
              refine (key.out true).mono ?_; rintro e w3 ⟨rfl, rfl⟩
              go_wp2_with fail
              go_roundg (xs.length - (k + 1))
              case measure => omega
              case rel =>
                have hbb : Below wo.heap.size wo w2 := bch (bch hb2 Hb3.out) Hb4.out
                have hs3 := hbb.size
                refine ⟨k + 1, j' + 1, by omega, by omega, rfl, by go_num, by go_num, (hb.trans (hbb.mono hbt)).setCell (p := ⟨_, _, none⟩) hPB _, by rw [World.size_setCell]; omega, ((Hbox.out.on hbb)).far (p := ⟨_, _, none⟩) (by dsimp only; omega) _, (HP2.out.set 0 _).of rfl, ?_⟩
                rw [Hm.out, merged_eq hx.out Hd.out hy.out HR.out]
                simp
            · have hzb : (R == 0) = false := by simp [hz]
              have Hz := Lib.hid hz
              clear hz
              go_wp2_with fail
              refine (key.out false).mono ?_; rintro e w3 ⟨rfl, rfl⟩
              go_wp2_with fail
              refine bodyPost_ret (results_none rfl _ _ _) rfl ?_
              have hbb : Below wo.heap.size wo w2 := bch (bch hb2 Hb3.out) Hb4.out
              refine ⟨rfl, (hb.trans (hbb.mono hbt)).setCell (p := ⟨_, _, none⟩) hPB _, (HP2.out.set 0 _).of ?_⟩
              rw [Hm.out, merged_ne hx.out Hd.out hy.out (by rw [HR.out]; omega) (by rw [HR.out]; exact Hz.out)]
              rfl
        · have hP2 := HP.out.on hb2
          have key := Lib.hid (isSubtable1_ok A1 x.length C1 false true PB wr (hP2.cell 0) (hP2.frozen 0))
          have HP2 := Lib.hid hP2
          clear hP2
          go_wp2_with fail
          refine key.out.mono ?_; rintro e w3 ⟨rfl, rfl⟩
          go_wp2_with fail
          refine bodyPost_ret (results_none rfl _ _ _) rfl ?_
          refine ⟨rfl, (hb.trans (hb2.mono hbt)).setCell (p := ⟨_, _, none⟩) hPB _, (HP2.out.set 0 _).of ?_⟩
          rw [Hm.out, merged_end hx.out Hd.out (by omega)]
          rfl
    · go_wp2
      go_end0
      refine ⟨rfl, hb, HP.out.of ?_⟩
      rw [Hm.out, List.drop_eq_nil_of_le (by omega)]
      rfl

set_option maxHeartbeats 1000000 in
theorem implIsSubtable_ok (W W' : Int) (A A' : Option Addr) (c c' : Nat) (xs ys : List Row1) (w : World) (hn : xs.length ≤ maxLen) (hn' : ys.length ≤ maxLen) (h : Rws w w.heap.size A xs) (h' : Rws w w.heap.size A' ys) (r : Bool) (hr : r = true ↔ ((TabOk W xs ∧ TabOk W' ys ∧ W = W') ∧ (merged xs ys).all (·.2) = true)) :
    Calls Tryz.prog 36 #[.agg #[.int .i64 W, .slice A xs.length c], .agg #[.int .i64 W', .slice A' ys.length c']] w fun e w' => e = .returned (.bool r) ∧ Below w.heap.size w w' := by
  have Hr := Lib.hid hr
  clear hr
  obtain ⟨q, hq⟩ : ∃ q : Bool, q = true ↔ (TabOk W xs ∧ TabOk W' ys ∧ W = W') := ⟨_, @decide_eq_true_iff _ (Classical.propDecidable _)⟩
  have H1 := Lib.hid (fun (z : World) (hz : Below w.heap.size w z) => sameWidth_ok W W' A A' c c' xs ys z hn hn' (h.on hz) (h'.on hz) q hq)
  have HQ := Lib.hid hq
  have Hh := Lib.hid (And.intro h h')
  clear hq h h'
  cases q
  · have hf : r = false := bfalse Hr.out fun ht => by have := HQ.out.2 ht.1; cases this
    subst hf
    go_enter Tryz.func36, Tryz.ntmps36
    go_wp2_with (go_at_call 92; refine (H1.out _ (balloc (balloc (Below.refl _ _) _) _)).mono ?_; rintro e w1 ⟨rfl, hb1⟩)
    go_ret
    exact ⟨rfl, bbox2 (by assumption)⟩
  · go_enter Tryz.func36, Tryz.ntmps36
    go_wp2_with fail
    refine (H1.out _ (balloc (balloc (Below.refl _ _) _) _)).mono ?_; rintro e w1 ⟨rfl, hb1⟩
    have r1 := (Row.second _ _ _ _).on hb1
    have r0 := (Row.first _ _ _ _).on hb1
    have e0 : ∀ o, (w1.alloc o).cell? ⟨w.heap.size + 1, 0, none⟩ = some (.int .i64 W') := fun o => (r1.alloc o).cell 0
    have e1 : ∀ o, (w1.alloc o).cell? ⟨w.heap.size + 1, 1, none⟩ = some (.slice A' ys.length c') := fun o => (r1.alloc o).cell 1
    have e2 : ∀ o, (w1.alloc o).cell? ⟨w.heap.size, 0, none⟩ = some (.int .i64 W) := fun o => (r0.alloc o).cell 0
    have e3 : ∀ o, (w1.alloc o).cell? ⟨w.heap.size, 1, none⟩ = some (.slice A xs.length c) := fun o => (r0.alloc o).cell 1
    have Hb1 := Lib.hid hb1
    clear r1 r0 hb1
    go_wp2_with fail
    have hbw := bbox2 Hb1.out
    have hsw := hbw.size
    refine (eachMerged_sub_ok W W' A A' c c' xs ys w.heap.size w1.heap.size _ (by simp; omega) hn hn' ((Hh.out.1).below (balloc hbw _)) ((Hh.out.2).below (balloc hbw _)) hsw (Row.new _ _ _)).mono ?_
    rintro e w2 ⟨rfl, hb2, hrow2⟩
    have e4 : w2.cell? ⟨w1.heap.size, 0, none⟩ = some (.bool ((merged xs ys).all (·.2))) := hrow2.cell 0
    have hrd : r = (merged xs ys).all (·.2) := by
      cases hm : (merged xs ys).all (·.2)
      · exact bfalse Hr.out fun ht => by rw [hm] at ht; cases ht.2
      · exact btrue Hr.out ⟨HQ.out.1 (by trivial), hm⟩
    rw [← hrd] at e4
    have Hrow2 := Lib.hid hrow2
    clear hrow2 hrd
    go_wp2
    go_ret
    exact ⟨rfl, (balloc hbw _).trans hb2⟩

end Go.Proofs.YtlhonhacehgooaaGreat
