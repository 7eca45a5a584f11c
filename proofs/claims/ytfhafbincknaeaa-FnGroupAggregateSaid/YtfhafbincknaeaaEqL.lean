/-
  Contracts of equalRows, equalBags, equalTables: the statements' own.
-/
import Derived.Test.YtfhafbincknaeaaProg
import Derived.Test.YtfhafbincknaeaaRwt
namespace Go.Proofs.Ytfhafbincknaeaa
open Go.RowKit Go.Qo
set_option linter.unusedVariables false
set_option linter.unusedSimpArgs false

set_option maxHeartbeats 400000 in
theorem equalRows_ok (A A' : Option Addr) (c c' : Nat) (xs ys : List Val) (w : World) (hn : xs.length ≤ maxLen) (hn' : ys.length ≤ maxLen) (h : Sl 2 valC w w.heap.size A xs) (h' : Sl 2 valC w w.heap.size A' ys) :
    Calls Try.prog 63 #[.slice A xs.length c, .slice A' ys.length c'] w fun e w' => e = .returned (.bool (decide (xs = ys))) ∧ Below w.heap.size w w' := by
  unfold maxLen at hn hn'
  by_cases hl : xs.length = ys.length
  · have hl' := Lib.hid hl
    have hle : xs.length ≤ ys.length := by omega
    have hne : ((xs.length : Int) != (ys.length : Int)) = false := by simp [hl]
    clear hl
    go_enter Try.func63, Try.ntmps63
    go_wp2
    go_loopg [5] (xs.length) (fun g i wr => ∃ k : Nat, k ≤ xs.length ∧ g = xs.length - k ∧ i = .int .i64 k ∧ Below w.heap.size w wr ∧ xs.take k = ys.take k)
    case atStart => exact ⟨0, by omega, by omega, rfl, Below.refl _ _, rfl⟩
    case round =>
      obtain ⟨k, hk, rfl, rfl, hb, hp⟩ := hrel
      have Hp := Lib.hid hp
      clear hp
      by_cases hlt : k < xs.length
      · obtain ⟨b, off, rfl, hB, c1, c2⟩ := Val.at_ (h.below hb) hlt
        obtain ⟨b', off', rfl, hB', c1', c2'⟩ := Val.at_ (h'.below hb) (i := k) (by omega)
        have hx := Lib.hid (List.getElem?_eq_getElem hlt)
        have hy := Lib.hid (List.getElem?_eq_getElem (show k < ys.length by omega))
        generalize xs[k] = x at *
        generalize ys[k] = y at *
        have hlt' : k < ys.length := by omega
        have hg := eqgVal
        by_cases hxy : x = y
        · have hneq := neqVal (x := x) (y := y) false (by simp [hxy])
          have Hxy := Lib.hid hxy
          clear hxy
          go_wp2
          go_quiet (fail)
          go_wp2
          go_roundg (xs.length - (k + 1))
          case measure => omega
          case rel => exact ⟨k + 1, by omega, rfl, by go_num, bdrewN hb _, take_eq_succ Hp.out hx.out (Hxy.out ▸ hy.out)⟩
        · have hneq := neqVal (x := x) (y := y) true (by simp [hxy])
          have Hxy := Lib.hid hxy
          clear hxy
          go_wp2
          go_quiet (fail)
          go_wp2
          go_ret
          exact ⟨ret_bool (decide_eq_false (ne_of_at hx.out hy.out Hxy.out)).symm, bdrewN hb _⟩
      · go_wp2
        go_ret
        exact ⟨ret_bool (decide_eq_true (eq_of_take Hp.out (by omega) (by have := hl'.out; omega))).symm, hb⟩
  · go_enter Try.func63, Try.ntmps63
    go_wp2
    go_ret
    exact ⟨ret_bool (decide_eq_false fun he => hl (by rw [he])).symm, Below.refl _ _⟩

set_option maxHeartbeats 400000 in
theorem equalBags_ok (A A' : Option Addr) (c c' : Nat) (xs ys : List Row1) (w : World) (hn : xs.length ≤ maxLen) (hn' : ys.length ≤ maxLen) (h : Rws w w.heap.size A xs) (h' : Rws w w.heap.size A' ys) :
    Calls Try.prog 39 #[.slice A xs.length c, .slice A' ys.length c'] w fun e w' => e = .returned (.bool (decide (xs = ys))) ∧ Below w.heap.size w w' := by
  unfold maxLen at hn hn'
  by_cases hl : xs.length = ys.length
  · have hl' := Lib.hid hl
    have hle : xs.length ≤ ys.length := by omega
    have hne : ((xs.length : Int) != (ys.length : Int)) = false := by simp [hl]
    clear hl
    go_enter Try.func39, Try.ntmps39
    go_wp2
    go_loopg [5] (xs.length) (fun g i wr => ∃ k : Nat, k ≤ xs.length ∧ g = xs.length - k ∧ i = .int .i64 k ∧ Below w.heap.size w wr ∧ xs.take k = ys.take k)
    case atStart => exact ⟨0, by omega, by omega, rfl, Below.refl _ _, rfl⟩
    case round =>
      obtain ⟨k, hk, rfl, rfl, hb, hp⟩ := hrel
      have Hp := Lib.hid hp
      clear hp
      by_cases hlt : k < xs.length
      · obtain ⟨b, off, A1, C1, rfl, hB, c1, hc1, hm1, s1⟩ := (h.on hb).at_ hlt
        obtain ⟨b', off', A2, C2, rfl, hB', c2, hc2, hm2, s2⟩ := (h'.on hb).at_ (i := k) (by omega)
        have hx := Lib.hid (List.getElem?_eq_getElem hlt)
        have hy := Lib.hid (List.getElem?_eq_getElem (show k < ys.length by omega))
        generalize xs[k] = x at *
        generalize ys[k] = y at *
        have d1 := fun z : Aft wr.heap.size wr => z.cell (by omega) c1
        have d2 := fun z : Aft wr.heap.size wr => z.cell (by omega) c2
        have hlt' : k < ys.length := by omega
        obtain ⟨r, hr⟩ : ∃ r, decide (x = y) = r := ⟨_, rfl⟩
        have key := fun z : Aft wr.heap.size wr => equalRows_ok A1 A2 C1 C2 x y z.v (by omega) (by omega) (s1.on z.h) (s2.on z.h)
        rw [hr] at key
        have Hk := Lib.hid key
        have Hr := Lib.hid hr
        clear key hr s1 s2 hc1 hm1 hc2 hm2
        go_wp2
        refine wp_region_aft wr.heap.size (by kernel_rfl) (by kernel_rfl) ?_
        repeat (go_big_quiet_step ((go_at_call 63; exact Calls.aft (Nat.le_refl _) (Hk.out _))))
        refine wpQuiet_nil ?_
        intro _ hw'
        obtain ⟨⟨w1, hb1⟩, rfl⟩ := hw'
        cases r
        · go_wp2
          go_ret
          exact ⟨ret_bool (decide_eq_false (ne_of_at hx.out hy.out (of_decide_eq_false Hr.out))).symm, bch hb hb1⟩
        · go_wp2
          go_roundg (xs.length - (k + 1))
          case measure => omega
          case rel => exact ⟨k + 1, by omega, rfl, by go_num, bch hb hb1, take_eq_succ Hp.out hx.out (of_decide_eq_true Hr.out ▸ hy.out)⟩
      · go_wp2
        go_ret
        exact ⟨ret_bool (decide_eq_true (eq_of_take Hp.out (by omega) (by have := hl'.out; omega))).symm, hb⟩
  · go_enter Try.func39, Try.ntmps39
    go_wp2
    go_ret
    exact ⟨ret_bool (decide_eq_false fun he => hl (by rw [he])).symm, Below.refl _ _⟩

/-- Two readings of one list of rows. -/
theorem equalBagsT_ok {A A' : Option Addr} {c c' n n' : Nat} {xs : List Row1} {w : World} (hx : n = xs.length) (hx' : n' = xs.length) (hn : xs.length ≤ 1048576) (h : Rws w w.heap.size A xs) (h' : Rws w w.heap.size A' xs) :
    Calls Try.prog 39 #[.slice A n c, .slice A' n' c'] w fun e w' => e = .returned (.bool true) ∧ Below w.heap.size w w' := by
  subst hx; subst hx'
  have := equalBags_ok A A' c c' xs xs w (by unfold maxLen; omega) (by unfold maxLen; omega) h h'
  rwa [decide_eq_true rfl] at this
set_option maxHeartbeats 400000 in
theorem equalTables_ok (W W' : Int) (A A' : Option Addr) (c c' : Nat) (xs ys : List Row1) (w : World) (hn : xs.length ≤ maxLen) (hn' : ys.length ≤ maxLen) (h : Rws w w.heap.size A xs) (h' : Rws w w.heap.size A' ys) (r : Bool) (hr : r = true ↔ (W = W' ∧ xs = ys)) :
    Calls Try.prog 16 #[.agg #[.int .i64 W, .slice A xs.length c], .agg #[.int .i64 W', .slice A' ys.length c']] w fun e w' => e = .returned (.bool r) ∧ Below w.heap.size w w' := by
  have Hr := Lib.hid hr
  obtain ⟨d, hd⟩ : ∃ d, decide (xs = ys) = d := ⟨_, rfl⟩
  have Hk := Lib.hid (fun (z : World) (hz : Below w.heap.size w z) => equalBags_ok A A' c c' xs ys z hn hn' (h.on hz) (h'.on hz))
  rw [hd] at Hk
  have Hd := Lib.hid hd
  clear hr h h' hd
  by_cases hW : W = W'
  · subst hW
    have hrd : r = d := by
      cases d
      · exact bfalse Hr.out fun ht => of_decide_eq_false Hd.out ht.2
      · exact btrue Hr.out ⟨rfl, of_decide_eq_true Hd.out⟩
    subst hrd
    cases r
    all_goals
      go_enter Try.func16, Try.ntmps16
      go_wp2_with (go_at_call 39; refine (Hk.out _ (balloc (balloc (Below.refl _ _) _) _)).mono ?_; rintro e w1 ⟨rfl, hb1⟩)
      go_ret
      exact ⟨rfl, bbox2 (by assumption)⟩
  · have hf : r = false := bfalse Hr.out fun ht => hW ht.1
    subst hf
    have hwb : (W == W') = false := by simp [hW]
    clear hW
    go_enter Try.func16, Try.ntmps16
    go_wp2
    go_ret
    exact ⟨rfl, balloc (balloc (Below.refl _ _) _) _⟩

end Go.Proofs.Ytfhafbincknaeaa
