/-
  Contracts of IsSorted: the library's IsSortedFunc, the reference's and the program's.
-/
import Derived.Test.YtldndapcbgaliaaProg
import Derived.Test.YtldndapcbgaliaaCmpF
import Derived.Test.YtldndapcbgaliaaPln
namespace Go.Proofs.Ytldndapcbgaliaa
open Go.RowKit Go.Qo
set_option linter.unusedVariables false
set_option linter.unusedSimpArgs false

set_option maxRecDepth 100000 in
set_option maxHeartbeats 1000000 in
theorem isSortedFunc_ok (A : Option Addr) (c : Nat) (rows : List Row1) (v : Value) (W : Int) (cmp : Row1 → Row1 → Int) (w : World) (hn : rows.length ≤ 1048576) (h : Rws w w.heap.size A rows) (hr : AllRows W rows) (hv : IsCmp w v W cmp) (r : Bool)
    (hres : r = true ↔ ∀ (i : Nat) (a b : Row1), rows[i]? = some a → rows[i + 1]? = some b → 0 ≤ cmp b a) :
    Calls Try.prog 59 #[.slice A rows.length c, v] w fun e w' => e = .returned (.bool r) ∧ Below w.heap.size w w' := by
  obtain ⟨f, cap, rfl, hf, hcall⟩ := hv
  have Hcall := Lib.hid hcall
  have Hres := Lib.hid hres
  have HR := Lib.hid hr
  clear hcall hres hr
  rcases Nat.eq_zero_or_pos rows.length with h0 | h0
  · have hrt : r = true := Hres.out.2 fun i a b ha => by
      have := (List.getElem?_eq_some_iff.1 ha).1; omega
    subst hrt
    obtain rfl : rows = [] := List.eq_nil_of_length_eq_zero h0
    clear Hcall hf
    go_enter Try.func59, Try.ntmps59
    go_wp2
    go_loopg [5] 0 (fun g i wr => i = .int .i64 (-1) ∧ w = wr)
    case atStart => exact ⟨rfl, rfl⟩
    case round =>
      obtain ⟨rfl, rfl⟩ := hrel
      go_wp2
      go_ret
      exact ⟨rfl, Below.refl _ _⟩
  · have hcf := fun args => hf args
    clear hf
    go_enter Try.func59, Try.ntmps59
    go_wp2
    go_loopg [5] (rows.length - 1) (fun k i wr => k < rows.length ∧ i = .int .i64 k ∧ Below w.heap.size w wr ∧ ∀ (i : Nat) (a b : Row1), k ≤ i → rows[i]? = some a → rows[i + 1]? = some b → 0 ≤ cmp b a)
    case atStart => exact ⟨by omega, by congr 1; omega, Below.refl _ _, fun i a b hi ha hb => by have := (List.getElem?_eq_some_iff.1 hb).1; omega⟩
    case round =>
      obtain ⟨hk, rfl, hb, hp⟩ := hrel
      obtain ⟨k, hgk⟩ : ∃ k, k = gk := ⟨_, rfl⟩
      subst hgk
      have Hp := Lib.hid hp
      clear hp
      rcases Nat.eq_zero_or_pos k with hk0 | hk0
      · have hrt : r = true := Hres.out.2 fun i a b ha hb => Hp.out i a b (by omega) ha hb
        subst hrt
        subst hk0
        go_wp2
        go_ret
        exact ⟨rfl, hb⟩
      · obtain ⟨b1, off1, A1, C1, hA1, hB1, c1, hc1, hm1, s1⟩ := (h.on hb).at_ hk
        obtain ⟨b2, off2, A2, C2, hA2, hB2, c2, hc2, hm2, s2⟩ := (h.on hb).at_ (i := k - 1) (by omega)
        have hx := Lib.hid (List.getElem?_eq_getElem hk)
        have hy := Lib.hid (List.getElem?_eq_getElem (show k - 1 < rows.length by omega))
        generalize rows[k] = x at *
        generalize rows[k - 1] = y at *
        cases hA1
        cases hA2
        have d1 := fun z : Aft wr.heap.size wr => z.cell hB1 c1
        have d2 := fun z : Aft wr.heap.size wr => z.cell hB2 c2
        obtain ⟨R, hR⟩ : ∃ R, cmp x y = R := ⟨_, rfl⟩
        have HK := Lib.hid (fun z : Aft wr.heap.size wr => Hcall.out z.v (bch hb z.h) A1 A2 C1 C2 x y (HR.out.at_ hx.out) (HR.out.at_ hy.out) (s1.on z.h) (s2.on z.h))
        rw [hR] at HK
        have HR2 := Lib.hid hR
        have hk0' : (0 : Int) < (k : Int) := by omega
        have i1 : IntKind.i64.wrap ((k : Int) - 1) = (k : Int) - 1 := IntWalk.i64_in _ (by omega)
        have i2 : ((k : Int) - 1).toNat = k - 1 := by omega
        have i3 : (0 : Int) ≤ (k : Int) - 1 := by omega
        have i4 : (k : Int) - 1 < (rows.length : Int) := by omega
        clear hR s1 s2 hc1 hm1 hc2 hm2 h0
        by_cases hneg : R < 0
        · have hrf : r = false := by
            cases r
            · rfl
            · have := Hres.out.1 rfl (k - 1) y x hy.out (by rw [show k - 1 + 1 = k by omega]; exact hx.out)
              rw [HR2.out] at this; omega
          subst hrf
          go_wp2
          refine wp_region_aft wr.heap.size (by kernel_rfl) (by kernel_rfl) ?_
          repeat (go_big_quiet_step ((exact Calls.aft (Nat.le_refl _) (HK.out _))))
          refine wpQuiet_nil ?_
          intro w1 hw'
          obtain ⟨⟨_, hb1⟩, rfl⟩ := hw'
          go_wp2
          go_ret
          exact ⟨rfl, bch hb hb1⟩
        · go_wp2
          refine wp_region_aft wr.heap.size (by kernel_rfl) (by kernel_rfl) ?_
          repeat (go_big_quiet_step ((exact Calls.aft (Nat.le_refl _) (HK.out _))))
          refine wpQuiet_nil ?_
          intro w1 hw'
          obtain ⟨⟨_, hb1⟩, rfl⟩ := hw'
          go_wp2
          go_roundg (k - 1)
          case measure => omega
          case rel =>
            refine ⟨by omega, by congr 1; omega, bch hb hb1, fun i a b hi ha hb' => ?_⟩
            rcases Nat.lt_or_ge i k with h3 | h3
            · obtain rfl : i = k - 1 := by omega
              rw [hy.out] at ha; cases ha
              rw [show k - 1 + 1 = k by omega, hx.out] at hb'; cases hb'
              rw [HR2.out]; omega
            · exact Hp.out i a b h3 ha hb'

end Go.Proofs.Ytldndapcbgaliaa
