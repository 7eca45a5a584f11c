/-
  Contracts of the drawing of values: someValues, DrawAggregate.
-/
import Derived.Test.YtmljhkoabhjiaaaProg
import Derived.Test.YtmljhkoabhjiaaaGen
import Derived.Test.YtmljhkoabhjiaaaAgD
namespace Go.Proofs.Ytmljhkoabhjiaaa
open Go.RowKit Go.Qo
set_option linter.unusedVariables false
set_option linter.unusedSimpArgs false

set_option maxRecDepth 20000 in
set_option maxHeartbeats 1000000 in
theorem someValues_ok (b p : Nat) (w : World) (h : Rd w b p) (hp : p + 80 ≤ 1099511627776) :
    Calls Try.prog 61 #[.pointer (some ⟨b, 0, none⟩)] w (GotRow (· ≤ 6) Small b (p + 32) w) := by
  have hlt := h.lt
  have HP := Lib.hid (fun (z : World) (hz : Below w.heap.size w z) => pick_ok b p 7 z (h.on hz) (by omega))
  clear h
  go_enter Try.func61, Try.ntmps61
  go_wp2_with fail
  refine (HP.out _ (balloc (Below.refl _ _) _)).mono ?_
  rintro e w1 ⟨n0, rfl, hr, hb1, hsz, hR1⟩
  have hn0 := hr.1
  have hn1 := hr.2.1 (by omega)
  obtain ⟨n, rfl⟩ := Int.eq_ofNat_of_zero_le hn0
  have hO0 : Ow w.heap.size 25 2 valC w1 (.slice (some ⟨w.heap.size, 0, none⟩) 0 0) ([] : List Val) :=
    (Ow.lit (w := w) (lo := w.heap.size) (e := 25) (enc := valC) (xs := ([] : List Val)) (cs := #[]) (sz := 2) rfl rfl (Nat.le_refl _) (by decide)).only hb1 fun k hk => .inl (by omega)
  have HH := Lib.hid (And.intro hO0 (And.intro (((Only.refl (S := fun k => k = b) w).alloc (.cells #[] 25)).trans hb1) hR1))
  clear hb1 hsz hR1 hO0 hr
  go_wp2
  go_loopg [3, 4] n (fun k v i wr => ∃ xs : List Val, k + xs.length = n ∧ i = .int .i64 k ∧ (∀ x ∈ xs, Small x) ∧ Ow w.heap.size 25 2 valC wr v xs ∧ But b w wr ∧ Rd wr b (p + 1 + 2 * xs.length))
  case atStart => exact ⟨[], by simp, rfl, by simp, HH.out.1, HH.out.2.1, HH.out.2.2⟩
  case round =>
    obtain ⟨xs, hkn, rfl, hv, how, hb, hR⟩ := hrel
    have hsz := hb.size
    obtain ⟨k, hgk⟩ : ∃ k, k = gk := ⟨_, rfl⟩
    subst hgk
    have HO := Lib.hid how
    have HB := Lib.hid hb
    have Hv := Lib.hid hv
    have HRr := Lib.hid hR
    have hxl : xs.length ≤ 6 := by omega
    rcases Nat.eq_zero_or_pos k with h0 | h0
    · subst h0
      have HP8 := Lib.hid (pick_ok b (p + 1 + 2 * xs.length) 8 wr hR (by omega))
      obtain ⟨A, c, rfl, hc1, hc2, hs⟩ := how.shape valC_length
      clear hv how hb hR hkn
      rcases Nat.eq_zero_or_pos xs.length with hx0 | hx0
      · have HX0 := Lib.hid hx0
        have hx0' : ¬ (0 < xs.length) := by omega
        clear hx0
        go_wp2
        go_ret
        exact ⟨_, xs, rfl, by omega, Hv.out, HO.out, HB.out, HRr.out.mono (by omega)⟩
      · have hx0' : (0 : Int) < xs.length := by omega
        go_wp2_with fail
        refine HP8.out.mono ?_
        rintro e w2 ⟨r, rfl, hr, hb2, hsz2, hR2⟩
        have HB2 := Lib.hid (HB.out.trans hb2)
        have HR2 := Lib.hid hR2
        have HO2 := Lib.hid (HO.out.only hb2 (by intro k hk; left; omega))
        have hz2 := hb2.size
        clear hb2 hR2 hr
        by_cases hr0 : r = 0
        · subst hr0
          have HV3 := Lib.hid (anyValue_ok b (p + 1 + 2 * xs.length + 1) w2 HR2.out (by omega))
          go_wp2_with fail
          refine HV3.out.mono ?_
          rintro e w4 ⟨⟨v1, v2⟩, rfl, hv4, hb4, hR4⟩
          have HB4 := Lib.hid (HB2.out.trans hb4)
          have HO4 := Lib.hid (HO2.out.only hb4 (by intro k hk; left; omega))
          have HR4 := Lib.hid hR4
          clear hb4 hR4
          obtain ⟨g, rfl, hn', hg, hgl, _, hf, hcs⟩ := HO4.out.head valC_length hx0
          have hx := List.getElem?_eq_getElem hx0
          have hfl := flat_length 2 valC valC_length xs
          obtain ⟨y1, hy1⟩ : ∃ y, (xs.flatMap valC)[0]? = some y := ⟨_, List.getElem?_eq_getElem (by omega)⟩
          obtain ⟨y2, hy2⟩ : ∃ y, (xs.flatMap valC)[1]? = some y := ⟨_, List.getElem?_eq_getElem (by omega)⟩
          have c0 := hcs _ _ hy1
          have c1 := hcs _ _ hy2
          have f0 := hf 0
          have f1 := hf 1
          clear hcs hf hy1 hy2 hx hn'
          dsimp only
          go_wp2
          go_ret
          have hst := (World.ownsRow.stored (HO4.out.put (0 * 2) (.bool v1)) (0 * 2 + 1) (.int .i64 v2)).1
          rw [flat_setV xs 0 (v1, v2) hx0] at hst
          refine ⟨_, xs.set 0 (v1, v2), rfl, by simpa using hxl, ?_, by unfold Ow; rw [List.length_set]; exact hst, ?_, ?_⟩
          · intro x hx
            rcases List.mem_or_eq_of_mem_set hx with h1 | h1
            · exact Hv.out x h1
            · subst h1; exact hv4
          · exact (HB4.out.set (.inr hg) _).set (.inr hg) _
          · exact (HR4.out.set (show b < g by omega) _ |>.set (show b < g by omega) _).mono (by omega)
        · go_wp2
          go_ret
          exact ⟨_, xs, rfl, hxl, Hv.out, HO2.out, HB2.out, HR2.out.mono (by omega)⟩
    · have hk0 : (0 : Int) < (k : Int) := by omega
      have hk4 : k ≤ 6 := by omega
      have HV := Lib.hid (randomValue_ok b (p + 1 + 2 * xs.length) wr hR (by omega))
      have HKN := Lib.hid hkn
      clear hv how hb hR hkn
      go_wp2_with fail
      refine HV.out.mono ?_
      rintro e w2 ⟨⟨v1, v2⟩, rfl, hv, hb1, hR1⟩
      have hz1 := hb1.size
      have HO1 := Lib.hid (((HO.out.only hb1 (by intro k hk; left; omega)).on (balloc (Below.refl _ _) (.cells #[.bool v1, .int .i64 v2] 25))))
      have HS := Lib.hid (Row.sl' (w := w2.alloc (.cells #[.bool v1, .int .i64 v2] 25)) (t := 25) (xs := [(v1, v2)]) valC_length ((Row.new w2 _ _).of rfl))
      have hsz2 : w.heap.size ≤ (w2.alloc (.cells #[.bool v1, .int .i64 v2] 25)).heap.size := by simp; omega
      dsimp only
      go_wp2_with (at_builtin; refine wpList_app rfl (.tmp 12) (.tmp 15) 28 rfl w.heap.size 25 _ 2 16 valC Try.underlying28 zeroVal rfl (by decide) (by decide) valC_length valC_one _ xs rfl HO1.out (some ⟨w2.heap.size, 0, none⟩) 1 1 [(v1, v2)] rfl rfl HS.out (by simp; omega) hsz2 ?_; intro v' w' hown hgr)
      go_roundg (k - 1)
      case measure => omega
      case rel =>
        refine ⟨xs ++ [(v1, v2)], by have := HKN.out; simp; omega, congrArg (Value.int IntKind.i64) (by omega), ?_, hown, ?_, ?_⟩
        · intro x hx
          rcases List.mem_append.1 hx with hx | hx
          · exact Hv.out x hx
          · simp at hx; subst hx; exact small_of hv
        · exact ((HB.out.trans hb1).alloc _).grown hgr fun k hk => .inr (HO1.out.ty k hk).1
        · exact (((hR1.on (balloc (Below.refl _ _) _)).grown hgr fun k hk => by have := (HO1.out.ty k hk).1; omega)).mono (by simp; omega)

/-- What is drawn: some values, a number. -/
def DrawnAg (w : World) (v1 v2 : Value) (w' : World) : Prop := ∃ (xs : List Val) (k : Int), v2 = .int .i64 k ∧ xs.length ≤ 6 ∧ (∀ x ∈ xs, Small x) ∧ Ow w.heap.size 25 2 valC w' v1 xs ∧ Below w.heap.size w w'
set_option maxRecDepth 20000 in
set_option maxHeartbeats 1000000 in
theorem drawAggregate_ok (A : Option Addr) (c : Nat) (xs : List Int) (w : World) (hn : xs.length ≤ c) (hc : c ≤ maxLen) (hg : ∀ x ∈ xs, 0 ≤ x ∧ x ≤ 255) (hs : Sl 1 byteC w w.heap.size A xs) :
    Calls Try.prog 24 #[.slice A xs.length c] w fun e w' => ∃ v1 v2, e = .returned (.tuple #[v1, v2]) ∧ DrawnAg w v1 v2 w' := by
  have HN := Lib.hid (newReader_ok A c xs w hn hc hg hs)
  obtain ⟨b, hbe⟩ : ∃ b, w.heap.size = b := ⟨_, rfl⟩
  have Hbe := Lib.hid (show w.heap.size ≤ b by omega)
  rw [hbe] at HN
  have HB0 := Lib.hid hbe
  clear hs hg hc hn hbe
  go_enter Try.func24, Try.ntmps24
  go_wp2_with fail
  refine HN.out.mono ?_
  rintro e w1 ⟨rfl, hb1, hR1⟩
  have HV := Lib.hid (someValues_ok b 0 w1 hR1 (by omega))
  have hlt1 := hR1.lt
  have H1 := Lib.hid (show Below w.heap.size w w1 by rw [HB0.out]; exact hb1)
  clear hb1 hR1
  go_wp2_with fail
  refine HV.out.mono ?_
  rintro e w2 ⟨v, ys, rfl, hl, hv, how, hb2, hR2⟩
  have H2 := Lib.hid (Only.from_ H1.out rfl hb2 (by intro i hi; have := Hbe.out; omega))
  have hlt2 := hR2.lt
  have HY := Lib.hid (And.intro hl (And.intro hv (how.low (show b + 1 ≤ w1.heap.size by omega))))
  have HO := Lib.hid (one_ok b 32 (some ⟨w2.heap.size, 0, none⟩) 7 [1, 2, 3, 4, 5, 0, 6] _ (hR2.on (balloc (Below.refl _ _) _)) (by omega) (by decide) (by decide) (ints5 w2 [1, 2, 3, 4, 5, 0, 6] 3) (by rintro a ha; cases ha; exact (show w2.heap.size ≠ b by omega)))
  have H3 := Lib.hid (balloc H2.out (.cells ([1, 2, 3, 4, 5, 0, 6].map (Value.int .i64)).toArray 3))
  have HY3 := Lib.hid ((HY.out.2.2).on (balloc (Below.refl _ w2) (.cells ([1, 2, 3, 4, 5, 0, 6].map (Value.int .i64)).toArray 3)))
  clear hl hv how hb2 hR2
  go_wp2_with fail
  refine HO.out.mono ?_
  rintro e w3 ⟨r, rfl, hr, hb3, hsz, hR3⟩
  go_wp2
  go_ret2
  exact ⟨_, _, rfl, ys, r, rfl, HY.out.1, HY.out.2.1, (HY3.out.only hb3 (by intro k hk; left; omega)).low (by have := Hbe.out; omega), Only.from_ H3.out rfl hb3 (by intro i hi; have := Hbe.out; omega)⟩

end Go.Proofs.Ytmljhkoabhjiaaa
