/-
  Contracts of copyRow, sortRows, SortRows: the reference's.
-/
import Derived.Test.YtldndapcbgaliaaProg
import Derived.Test.YtldndapcbgaliaaGen
import Derived.Test.YtldndapcbgaliaaRow
import Derived.Test.YtldndapcbgaliaaTab
import Derived.Test.YtldndapcbgaliaaOrdW
import Derived.Test.YtldndapcbgaliaaPln
import Derived.Test.YtldndapcbgaliaaIsSrt
namespace Go.Proofs.Ytldndapcbgaliaa
open Go.RowKit Go.Qo
set_option linter.unusedVariables false
set_option linter.unusedSimpArgs false

/-- A row of the call's own. -/
def OneRow (xs : List Val) (w : World) (e : Ending) (w' : World) : Prop := ∃ v, e = .returned v ∧ Ow w.heap.size 40 2 valC w' v xs ∧ Below w.heap.size w w'

set_option maxHeartbeats 400000 in
theorem copyRow_ok (A : Option Addr) (c : Nat) (xs : List Val) (w : World) (hn : xs.length ≤ 1048576) (h : Sl 2 valC w w.heap.size A xs) :
    Calls Try.prog 98 #[.slice A xs.length c] w (OneRow xs w) := by
  have HO := Lib.hid (Ow.lit (w := w) (lo := w.heap.size) (e := 40) (enc := valC) (xs := ([] : List Val)) (cs := #[]) (sz := 2) rfl rfl (Nat.le_refl _) (by decide))
  have HS := Lib.hid (h.on (balloc (Below.refl _ _) (.cells #[] 40)))
  have hsz : w.heap.size ≤ (w.alloc (.cells #[] 40)).heap.size := by simp
  clear h
  go_enter Try.func98, Try.ntmps98
  go_wp2_with (at_builtin; refine wpList_app rfl (.tmp 3) (.tmp 4) 41 rfl w.heap.size 40 _ 2 16 valC Try.underlying41 zeroVal rfl (by decide) (by decide) valC_length valC_one _ [] rfl HO.out A _ c xs rfl rfl HS.out (by simp; omega) hsz ?_; intro v' w' hown hgr)
  go_ret
  exact ⟨_, rfl, hown, (balloc (Below.refl _ _) _).grown hgr hsz fun k hk => (HO.out.ty k hk).1⟩

/-- Rows of the call's own, in a slice of the call's own. -/
def SomeRows (rows : List Row1) (w : World) (e : Ending) (w' : World) : Prop :=
  ∃ (v : Value) (svs : List SV), e = .returned v ∧ Ow w.heap.size 41 1 svC w' v svs ∧ RowsT 40 2 valC w.heap.size w' svs rows ∧ Below w.heap.size w w'

set_option maxRecDepth 20000 in
set_option maxHeartbeats 2000000 in
theorem specSortRows_ok (A AK : Option Addr) (c cK : Nat) (rows : List Row1) (keys : List Key) (W : Int) (w : World) (hn : rows.length ≤ 1048576) (hnk : keys.length ≤ 1048576) (h : Rws w w.heap.size A rows) (hK : Sl 2 keyC w w.heap.size AK keys) (hr : AllRows W rows) (hk : KeysOk W keys) :
    Calls Try.prog 53 #[.slice A rows.length c, .slice AK keys.length cK] w (SomeRows (sortK keys rows) w) := by
  have HN := Lib.hid (And.intro hn hnk)
  have HH := Lib.hid (And.intro h hK)
  have HR := Lib.hid (And.intro hr hk)
  clear h hK hr hk
  go_enter Try.func53, Try.ntmps53
  go_wp2
  go_loopg [5, 6] (rows.length) (fun g v i wr => ∃ (k : Nat) (svs : List SV), k ≤ rows.length ∧ g = rows.length - k ∧ i = .int .i64 k ∧ Below w.heap.size w wr ∧ Ow w.heap.size 41 1 svC wr v svs ∧ RowsT 40 2 valC w.heap.size wr svs (sortK keys (rows.take k)))
  case atStart => exact ⟨0, [], by omega, by omega, rfl, balloc (Below.refl _ _) _, Ow.lit (xs := ([] : List SV)) rfl rfl (Nat.le_refl _) (by decide), RowsT.nil⟩
  case round =>
    obtain ⟨k, svs, hk, rfl, rfl, hb, how, hrt⟩ := hrel
    obtain ⟨A', c', rfl, hc1, hc2, hs⟩ := how.shape svC_length
    have HO := Lib.hid how
    have HT := Lib.hid hrt
    clear how hrt
    by_cases hlt : k < rows.length
    · obtain ⟨wo, hwo⟩ : ∃ wo : World, wo = wr := ⟨_, rfl⟩
      subst hwo
      obtain ⟨x, hxe⟩ : ∃ x, rows[k] = x := ⟨_, rfl⟩
      have Hx := Lib.hid hxe
      have Hxr := Lib.hid ((List.getElem?_eq_getElem hlt).trans (congrArg some hxe))
      have hxl := (rowLen (HR.out.1 x (List.mem_of_getElem? Hxr.out)).1).2
      have Hxl := Lib.hid hxl
      clear hxe
      obtain ⟨out, hout⟩ : ∃ out, sortK keys (rows.take k) = out := ⟨_, rfl⟩
      have Hout := Lib.hid hout
      have HT' := HT.out
      rw [hout] at HT'
      have HT2 := Lib.hid HT'
      have hlen := HT'.1
      have hok : ∀ r ∈ out, RowOk W r := fun r hr => by
        rw [← hout] at hr
        exact HR.out.1 r (List.mem_of_mem_take ((sortK_perm HR.out.2.1 (fun r hr => HR.out.1 r (List.mem_of_mem_take hr))).mem_iff.1 hr))
      have hlk : out.length = k := by rw [← hout, sortK_length, List.length_take]; omega
      have Hok := Lib.hid hok
      have Hlk := Lib.hid hlk
      have HS := Lib.hid hs
      have HB := Lib.hid hb
      have HSV := Lib.hid (show svs.length = k by omega)
      have hsvn : svs.length ≤ 1048576 := by have := HSV.out; have := HN.out.1; omega
      have hn' := HN.out.1
      clear HT HT' hlen hok hlk hout hs hb
      go_wp2
      go_loopg [7] k (fun jn j wr => jn ≤ k ∧ j = .int .i64 jn ∧ Below wo.heap.size wo wr ∧ ∀ (i : Nat) (y : Row1), jn ≤ i → out[i]? = some y → 0 < kCmp keys y x)
      case atStart => exact ⟨by omega, congrArg (Value.int IntKind.i64) (by have := HSV.out; omega), Below.refl _ _, fun i y hi hy => by have := (List.getElem?_eq_some_iff.1 hy).1; have := Hlk.out; omega⟩
      case round =>
        obtain ⟨hjk, rfl, hbi, hp⟩ := hrel
        obtain ⟨jn, hgj⟩ : ∃ j, j = gk := ⟨_, rfl⟩
        subst hgj
        have Hp := Lib.hid hp
        clear hp
        have hjs2 : jn ≤ svs.length := by have := HSV.out; omega
        have hjc : jn ≤ c' := by omega
        have HJL := Lib.hid (show jn ≤ out.length by have := Hlk.out; omega)
        have HB0 := Lib.hid (Below.refl wo.heap.size wo)
        by_cases h0 : jn = 0
        · subst h0
          go_wp2
          refine wp_region_aft wr.heap.size (by kernel_rfl) (by kernel_rfl) ?_
          repeat (go_big_quiet_step (fail))
          refine wpQuiet_nil ?_
          intro w1 hw'
          obtain ⟨⟨_, hb1⟩, rfl⟩ := hw'
          have Hexit := Lib.hid (fun (y : Row1) (hj : 0 < 0) (hy : out[0 - 1]? = some y) => show kCmp keys y x ≤ 0 by omega)
          have B1 := Lib.hid (bch hbi hb1)
          have hz1 := B1.out.size
          have hz0 := HB.out.size
          have L0 := Lib.hid (Ow.lit (w := w1) (lo := w1.heap.size) (e := 41) (enc := svC) (xs := ([] : List SV)) (cs := #[]) (sz := 1) rfl rfl (Nat.le_refl _) (by decide))
          have S1 := Lib.hid ((((HS.out.on B1.out).sl).on (balloc (Below.refl _ _) (.cells #[] 41))).cut 0)
          have hlt1 : (svs.take 0).length = 0 := by rw [List.length_take]; omega
          have hsz1 : w1.heap.size ≤ (w1.alloc (.cells #[] 41)).heap.size := by simp
          go_wp2_with (at_builtin; refine wpList_app rfl (.tmp 36) (.tmp 39) 23 rfl w1.heap.size 41 _ 1 24 svC Try.underlying23 zeroRow rfl (by decide) (by decide) svC_length svC_one _ [] rfl L0.out A' 0 c' (svs.take 0) rfl hlt1.symm S1.out (by simp <;> omega) hsz1 ?_; intro v1 w2 how1 hgr1; have B12 := Lib.hid ((balloc (Below.refl _ w1) _).grown hgr1 hsz1 fun k hk => (L0.out.ty k hk).1); have B2 := Lib.hid (bch B1.out B12.out); obtain ⟨b, off, A1, C1, hA, hBx, c1, hc1x, hm1, s1⟩ := (HH.out.1.on (bch HB.out B2.out)).at_ hlt; cases hA; rw [Hx.out] at c1 s1; have s1' := Lib.hid s1; clear s1; rw [Hx.out] at hc1x)
          refine (copyRow_ok A1 C1 x w2 (by have := Hxl.out; omega) s1'.out).mono ?_
          rintro e w3 ⟨v2, rfl, how2, hb3⟩
          obtain ⟨A2, c2, rfl, hc21, hc22, hs2⟩ := how2.shape valC_length
          have B23 := Lib.hid (balloc hb3 (.cells #[.slice A2 x.length c2] 41))
          have O1 := Lib.hid (how1.on B23.out)
          have S2 := Lib.hid (Row.sl' (w := w3.alloc (.cells #[.slice A2 x.length c2] 41)) (t := 41) (xs := [(⟨A2, x.length, c2⟩ : SV)]) svC_length ((Row.new w3 _ _).of rfl))
          have hz3 := hb3.size
          have hz2 := B12.out.size
          have hz2a : w1.heap.size ≤ w2.heap.size := hz2
          have hsz2 : w1.heap.size ≤ (w3.alloc (.cells #[.slice A2 x.length c2] 41)).heap.size := by simp; omega
          have SX := Lib.hid (hs2.on (balloc (Below.refl _ _) (.cells #[.slice A2 x.length c2] 41)))
          have HC := Lib.hid (And.intro hc21 hc22)
          clear hs2 how2 how1 hc21 hc22 hb3 c1
          go_wp2_with (at_builtin; first
            | (refine wpList_app rfl (.tmp 41) (.tmp 47) 23 rfl w1.heap.size 41 _ 1 24 svC Try.underlying23 zeroRow rfl (by decide) (by decide) svC_length svC_one _ ([] ++ svs.take 0) rfl O1.out (some ⟨w3.heap.size, 0, none⟩) 1 1 [(⟨A2, x.length, c2⟩ : SV)] rfl rfl S2.out (by simp <;> omega) hsz2 ?_; intro v3 w4 how3 hgr3; have O3 := Lib.hid how3; have B24 := Lib.hid (((B23.out.mono hz2a).grown hgr3 hsz2 fun b hb => (O1.out.ty b hb).1)); have B14 := Lib.hid ((B12.out).trans B24.out); have B4 := Lib.hid (bch B1.out B14.out); have SX4 := Lib.hid (SX.out.grown hgr3 fun b hb => .inr ⟨41, by decide, (O1.out.ty b hb).2.2⟩); have S3 := Lib.hid ((HS.out.on B4.out).sl); have hsz4 : w1.heap.size ≤ w4.heap.size := B14.out.size; clear how3 hgr3)
            | (refine wpList_app rfl (.tmp 49) (.tmp 52) 23 rfl w1.heap.size 41 _ 1 24 svC Try.underlying23 zeroRow rfl (by decide) (by decide) svC_length svC_one _ (([] ++ svs.take 0) ++ [(⟨A2, x.length, c2⟩ : SV)]) rfl O3.out _ _ _ (svs.drop 0) rfl (by simp <;> omega) (by refine Sl.from_ S3.out ?_; intro b off hA hl; simpa using hA) (by simp <;> omega) hsz4 ?_; intro v5 w6 how5 hgr5))
          go_roundg (rows.length - (k + 1))
          case measure => omega
          case rel =>
            have B6 : Below wo.heap.size wo w6 := (bch HB0.out B4.out).grown hgr5 (by have := B4.out.size; omega) fun b hb => by have := (O3.out.ty b hb).1; omega
            refine ⟨k + 1, (([] ++ svs.take 0) ++ [(⟨A2, x.length, c2⟩ : SV)]) ++ svs.drop 0, by omega, rfl, by go_num, bch HB.out B6, how5.low (by omega), ?_⟩
            have hTe : sortK keys (rows.take (k + 1)) = out.take 0 ++ [x] ++ out.drop 0 := by
              rw [List.take_add_one, Hxr.out, Option.toList_some, sortK_snoc, Hout.out]
              exact sIns_at HR.out.2.1 (HR.out.1 x (List.mem_of_getElem? Hxr.out)) Hok.out (Hout.out ▸ sortK_ord HR.out.2.1 (fun r hr => HR.out.1 r (List.mem_of_mem_take hr))) HJL.out Hp.out Hexit.out
            rw [hTe, List.nil_append]
            have hT6 := HT2.out.on B6
            exact ((hT6.take 0).snoc rfl HC.out.1 HC.out.2 ((SX4.out.grown hgr5 fun b hb => .inr ⟨41, by decide, (O3.out.ty b hb).2.2⟩).low (by omega))).append (hT6.drop 0)
        · have hj0 : (0 : Int) < (jn : Int) := by omega
          have hj0n : 0 < jn := by omega
          have hjs : jn - 1 < svs.length := by omega
          have i5 : (jn : Int) - 1 < (svs.length : Int) := by omega
          have hjo : jn - 1 < out.length := by have := Hlk.out; omega
          obtain ⟨g3, o3, hA3, hB3, hc3⟩ := ((HS.out.on hbi).sl).at_ hjs
          have hA3 : A' = some ⟨g3, o3, none⟩ := hA3
          obtain ⟨e3, h31, h32, h33⟩ := (HT2.out.on hbi).2 (jn - 1) svs[jn - 1] out[jn - 1] (List.getElem?_eq_getElem hjs) (List.getElem?_eq_getElem (by have := Hlk.out; omega))
          have hye := Lib.hid (List.getElem?_eq_getElem (show jn - 1 < out.length by have := Hlk.out; omega))
          have hcell := hc3 0 _ rfl
          obtain ⟨b4, o4, A4, C4, hA4, hB4, c4, hc41, hm4, s4⟩ := (HH.out.1.on (bch HB.out hbi)).at_ hlt
          have c4' : wr.cell? ⟨b4, o4 + k, none⟩ = some (.slice A4 x.length C4) := by rw [← Hx.out]; exact c4
          have s4' := Lib.hid (show Sl 2 valC wr wr.heap.size A4 x by rw [← Hx.out]; exact s4)
          generalize out[jn - 1] = y at *
          generalize svs[jn - 1] = sv at *
          obtain ⟨Ay, ny, cy⟩ := sv
          dsimp only at e3 h31 h32 h33
          subst e3
          subst hA3
          subst hA4
          have hcell' : wr.cell? ⟨g3, o3 + (jn - 1), none⟩ = some (.slice Ay y.length cy) := by simpa using hcell
          have d1 := fun z : Aft wr.heap.size wr => z.cell hB3 hcell'
          have d2 := fun z : Aft wr.heap.size wr => z.cell hB4 c4'
          obtain ⟨R, hR⟩ : ∃ R, kCmp keys y x = R := ⟨_, rfl⟩
          have hyok := Hok.out y (List.mem_of_getElem? hye.out)
          have hxok := HR.out.1 x (List.mem_of_getElem? Hxr.out)
          have hyl := (rowLen hyok.1).2
          have HK := Lib.hid (fun z : Aft wr.heap.size wr => specCompareBy_ok Ay A4 AK cy C4 cK y x keys z.v (by have := HN.out.2; unfold maxLen; omega) (by unfold maxLen; omega) (by have := Hxl.out; unfold maxLen; omega) ((h33.sl).on z.h) (s4'.out.on z.h) (HH.out.2.on (bch HB.out (bch hbi z.h))) (fun k hk => by have h1 := HR.out.2.1 k hk; have h2 := hyok.2; have h3 := hxok.2; omega) R hR)
          have HRR := Lib.hid hR
          have Hh33 := Lib.hid h33
          have hxl6 := Hxl.out
          clear hR h33 s4 hc3 hcell hc41 hm4 c4 hyok hxok h32 h31
          have i1 : IntKind.i64.wrap ((jn : Int) - 1) = (jn : Int) - 1 := IntWalk.i64_in _ (by omega)
          have i2 : ((jn : Int) - 1).toNat = jn - 1 := by omega
          have i3 : (0 : Int) ≤ (jn : Int) - 1 := by omega
          by_cases hR0 : 0 < R
          · go_wp2
            refine wp_region_aft wr.heap.size (by kernel_rfl) (by kernel_rfl) ?_
            repeat (go_big_quiet_step ((go_at_call 102; exact Calls.aft (Nat.le_refl _) (HK.out _))))
            refine wpQuiet_nil ?_
            intro w1 hw'
            obtain ⟨⟨_, hb1⟩, rfl⟩ := hw'
            go_wp2
            go_roundg (jn - 1)
            case measure => omega
            case rel =>
              refine ⟨by omega, congrArg (Value.int IntKind.i64) (by omega), bch hbi hb1, fun i z hi hz => ?_⟩
              rcases Nat.lt_or_ge i jn with h3 | h3
              · obtain rfl : i = jn - 1 := by omega
                rw [hye.out] at hz; cases hz
                rw [HRR.out]; exact hR0
              · exact Hp.out i z h3 hz
          · have Hexit := Lib.hid (fun (z : Row1) (hj : 0 < jn) (hz : out[jn - 1]? = some z) => show kCmp keys z x ≤ 0 by rw [hye.out] at hz; cases hz; rw [HRR.out]; omega)
            go_wp2
            refine wp_region_aft wr.heap.size (by kernel_rfl) (by kernel_rfl) ?_
            repeat (go_big_quiet_step ((go_at_call 102; exact Calls.aft (Nat.le_refl _) (HK.out _))))
            refine wpQuiet_nil ?_
            intro w1 hw'
            obtain ⟨⟨_, hb1⟩, rfl⟩ := hw'
            have B1 := Lib.hid (bch hbi hb1)
            have hz1 := B1.out.size
            have hz0 := HB.out.size
            have L0 := Lib.hid (Ow.lit (w := w1) (lo := w1.heap.size) (e := 41) (enc := svC) (xs := ([] : List SV)) (cs := #[]) (sz := 1) rfl rfl (Nat.le_refl _) (by decide))
            have S1 := Lib.hid ((((HS.out.on B1.out).sl).on (balloc (Below.refl _ _) (.cells #[] 41))).cut jn)
            have hlt1 : (svs.take jn).length = jn := by rw [List.length_take]; omega
            have hsz1 : w1.heap.size ≤ (w1.alloc (.cells #[] 41)).heap.size := by simp
            go_wp2_with (at_builtin; refine wpList_app rfl (.tmp 36) (.tmp 39) 23 rfl w1.heap.size 41 _ 1 24 svC Try.underlying23 zeroRow rfl (by decide) (by decide) svC_length svC_one _ [] rfl L0.out _ _ _ (svs.take jn) rfl hlt1.symm S1.out (by simp <;> omega) hsz1 ?_; intro v1 w2 how1 hgr1; have B12 := Lib.hid ((balloc (Below.refl _ w1) _).grown hgr1 hsz1 fun k hk => (L0.out.ty k hk).1); have B2 := Lib.hid (bch B1.out B12.out); obtain ⟨b, off, A1, C1, hA, hBx, c1, hc1x, hm1, s1⟩ := (HH.out.1.on (bch HB.out B2.out)).at_ hlt; cases hA; rw [Hx.out] at c1 s1; have s1' := Lib.hid s1; clear s1; rw [Hx.out] at hc1x)
            refine (copyRow_ok A1 C1 x w2 (by have := Hxl.out; omega) s1'.out).mono ?_
            rintro e w3 ⟨v2, rfl, how2, hb3⟩
            obtain ⟨A2, c2, rfl, hc21, hc22, hs2⟩ := how2.shape valC_length
            have B23 := Lib.hid (balloc hb3 (.cells #[.slice A2 x.length c2] 41))
            have O1 := Lib.hid (how1.on B23.out)
            have S2 := Lib.hid (Row.sl' (w := w3.alloc (.cells #[.slice A2 x.length c2] 41)) (t := 41) (xs := [(⟨A2, x.length, c2⟩ : SV)]) svC_length ((Row.new w3 _ _).of rfl))
            have hz3 := hb3.size
            have hz2 := B12.out.size
            have hz2a : w1.heap.size ≤ w2.heap.size := hz2
            have hsz2 : w1.heap.size ≤ (w3.alloc (.cells #[.slice A2 x.length c2] 41)).heap.size := by simp; omega
            have SX := Lib.hid (hs2.on (balloc (Below.refl _ _) (.cells #[.slice A2 x.length c2] 41)))
            have HC := Lib.hid (And.intro hc21 hc22)
            clear hs2 how2 how1 hc21 hc22 hb3 c1
            go_wp2_with (at_builtin; first
              | (refine wpList_app rfl (.tmp 41) (.tmp 47) 23 rfl w1.heap.size 41 _ 1 24 svC Try.underlying23 zeroRow rfl (by decide) (by decide) svC_length svC_one _ ([] ++ svs.take jn) rfl O1.out (some ⟨w3.heap.size, 0, none⟩) 1 1 [(⟨A2, x.length, c2⟩ : SV)] rfl rfl S2.out (by simp <;> omega) hsz2 ?_; intro v3 w4 how3 hgr3; have O3 := Lib.hid how3; have B24 := Lib.hid (((B23.out.mono hz2a).grown hgr3 hsz2 fun b hb => (O1.out.ty b hb).1)); have B14 := Lib.hid ((B12.out).trans B24.out); have B4 := Lib.hid (bch B1.out B14.out); have SX4 := Lib.hid (SX.out.grown hgr3 fun b hb => .inr ⟨41, by decide, (O1.out.ty b hb).2.2⟩); have S3 := Lib.hid ((HS.out.on B4.out).sl); have hsz4 : w1.heap.size ≤ w4.heap.size := B14.out.size; clear how3 hgr3)
              | (refine wpList_app rfl (.tmp 49) (.tmp 52) 23 rfl w1.heap.size 41 _ 1 24 svC Try.underlying23 zeroRow rfl (by decide) (by decide) svC_length svC_one _ (([] ++ svs.take jn) ++ [(⟨A2, x.length, c2⟩ : SV)]) rfl O3.out _ _ _ (svs.drop jn) rfl (by simp <;> omega) (by refine Sl.from_ S3.out ?_; intro b off hA hl; cases hA; split <;> simp <;> omega) (by simp <;> omega) hsz4 ?_; intro v5 w6 how5 hgr5))
            all_goals (
              go_roundg (rows.length - (k + 1))
              case measure => omega
              case rel =>
                have B6 : Below wo.heap.size wo w6 := (bch HB0.out B4.out).grown hgr5 (by have := B4.out.size; omega) fun b hb => by have := (O3.out.ty b hb).1; omega
                refine ⟨k + 1, (([] ++ svs.take jn) ++ [(⟨A2, x.length, c2⟩ : SV)]) ++ svs.drop jn, by omega, rfl, by go_num, bch HB.out B6, how5.low (by omega), ?_⟩
                have hTe : sortK keys (rows.take (k + 1)) = out.take jn ++ [x] ++ out.drop jn := by
                  rw [List.take_add_one, Hxr.out, Option.toList_some, sortK_snoc, Hout.out]
                  exact sIns_at HR.out.2.1 (HR.out.1 x (List.mem_of_getElem? Hxr.out)) Hok.out (Hout.out ▸ sortK_ord HR.out.2.1 (fun r hr => HR.out.1 r (List.mem_of_mem_take hr))) HJL.out Hp.out Hexit.out
                rw [hTe, List.nil_append]
                have hT6 := HT2.out.on B6
                exact ((hT6.take jn).snoc rfl HC.out.1 HC.out.2 ((SX4.out.grown hgr5 fun b hb => .inr ⟨41, by decide, (O3.out.ty b hb).2.2⟩).low (by omega))).append (hT6.drop jn))
    · go_wp2
      go_ret
      refine ⟨_, svs, rfl, HO.out, ?_, hb⟩
      have := HT.out
      rwa [List.take_of_length_le (Nat.not_lt.1 hlt)] at this

end Go.Proofs.Ytldndapcbgaliaa
