/-
  Contracts of SortRows, insertRow: the reference's.
-/
import Derived.Test.YtldndapcbgaliaaProg
import Derived.Test.YtldndapcbgaliaaSrtS
namespace Go.Proofs.Ytldndapcbgaliaa
open Go.RowKit Go.Qo
set_option linter.unusedVariables false
set_option linter.unusedSimpArgs false

theorem TabOk.allRows {W : Int} {rows : List Row1} (h : TabOk W rows) : AllRows W rows := fun r hr => by
  obtain ⟨i, hi, rfl⟩ := List.getElem_of_mem hr
  exact h.row (List.getElem?_eq_getElem hi)

set_option maxHeartbeats 1000000 in
theorem specSortRowsT_ok (W : Int) (A AK : Option Addr) (c cK : Nat) (rows : List Row1) (keys : List Key) (w : World) (hn : rows.length ≤ 1048576) (hnk : keys.length ≤ 1048576) (h : Rws w w.heap.size A rows) (hK : Sl 2 keyC w w.heap.size AK keys) (d : Bool) (hd : d = true ↔ (TabOk W rows ∧ KeysOk W keys)) :
    Calls Try.prog 15 #[.agg #[.int .i64 W, .slice A rows.length c], .slice AK keys.length cK] w (SomeRows (if d then sortK keys rows else []) w) := by
  have HN := Lib.hid (And.intro hn hnk)
  have HH := Lib.hid (And.intro h hK)
  have Hd := Lib.hid hd
  clear h hK hd
  have B0 := Lib.hid (balloc (Below.refl w.heap.size w) (.cells #[.int .i64 W, .slice A rows.length c] 25))
  have R0 := Lib.hid ((Row.new w 25 #[.int .i64 W, .slice A rows.length c]))
  obtain ⟨t, ht⟩ : ∃ t : Bool, t = true ↔ TabOk W rows := ⟨_, @decide_eq_true_iff _ (Classical.propDecidable _)⟩
  have HT := Lib.hid (specValidTable_ok W A c rows _ (by unfold maxLen; omega) (HH.out.1.on B0.out) t ht)
  have Ht := Lib.hid ht
  clear ht
  cases t
  · have hdf : d = false := bfalse Hd.out fun h => absurd (Ht.out.2 h.1) (by simp)
    subst hdf
    go_enter Try.func15, Try.ntmps15
    go_wp2_with fail
    refine HT.out.mono ?_
    rintro e w1 ⟨rfl, hb1⟩
    go_wp2
    go_ret
    exact ⟨_, [], rfl, Ow.nil, RowsT.nil, bch B0.out hb1⟩
  · have hto := Ht.out.1 rfl
    have Hto := Lib.hid hto
    obtain ⟨q, hq⟩ : ∃ q : Bool, q = true ↔ (KeysOk W keys ∧ 1 ≤ W ∧ W ≤ 6) := ⟨_, @decide_eq_true_iff _ (Classical.propDecidable _)⟩
    have HKs := Lib.hid (fun (z : World) (hz : Below w.heap.size w z) => specValidKeys_ok AK cK keys W z (by have := HN.out.2; unfold maxLen; omega) (by have := hto.1; omega) (by have := hto.2.1; omega) (HH.out.2.on hz) q hq)
    have Hq := Lib.hid hq
    clear hq hto
    cases q
    · have hdf : d = false := bfalse Hd.out fun h => absurd (Hq.out.2 ⟨h.2, Hto.out.1, Hto.out.2.1⟩) (by simp)
      subst hdf
      go_enter Try.func15, Try.ntmps15
      go_wp2_with fail
      refine HT.out.mono ?_
      rintro e w1 ⟨rfl, hb1⟩
      have r1 := R0.out.on hb1
      have e0 : w1.cell? ⟨w.heap.size, 0, none⟩ = some (.int .i64 W) := r1.cell 0
      have e1 : w1.cell? ⟨w.heap.size, 1, none⟩ = some (.slice A rows.length c) := r1.cell 1
      have H1 := Lib.hid (bch B0.out hb1)
      clear hb1 r1
      go_wp2_with fail
      refine (HKs.out _ H1.out).mono ?_
      rintro e w2 ⟨rfl, hb2⟩
      go_wp2
      go_ret
      exact ⟨_, [], rfl, Ow.nil, RowsT.nil, bch H1.out hb2⟩
    · have hko := (Hq.out.1 rfl).1
      have hdt : d = true := Hd.out.2 ⟨Hto.out, hko⟩
      subst hdt
      have Hko := Lib.hid hko
      clear hko
      go_enter Try.func15, Try.ntmps15
      go_wp2_with fail
      refine HT.out.mono ?_
      rintro e w1 ⟨rfl, hb1⟩
      have r1 := R0.out.on hb1
      have e0 : w1.cell? ⟨w.heap.size, 0, none⟩ = some (.int .i64 W) := r1.cell 0
      have e1 : w1.cell? ⟨w.heap.size, 1, none⟩ = some (.slice A rows.length c) := r1.cell 1
      have R1 := Lib.hid r1
      have H1 := Lib.hid (bch B0.out hb1)
      clear hb1 r1
      go_wp2_with fail
      refine (HKs.out _ H1.out).mono ?_
      rintro e w2 ⟨rfl, hb2⟩
      have r2 := R1.out.on hb2
      have e0' : w2.cell? ⟨w.heap.size, 0, none⟩ = some (.int .i64 W) := r2.cell 0
      have e1' : w2.cell? ⟨w.heap.size, 1, none⟩ = some (.slice A rows.length c) := r2.cell 1
      have H2 := Lib.hid (bch H1.out hb2)
      clear hb2 r2
      go_wp2_with fail
      refine (specSortRows_ok A AK c cK rows keys W w2 HN.out.1 HN.out.2 (HH.out.1.on H2.out) (HH.out.2.on H2.out) (TabOk.allRows Hto.out) Hko.out).mono ?_
      rintro e w3 ⟨v, svs, rfl, how, hrt, hb3⟩
      go_wp2
      go_ret
      have hz := H2.out.size
      exact ⟨_, svs, rfl, how.low hz, hrt.low hz, bch H2.out hb3⟩

/-- Where insertRow puts a row. -/
def InsAt (rows : List Row1) (row : Row1) (low : Nat) : Prop := low ≤ rows.length ∧ (∀ y, 0 < low → rows[low - 1]? = some y → rCmp y row ≤ 0) ∧ ∀ y, rows[low]? = some y → 0 < rCmp y row
def InsRes (lo : Nat) (rows : List Row1) (row : Row1) (w : World) (e : Ending) (w' : World) : Prop :=
  ∃ (low : Nat) (v : Value) (svs : List SV), e = .returned v ∧ InsAt rows row low ∧ Ow w.heap.size 41 1 svC w' v svs ∧ RowsT 40 2 valC lo w' svs (rows.take low ++ [row] ++ rows.drop low) ∧ Below w.heap.size w w'

set_option maxRecDepth 20000 in
set_option maxHeartbeats 2000000 in
theorem insertRow_ok (lo : Nat) (A AR : Option Addr) (c cR : Nat) (svs : List SV) (rows : List Row1) (row : Row1) (w : World) (hlo : lo ≤ w.heap.size) (hn : rows.length ≤ 1048576) (hc : rows.length ≤ c) (hnr : row.length ≤ 1048576) (hlr : ∀ r ∈ rows, r.length ≤ 1048576) (hs : Sl 1 svC w w.heap.size A svs) (hT : RowsT 40 2 valC lo w svs rows) (hR : Sl 2 valC w w.heap.size AR row) :
    Calls Try.prog 110 #[.slice A rows.length c, .slice AR row.length cR] w (InsRes lo rows row w) := by
  have HS := Lib.hid hs
  have HT := Lib.hid hT
  have HRo := Lib.hid hR
  have HL := Lib.hid hlr
  have hsl := hT.1
  clear hs hT hR hlr
  go_enter Try.func110, Try.ntmps110
  go_wp2
  go_loopg [5, 6] (rows.length) (fun g lv hv wr => ∃ l h : Nat, l ≤ h ∧ h ≤ rows.length ∧ g = h - l ∧ lv = .int .i64 l ∧ hv = .int .i64 h ∧ Below w.heap.size w wr ∧ (∀ y, 0 < l → rows[l - 1]? = some y → rCmp y row ≤ 0) ∧ ∀ y, rows[h]? = some y → 0 < rCmp y row)
  case atStart => exact ⟨0, rows.length, by omega, by omega, by omega, rfl, rfl, Below.refl _ _, fun y h => absurd h (by omega), fun y h => by simp at h⟩
  case round =>
    obtain ⟨l, h, hlh, hh, rfl, rfl, rfl, hb, hp⟩ := hrel
    have Hp := Lib.hid hp
    clear hp
    by_cases hlt : l < h
    · obtain ⟨m, hm⟩ : ∃ m, (l + h) / 2 = m := ⟨_, rfl⟩
      have hm1 : l ≤ m := by omega
      have hm2 : m < h := by omega
      have e1 : ((l : Int) + (h : Int)) / 2 = (m : Int) := by omega
      have hmr : m < rows.length := by omega
      obtain ⟨b, off, A1, C1, hA, hB, c1, hc1, hmx, s1⟩ := (sls_of' (HS.out.on hb) (HT.out.on hb)).at_ hmr
      have hx := Lib.hid (List.getElem?_eq_getElem hmr)
      have hxl := HL.out _ (List.getElem_mem hmr)
      generalize rows[m] = x at *
      subst hA
      obtain ⟨R, hR⟩ : ∃ R, rCmp x row = R := ⟨_, rfl⟩
      have HK := Lib.hid (specCompareRows_ok A1 AR C1 cR x row wr (by unfold maxLen; omega) (by unfold maxLen; omega) s1 (HRo.out.on hb) R hR)
      have HRR := Lib.hid hR
      clear hR s1 hc1 hmx hxl hm
      have hb' := Lib.hid hb
      clear hb
      by_cases h0 : R ≤ 0
      · go_wp2_with fail
        refine HK.out.mono ?_
        rintro e w1 ⟨rfl, hb1⟩
        go_wp2
        go_roundg (h - (m + 1))
        case measure => omega
        case rel => exact ⟨m + 1, h, by omega, hh, rfl, by go_num, rfl, bch hb'.out hb1, fun y _ hy => by rw [show m + 1 - 1 = m by omega, hx.out] at hy; cases hy; rw [HRR.out]; exact h0, Hp.out.2⟩
      · go_wp2_with fail
        refine HK.out.mono ?_
        rintro e w1 ⟨rfl, hb1⟩
        go_wp2
        go_roundg (m - l)
        case measure => omega
        case rel => exact ⟨l, m, by omega, by omega, rfl, rfl, rfl, bch hb'.out hb1, Hp.out.1, fun y hy => by rw [hx.out] at hy; cases hy; rw [HRR.out]; omega⟩
    · obtain ⟨w1, hw1⟩ : ∃ w1 : World, w1 = wr := ⟨_, rfl⟩
      subst hw1
      obtain rfl : l = h := by omega
      have HAt := Lib.hid (show InsAt rows row l from ⟨hh, Hp.out⟩)
      have B1 := Lib.hid hb
      have hz1 := B1.out.size
      have hls : l ≤ svs.length := by omega
      have hlc : l ≤ c := by omega
      have hsvn : svs.length ≤ 1048576 := by omega
      have HSL := Lib.hid hsl
      have L0 := Lib.hid (Ow.lit (w := w1) (lo := w1.heap.size) (e := 41) (enc := svC) (xs := ([] : List SV)) (cs := #[]) (sz := 1) rfl rfl (Nat.le_refl _) (by decide))
      have S1 := Lib.hid ((((HS.out.on B1.out)).on (balloc (Below.refl _ _) (.cells #[] 41))).cut l)
      have hlt1 : (svs.take l).length = l := by rw [List.length_take]; omega
      have hsz1 : w1.heap.size ≤ (w1.alloc (.cells #[] 41)).heap.size := by simp
      clear hb hsl
      go_wp2_with (at_builtin; refine wpList_app rfl (.tmp 28) (.tmp 31) 23 rfl w1.heap.size 41 _ 1 24 svC Try.underlying23 zeroRow rfl (by decide) (by decide) svC_length svC_one _ [] rfl L0.out A l c (svs.take l) rfl hlt1.symm S1.out (by simp <;> omega) hsz1 ?_; intro v1 w2 how1 hgr1; have B12 := Lib.hid ((balloc (Below.refl _ w1) _).grown hgr1 hsz1 fun k hk => (L0.out.ty k hk).1); have B2 := Lib.hid (bch B1.out B12.out))
      refine (copyRow_ok AR cR row w2 hnr (HRo.out.on B2.out)).mono ?_
      rintro e w3 ⟨v2, rfl, how2, hb3⟩
      obtain ⟨A2, c2, rfl, hc21, hc22, hs2⟩ := how2.shape valC_length
      have B23 := Lib.hid (balloc hb3 (.cells #[.slice A2 row.length c2] 41))
      have O1 := Lib.hid (how1.on B23.out)
      have S2 := Lib.hid (Row.sl' (w := w3.alloc (.cells #[.slice A2 row.length c2] 41)) (t := 41) (xs := [(⟨A2, row.length, c2⟩ : SV)]) svC_length ((Row.new w3 _ _).of rfl))
      have hz3 := hb3.size
      have hz2 := B12.out.size
      have hz2a : w1.heap.size ≤ w2.heap.size := hz2
      have hsz2 : w1.heap.size ≤ (w3.alloc (.cells #[.slice A2 row.length c2] 41)).heap.size := by simp; omega
      have SX := Lib.hid (hs2.on (balloc (Below.refl _ _) (.cells #[.slice A2 row.length c2] 41)))
      have HC := Lib.hid (And.intro hc21 hc22)
      clear hs2 how2 how1 hc21 hc22 hb3
      go_wp2_with (at_builtin; first
        | (refine wpList_app rfl (.tmp 33) (.tmp 36) 23 rfl w1.heap.size 41 _ 1 24 svC Try.underlying23 zeroRow rfl (by decide) (by decide) svC_length svC_one _ ([] ++ svs.take l) rfl O1.out (some ⟨w3.heap.size, 0, none⟩) 1 1 [(⟨A2, row.length, c2⟩ : SV)] rfl rfl S2.out (by simp <;> omega) hsz2 ?_; intro v3 w4 how3 hgr3; have O3 := Lib.hid how3; have B24 := Lib.hid (((B23.out.mono hz2a).grown hgr3 hsz2 fun b hb => (O1.out.ty b hb).1)); have B14 := Lib.hid ((B12.out).trans B24.out); have B4 := Lib.hid (bch B1.out B14.out); have SX4 := Lib.hid (SX.out.grown hgr3 fun b hb => .inr ⟨41, by decide, (O1.out.ty b hb).2.2⟩); have S3 := Lib.hid ((HS.out.on B4.out)); have hsz4 : w1.heap.size ≤ w4.heap.size := B14.out.size; clear how3 hgr3)
        | (refine wpList_app rfl (.tmp 38) (.tmp 41) 23 rfl w1.heap.size 41 _ 1 24 svC Try.underlying23 zeroRow rfl (by decide) (by decide) svC_length svC_one _ (([] ++ svs.take l) ++ [(⟨A2, row.length, c2⟩ : SV)]) rfl O3.out _ _ _ (svs.drop l) rfl (by have := HSL.out; simp <;> omega) (by have := HSL.out; refine Sl.from_ S3.out ?_; intro b off hA hl; subst hA; first | (rw [if_neg (by omega)]; simp [Addr.add_lit]) | (simp <;> omega)) (by simp <;> omega) hsz4 ?_; intro v5 w6 how5 hgr5))
      all_goals (
        go_ret
        have B6 : Below w.heap.size w w6 := B4.out.grown hgr5 (by have := B4.out.size; omega) fun b hb => by have := (O3.out.ty b hb).1; omega
        have hT6 := HT.out.on B6
        refine ⟨l, _, _, rfl, HAt.out, how5.low hz1, ?_, B6⟩
        rw [List.nil_append]
        exact ((hT6.take l).snoc rfl HC.out.1 HC.out.2 ((SX4.out.grown hgr5 fun b hb => .inr ⟨41, by decide, (O3.out.ty b hb).2.2⟩).low (by omega))).append (hT6.drop l))

end Go.Proofs.Ytldndapcbgaliaa
