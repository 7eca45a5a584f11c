/-
  Contract of TopRows: the program's, at however many rows.
-/
import Derived.Test.YtldndapcbgaliaaProg
import Derived.Test.YtldndapcbgaliaaStC
import Derived.Test.YtldndapcbgaliaaCopy
import Derived.Test.YtldndapcbgaliaaSrtS
import Derived.Test.YtldndapcbgaliaaCol
namespace Go.Proofs.Ytldndapcbgaliaa
open Go.RowKit Go.Qo
set_option linter.unusedVariables false
set_option linter.unusedSimpArgs false

theorem tabRows {W : Int} {rows : List Row1} (h : TabOk W rows) : ∀ r ∈ rows, RowOk W r := fun r hr => by
  obtain ⟨i, hi, rfl⟩ := List.getElem_of_mem hr
  exact h.row (List.getElem?_eq_getElem hi)

/-- Rows of the call's own, each in memory of its own. -/
def ColRows (out : List Row1) (w : World) (e : Ending) (w' : World) : Prop :=
  ∃ (v : Value) (cp : List SRw), e = .returned v ∧ Ow w.heap.size 41 1 svC w' v (cp.map (·.1)) ∧ Cps w.heap.size w' cp ∧ cp.map (·.2) = out ∧ Below w.heap.size w w'
theorem ColRows.some {out : List Row1} {w : World} {e : Ending} {w' : World} (h : ColRows out w e w') : SomeRows out w e w' := by
  obtain ⟨v, cp, he, how, hc, hm, hb⟩ := h
  have hr := hc.rows
  rw [hm] at hr
  exact ⟨v, _, he, how, hr, hb⟩

set_option maxRecDepth 20000 in
set_option maxHeartbeats 2000000 in
theorem implTopRows0_ok (W N : Int) (A AK : Option Addr) (c cK : Nat) (rows : List Row1) (keys : List Key) (w : World) (hn : rows.length ≤ 1048576) (hnk : keys.length ≤ 1048576) (h : Rws w w.heap.size A rows) (hK : Sl 2 keyC w w.heap.size AK keys) (d : Bool) (hd : d = true ↔ (TabOk W rows ∧ KeysOk W keys ∧ 0 ≤ N)) (out : List Row1) (hout : (if d then (sortK keys rows).take N.toNat else []) = out) :
    Calls Try.prog 40 #[.agg #[.int .i64 W, .slice A rows.length c], .slice AK keys.length cK, .int .i64 N] w (ColRows out w) := by
  have HH := Lib.hid (And.intro h hK)
  have HN := Lib.hid (And.intro hn hnk)
  have Hd := Lib.hid hd
  have HOut := Lib.hid hout
  clear h hK hd hout
  have B0 := Lib.hid (balloc (Below.refl w.heap.size w) (.cells #[.int .i64 W, .slice A rows.length c] 25))
  have R0 := Lib.hid (Row.new w 25 #[.int .i64 W, .slice A rows.length c])
  obtain ⟨t, ht⟩ : ∃ t : Bool, t = true ↔ TabOk W rows := ⟨_, @decide_eq_true_iff _ (Classical.propDecidable _)⟩
  have HT := Lib.hid (implValidTable_ok W A c rows _ (by unfold maxLen; omega) (HH.out.1.on B0.out) t ht)
  have Ht := Lib.hid ht
  clear ht
  cases t
  · have hdf : d = false := bfalse Hd.out fun h => absurd (Ht.out.2 h.1) (by simp)
    subst hdf
    obtain rfl : [] = out := HOut.out
    go_enter Try.func40, Try.ntmps40
    go_wp2_with fail
    refine HT.out.mono ?_
    rintro e w1 ⟨rfl, hb1⟩
    go_wp2
    go_ret
    exact ⟨_, [], rfl, Ow.nil, Cps.nil, rfl, bch B0.out hb1⟩
  · have hto := Ht.out.1 rfl
    have Hto := Lib.hid hto
    have hn400 : rows.length ≤ 400 := hto.2.2.1
    have hW1 := hto.1
    have hW6 := hto.2.1
    clear hto
    go_enter Try.func40, Try.ntmps40
    go_wp2_with fail
    refine HT.out.mono ?_
    rintro e w1 ⟨rfl, hb1⟩
    have r1 := R0.out.on hb1
    have e0 : w1.cell? ⟨w.heap.size, 0, none⟩ = some (.int .i64 W) := r1.cell 0
    have e1 : w1.cell? ⟨w.heap.size, 1, none⟩ = some (.slice A rows.length c) := r1.cell 1
    have R1 := Lib.hid r1
    have H1 := Lib.hid (bch B0.out hb1)
    clear hb1 r1
    go_wp2_with fail
    refine (implValidKeys_any AK cK keys W w1 (by have := HN.out.2; unfold maxLen; omega) (HH.out.2.on H1.out)).mono ?_
    rintro e w2 ⟨q, rfl, hb2, hq⟩
    have Hq := Lib.hid (hq hW6)
    have r2 := R1.out.on hb2
    clear e0 e1
    have e0 : w2.cell? ⟨w.heap.size, 0, none⟩ = some (.int .i64 W) := r2.cell 0
    have e1 : w2.cell? ⟨w.heap.size, 1, none⟩ = some (.slice A rows.length c) := r2.cell 1
    have H2 := Lib.hid (bch H1.out hb2)
    clear hb2 r2 hq
    cases q
    · have hdf : d = false := bfalse Hd.out fun h => absurd (Hq.out.2 h.2.1) (by simp)
      subst hdf
      obtain rfl : [] = out := HOut.out
      go_wp2
      go_ret
      exact ⟨_, [], rfl, Ow.nil, Cps.nil, rfl, H2.out⟩
    · by_cases hN : N < 0
      · have hdf : d = false := bfalse Hd.out fun h => absurd h.2.2 (by omega)
        subst hdf
        obtain rfl : [] = out := HOut.out
        go_wp2
        go_ret
        exact ⟨_, [], rfl, Ow.nil, Cps.nil, rfl, H2.out⟩
      · have hko := Hq.out.1 rfl
        have hdt : d = true := Hd.out.2 ⟨Hto.out, hko, by omega⟩
        subst hdt
        have Hko := Lib.hid hko
        clear hko
        obtain ⟨svs, hsl, hsv, hin⟩ := HH.out.1.on H2.out
        have HPR := Lib.hid (pairs_ok (A := none) hsl (tabRows Hto.out) hin)
        have HC := copiedRows_ok A c svs w2 (by omega) hsv
        rw [hsl] at HC
        have HC := Lib.hid HC
        have HSL := Lib.hid hsl
        clear hsl hsv hin
        go_wp2_with fail
        refine HC.out.mono ?_
        rintro e w3 ⟨v7, rfl, how7, hb3⟩
        have HB3 := Lib.hid hb3
        have HO7 := Lib.hid how7
        obtain ⟨A7, c7, rfl, hc71, hc72, _⟩ := how7.shape svC_length
        have H3 := Lib.hid (bch H2.out hb3)
        clear how7 hb3
        go_wp2_with fail
        refine (comparisonByF_ok AK cK keys W w3 (by have := HN.out.2; unfold maxLen; omega) (HH.out.2.on H3.out) Hko.out).mono ?_
        rintro e w4 ⟨f, cap, rfl, hb4, hF⟩
        have HF := Lib.hid hF
        have HB4 := Lib.hid hb4
        have H4 := Lib.hid (bch H3.out hb4)
        clear hF hb4
        rcases Nat.eq_zero_or_pos rows.length with hz | hz
        · have hr0 : rows = [] := List.eq_nil_of_length_eq_zero hz
          have hs0 : svs = [] := List.eq_nil_of_length_eq_zero (by rw [HSL.out]; exact hz)
          have hout : out = [] := by rw [← HOut.out, hr0]; simp [sortK]
          subst hout
          have hk0 : rows.length = 0 := hz
          have hk1 : svs.length = 0 := by rw [hs0]; rfl
          have HSN := Lib.hid (fun z => sortStableNil_ok A7 c7 (.func (.func f) #[] cap) z)
          rw [hk1]
          go_wp2_with fail
          refine (HSN.out _).mono ?_
          rintro e w5 ⟨rfl, rfl⟩
          have hN0 : 0 ≤ N := by omega
          have HF0 := Lib.hid (bch H4.out (Below.refl _ _))
          by_cases hN1 : N = 0
          · subst hN1
            go_wp2
            go_loopg [8, 39] 0 (fun g v8 v39 wr => v8 = .slice none 0 0 ∧ v39 = .int .i64 0 ∧ w4 = wr)
            case atStart => exact ⟨rfl, rfl, rfl⟩
            case round =>
              obtain ⟨rfl, rfl, rfl⟩ := hrel
              go_wp2
              go_ret
              exact ⟨_, [], rfl, Ow.nil, Cps.nil, rfl, H4.out⟩
          · have hN2 : (0 : Int) < N := by omega
            have hN3 : ¬ (N < 0) := by omega
            go_wp2
            go_loopg [8, 39] 0 (fun g v8 v39 wr => v8 = .slice none 0 0 ∧ v39 = .int .i64 0 ∧ w4 = wr)
            case atStart => exact ⟨rfl, rfl, rfl⟩
            case round =>
              obtain ⟨rfl, rfl, rfl⟩ := hrel
              go_wp2
              go_ret
              exact ⟨_, [], rfl, Ow.nil, Cps.nil, rfl, H4.out⟩
        · obtain ⟨g, hA7, _, hg, hgl, _, _, _⟩ := HO7.out.head svC_length (by have := HSL.out; omega)
          subst hA7
          have hps : (svs.zip rows).length = svs.length := by simp [HSL.out]
          have hz24 : w2.heap.size ≤ w4.heap.size := by have h1 := HB3.out.size; have h2 := HB4.out.size; omega
          have hOL : OwL (svCell svOf) w2.heap.size g (svs.zip rows).length c7 w4 (svs.zip rows) := Ow.pairs (HO7.out.on HB4.out) HSL.out rfl
          have hSR : ∀ p ∈ svs.zip rows, SRok W w2.heap.size w4 p := fun p hp => (HPR.out p hp).only (only_below (S := fun _ => False) (bch HB3.out HB4.out)) (Nat.le_refl _) (fun _ h => h.elim)
          have HSN := sortStableR_ok svOf (srCmp keys) (SRok W w2.heap.size w4) (srCm Hko.out) w2.heap.size g (svs.zip rows).length c7 (svs.zip rows) _ w4 rfl (by rw [hps, HSL.out]; omega) hSR (HF.out.g hgl hz24 hg) hOL
          rw [hps] at HSN
          have HSN := Lib.hid HSN
          obtain ⟨qs, hqs⟩ : ∃ qs, gSort (srCmp keys) (svs.zip rows) = qs := ⟨_, rfl⟩
          have hqm : qs.map (·.2) = sortK keys rows := by rw [← hqs, gSort_map, zip_snd HSL.out, sortK_g (keysCol Hko.out) rows (tabRows Hto.out)]
          have hql : qs.length = svs.length := by rw [← hqs, gSort_length, hps]
          have hqp : ∀ p ∈ qs, SRok W w2.heap.size w4 p := fun p hp => hSR p ((gSort_perm (srCm Hko.out) hSR).mem_iff.1 (by rw [hqs]; exact hp))
          rw [hqs] at HSN
          have HQ := Lib.hid (And.intro hqm (And.intro hql hqp))
          have hsl19 : svs.length ≤ 400 := by have := HSL.out; omega
          clear hOL hSR hqs hqm hql hqp hps
          go_wp2_with fail
          refine HSN.out.mono ?_
          rintro e w5 ⟨rfl, hO5, hb5⟩
          have HO5 := Lib.hid hO5
          have H5 := Lib.hid (Only.from_ H4.out rfl hb5 (fun i hi => by have h1 := H2.out.size; omega))
          have W25 := Lib.hid (show w2.heap.size ≤ w5.heap.size from Nat.le_trans hz24 hb5.size)
          have W05 := Lib.hid (H5.out.size)
          have Hq3 := Lib.hid (And.intro HQ.out.2.1 (And.intro HQ.out.1 (fun p (hp : p ∈ qs) => (HQ.out.2.2 p hp).only hb5 hz24 (fun b hb => by subst hb; exact hg))))
          have hN0 : 0 ≤ N := by omega
          have hN3 : ¬ (N < 0) := by omega
          clear hO5 hb5
          by_cases hle : N ≤ svs.length
          · obtain ⟨k, rfl⟩ := Int.eq_ofNat_of_zero_le hN0
            have hk1 : k ≤ svs.length := by omega
            have hk2 : ¬ ((svs.length : Int) < (k : Int)) := by omega
            have hk3 : k ≤ c7 := by omega
            have Hout2 := Lib.hid (show out = (sortK keys rows).take k by rw [← HOut.out]; simp)
            go_wp2
            go_loopg [8, 39] k (fun gg v8 v39 wr => ∃ (i : Nat) (cp : List SRw), i ≤ k ∧ gg = k - i ∧ v39 = .int .i64 i ∧ Below w5.heap.size w5 wr ∧ Ow w5.heap.size 41 1 svC wr v8 (cp.map (·.1)) ∧ (Cps w.heap.size wr cp ∧ cp.map (·.2) = out.take i))
            case atStart => exact ⟨0, [], by omega, by omega, rfl, Below.refl _ _, Ow.nil, Cps.nil, by simp⟩
            case round =>
              obtain ⟨i, cp, hi, rfl, rfl, hb, how, hrt⟩ := hrel
              obtain ⟨sv2, hsv2⟩ : ∃ s, cp.map (·.1) = s := ⟨_, rfl⟩
              rw [hsv2] at how
              have hsvl : sv2.length = (out.take i).length := by rw [← hsv2, ← hrt.2, List.length_map, List.length_map]
              have HSV2 := Lib.hid (And.intro hsv2 hsvl)
              clear hsv2 hsvl
              have HL := Lib.hid (And.intro hb (And.intro how hrt))
              have hsz := hb.size
              clear how hrt
              by_cases hlt : i < k
              · have hiq : i < qs.length := by have := Hq3.out.1; omega
                have hx := Lib.hid (List.getElem?_eq_getElem hiq)
                have hxS := Hq3.out.2.2 _ (List.getElem_mem hiq)
                generalize qs[i] = x at *
                obtain ⟨s, r⟩ := x
                have hcell : wr.cell? ⟨g, i, none⟩ = some (.slice s.A s.n s.c) := (hb.cell (p := ⟨g, i, none⟩) HO5.out.lt).trans (HO5.out.at_ hx.out)
                have hgl5 := HO5.out.lt
                have hro : out[i]? = some r := by rw [Hout2.out, List.getElem?_take, if_pos hlt, ← Hq3.out.2.1, List.getElem?_map, hx.out]; rfl
                have HRO := Lib.hid hro
                have hrl : s.n = r.length := hxS.2.1
                have hr6 : r.length ≤ 6 := (rowValid_len hxS.1.1).2
                have HS := Lib.hid ((hxS.2.2.2.2.below (hb.mono W25.out)).more (Nat.le_trans W25.out hb.size))
                have hsv6 : sv2.length ≤ 400 := by have := HSV2.out.2; rw [List.length_take] at this; omega
                rw [hrl] at hcell
                clear hro hxS hb
                go_wp2_with fail
                refine (copiedRow_ok s.A s.c r wr (by omega) HS.out).mono ?_
                rintro e w6 ⟨v6, rfl, how6, hb6⟩
                obtain ⟨A6, c6, rfl, hc61, hc62, hs6⟩ := how6.shape valC_length
                have B6 := Lib.hid (balloc hb6 (.cells #[.slice A6 r.length c6] 41))
                have HO6 := Lib.hid (HL.out.2.1.on B6.out)
                have HR6 := Lib.hid (HL.out.2.2.1.on B6.out)
                have HX6 := Lib.hid (how6.on (balloc (Below.refl _ _) (.cells #[.slice A6 r.length c6] 41)))
                have HN6 := Lib.hid (Row.sl' (w := w6.alloc (.cells #[.slice A6 r.length c6] 41)) (t := 41) (xs := [(⟨A6, r.length, c6⟩ : SV)]) svC_length ((Row.new w6 _ _).of rfl))
                have hz6 : w5.heap.size ≤ (w6.alloc (.cells #[.slice A6 r.length c6] 41)).heap.size := by have h1 := hb6.size; simp; omega
                have hlow : w.heap.size ≤ wr.heap.size := by have h2 := W05.out; omega
                have HCC := Lib.hid (And.intro hc61 hc62)
                clear how6 hb6 hs6 hc61 hc62
                go_wp2_with (at_builtin; refine wpList_app rfl (.tmp 43) (.tmp 46) 23 rfl w5.heap.size 41 _ 1 24 svC Try.underlying23 zeroRow rfl (by decide) (by decide) svC_length svC_one _ sv2 rfl HO6.out (some ⟨w6.heap.size, 0, none⟩) 1 1 [(⟨A6, r.length, c6⟩ : SV)] rfl rfl HN6.out (by simp <;> omega) hz6 ?_; intro v7 w7 how7 hgr7)
                go_roundg (k - (i + 1))
                case measure => omega
                case rel =>
                  have hrow : ∀ q, Value.ownBlock _ = some q → w5.heap.size ≤ q ∧ TyAt _ q 41 := fun q hq => ⟨(HO6.out.ty q hq).1, (HO6.out.ty q hq).2.2⟩
                  refine ⟨i + 1, cp ++ [(⟨A6, r.length, c6⟩, r)], by omega, rfl, by go_num, ?_, (by rw [List.map_append, HSV2.out.1]; exact how7), ?_, ?_⟩
                  · exact (bch HL.out.1 B6.out).grown hgr7 hz6 fun q hq => (hrow q hq).1
                  · exact HL.out.2.2.1.snoc (HR6.out.grown hgr7 fun q hq => ⟨_, by decide, (hrow q hq).2⟩) hlow ⟨rfl, HX6.out.keep fun b _ hl ht => hgr7.block b hl fun e => (TyAt.ne ht (hrow _ e.symm).2 (by decide)) rfl⟩
                  · have ht : out.take (i + 1) = out.take i ++ [r] := by rw [List.take_add_one, HRO.out]; rfl
                    rw [ht]
                    rw [List.map_append, HL.out.2.2.2]; rfl
              · have hie : out.take i = out := by rw [Hout2.out, List.take_of_length_le (by rw [List.length_take]; omega)]
                go_wp2
                go_ret
                have h3 := HL.out.2.1
                rw [← HSV2.out.1] at h3
                exact ⟨_, cp, rfl, h3.low W05.out, HL.out.2.2.1, HL.out.2.2.2.trans hie, bch H5.out HL.out.1⟩
          · have hk2 : (svs.length : Int) < N := by omega
            have hk3 : ¬ (N ≤ (svs.length : Int)) := by omega
            have Hout2 := Lib.hid (show out = (sortK keys rows).take svs.length by
              rw [← HOut.out]
              have : (sortK keys rows).length = svs.length := by rw [sortK_length, HSL.out]
              simp only [if_true]
              rw [List.take_of_length_le (by omega), List.take_of_length_le (by omega)])
            go_wp2
            go_loopg [8, 39] svs.length (fun gg v8 v39 wr => ∃ (i : Nat) (cp : List SRw), i ≤ svs.length ∧ gg = svs.length - i ∧ v39 = .int .i64 i ∧ Below w5.heap.size w5 wr ∧ Ow w5.heap.size 41 1 svC wr v8 (cp.map (·.1)) ∧ (Cps w.heap.size wr cp ∧ cp.map (·.2) = out.take i))
            case atStart => exact ⟨0, [], by omega, by omega, rfl, Below.refl _ _, Ow.nil, Cps.nil, by simp⟩
            case round =>
              obtain ⟨i, cp, hi, rfl, rfl, hb, how, hrt⟩ := hrel
              obtain ⟨sv2, hsv2⟩ : ∃ s, cp.map (·.1) = s := ⟨_, rfl⟩
              rw [hsv2] at how
              have hsvl : sv2.length = (out.take i).length := by rw [← hsv2, ← hrt.2, List.length_map, List.length_map]
              have HSV2 := Lib.hid (And.intro hsv2 hsvl)
              clear hsv2 hsvl
              have HL := Lib.hid (And.intro hb (And.intro how hrt))
              have hsz := hb.size
              clear how hrt
              by_cases hlt : i < svs.length
              · have hiq : i < qs.length := by have := Hq3.out.1; omega
                have hx := Lib.hid (List.getElem?_eq_getElem hiq)
                have hxS := Hq3.out.2.2 _ (List.getElem_mem hiq)
                generalize qs[i] = x at *
                obtain ⟨s, r⟩ := x
                have hcell : wr.cell? ⟨g, i, none⟩ = some (.slice s.A s.n s.c) := (hb.cell (p := ⟨g, i, none⟩) HO5.out.lt).trans (HO5.out.at_ hx.out)
                have hgl5 := HO5.out.lt
                have hro : out[i]? = some r := by rw [Hout2.out, List.getElem?_take, if_pos hlt, ← Hq3.out.2.1, List.getElem?_map, hx.out]; rfl
                have HRO := Lib.hid hro
                have hrl : s.n = r.length := hxS.2.1
                have hr6 : r.length ≤ 6 := (rowValid_len hxS.1.1).2
                have HS := Lib.hid ((hxS.2.2.2.2.below (hb.mono W25.out)).more (Nat.le_trans W25.out hb.size))
                have hsv6 : sv2.length ≤ 400 := by have := HSV2.out.2; rw [List.length_take] at this; omega
                rw [hrl] at hcell
                clear hro hxS hb
                go_wp2_with fail
                refine (copiedRow_ok s.A s.c r wr (by omega) HS.out).mono ?_
                rintro e w6 ⟨v6, rfl, how6, hb6⟩
                obtain ⟨A6, c6, rfl, hc61, hc62, hs6⟩ := how6.shape valC_length
                have B6 := Lib.hid (balloc hb6 (.cells #[.slice A6 r.length c6] 41))
                have HO6 := Lib.hid (HL.out.2.1.on B6.out)
                have HR6 := Lib.hid (HL.out.2.2.1.on B6.out)
                have HX6 := Lib.hid (how6.on (balloc (Below.refl _ _) (.cells #[.slice A6 r.length c6] 41)))
                have HN6 := Lib.hid (Row.sl' (w := w6.alloc (.cells #[.slice A6 r.length c6] 41)) (t := 41) (xs := [(⟨A6, r.length, c6⟩ : SV)]) svC_length ((Row.new w6 _ _).of rfl))
                have hz6 : w5.heap.size ≤ (w6.alloc (.cells #[.slice A6 r.length c6] 41)).heap.size := by have h1 := hb6.size; simp; omega
                have hlow : w.heap.size ≤ wr.heap.size := by have h2 := W05.out; omega
                have HCC := Lib.hid (And.intro hc61 hc62)
                clear how6 hb6 hs6 hc61 hc62
                go_wp2_with (at_builtin; refine wpList_app rfl (.tmp 43) (.tmp 46) 23 rfl w5.heap.size 41 _ 1 24 svC Try.underlying23 zeroRow rfl (by decide) (by decide) svC_length svC_one _ sv2 rfl HO6.out (some ⟨w6.heap.size, 0, none⟩) 1 1 [(⟨A6, r.length, c6⟩ : SV)] rfl rfl HN6.out (by simp <;> omega) hz6 ?_; intro v7 w7 how7 hgr7)
                go_roundg (svs.length - (i + 1))
                case measure => omega
                case rel =>
                  have hrow : ∀ q, Value.ownBlock _ = some q → w5.heap.size ≤ q ∧ TyAt _ q 41 := fun q hq => ⟨(HO6.out.ty q hq).1, (HO6.out.ty q hq).2.2⟩
                  refine ⟨i + 1, cp ++ [(⟨A6, r.length, c6⟩, r)], by omega, rfl, by go_num, ?_, (by rw [List.map_append, HSV2.out.1]; exact how7), ?_, ?_⟩
                  · exact (bch HL.out.1 B6.out).grown hgr7 hz6 fun q hq => (hrow q hq).1
                  · exact HL.out.2.2.1.snoc (HR6.out.grown hgr7 fun q hq => ⟨_, by decide, (hrow q hq).2⟩) hlow ⟨rfl, HX6.out.keep fun b _ hl ht => hgr7.block b hl fun e => (TyAt.ne ht (hrow _ e.symm).2 (by decide)) rfl⟩
                  · have ht : out.take (i + 1) = out.take i ++ [r] := by rw [List.take_add_one, HRO.out]; rfl
                    rw [ht]
                    rw [List.map_append, HL.out.2.2.2]; rfl
              · have hie : out.take i = out := by rw [Hout2.out, List.take_of_length_le (by rw [List.length_take]; omega)]
                go_wp2
                go_ret
                have h3 := HL.out.2.1
                rw [← HSV2.out.1] at h3
                exact ⟨_, cp, rfl, h3.low W05.out, HL.out.2.2.1, HL.out.2.2.2.trans hie, bch H5.out HL.out.1⟩

theorem implTopRows_ok (W N : Int) (A AK : Option Addr) (c cK : Nat) (rows : List Row1) (keys : List Key) (w : World) (hn : rows.length ≤ 1048576) (hnk : keys.length ≤ 1048576) (h : Rws w w.heap.size A rows) (hK : Sl 2 keyC w w.heap.size AK keys) (d : Bool) (hd : d = true ↔ (TabOk W rows ∧ KeysOk W keys ∧ 0 ≤ N)) :
    Calls Try.prog 40 #[.agg #[.int .i64 W, .slice A rows.length c], .slice AK keys.length cK, .int .i64 N] w (SomeRows (if d then (sortK keys rows).take N.toNat else []) w) := (implTopRows0_ok W N A AK c cK rows keys w hn hnk h hK d hd _ rfl).mono fun _ _ h => h.some

set_option maxHeartbeats 1000000 in
theorem implSortRows0_ok (W : Int) (A AK : Option Addr) (c cK : Nat) (rows : List Row1) (keys : List Key) (w : World) (hn : rows.length ≤ 1048576) (hnk : keys.length ≤ 1048576) (h : Rws w w.heap.size A rows) (hK : Sl 2 keyC w w.heap.size AK keys) (d : Bool) (hd : d = true ↔ (TabOk W rows ∧ KeysOk W keys)) (out : List Row1) (hout : (if d then sortK keys rows else []) = out) :
    Calls Try.prog 13 #[.agg #[.int .i64 W, .slice A rows.length c], .slice AK keys.length cK] w (ColRows out w) := by
  have HB := Lib.hid (balloc (Below.refl w.heap.size w) (.cells #[.int .i64 W, .slice A rows.length c] 25))
  have HT := Lib.hid (implTopRows0_ok W 400 A AK c cK rows keys _ hn hnk (h.on HB.out) (hK.on HB.out) d (by rw [hd]; exact ⟨fun h => ⟨h.1, h.2, by omega⟩, fun h => ⟨h.1, h.2.1⟩⟩) out (by
    rw [← hout]
    cases d
    · rfl
    · have hT := (hd.1 rfl).1.2.2.1
      simp only [if_true]
      rw [List.take_of_length_le (by rw [sortK_length]; show rows.length ≤ 400; omega)]))
  clear h hK hd hout
  go_enter Try.func13, Try.ntmps13
  go_wp2_with fail
  refine HT.out.mono ?_
  rintro e w1 ⟨v, cp, rfl, how, hrt, hm, hb1⟩
  have HM := Lib.hid hm
  clear hm
  go_wp2
  go_ret
  have hz := HB.out.size
  exact ⟨_, cp, rfl, how.low hz, hrt.low hz, HM.out, bch HB.out hb1⟩

theorem implSortRows_ok (W : Int) (A AK : Option Addr) (c cK : Nat) (rows : List Row1) (keys : List Key) (w : World) (hn : rows.length ≤ 1048576) (hnk : keys.length ≤ 1048576) (h : Rws w w.heap.size A rows) (hK : Sl 2 keyC w w.heap.size AK keys) (d : Bool) (hd : d = true ↔ (TabOk W rows ∧ KeysOk W keys)) (out : List Row1) (hout : (if d then sortK keys rows else []) = out) :
    Calls Try.prog 13 #[.agg #[.int .i64 W, .slice A rows.length c], .slice AK keys.length cK] w (SomeRows out w) :=
  (implSortRows0_ok W A AK c cK rows keys w hn hnk h hK d hd out hout).mono fun _ _ h => h.some

end Go.Proofs.Ytldndapcbgaliaa
