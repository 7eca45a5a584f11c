/-
  Contracts of bagRows, ExceptAll, IntersectAll: the reference's.
-/
import Derived.Test.YtfjpmifdmpoocaaProg
import Derived.Test.YtfjpmifdmpoocaaTof
import Derived.Test.YtfjpmifdmpoocaaBagD
import Derived.Test.YtfjpmifdmpoocaaTab
import Derived.Test.YtfjpmifdmpoocaaRow
import Derived.Deep.RegionHeld3
import Derived.Deep.DeepCutAuto
namespace Go.Proofs.Ytfjpmifdmpoocaa
open Go.RowKit Go.Qo
set_option linter.unusedVariables false
set_option linter.unusedSimpArgs false

theorem mem_drop_of {α : Type} {l : List α} {n : Nat} {x : α} (h : x ∈ l.drop n) : ∃ j, n ≤ j ∧ l[j]? = some x := by
  obtain ⟨i, hi, rfl⟩ := List.getElem_of_mem h
  rw [List.length_drop] at hi
  exact ⟨n + i, by omega, by rw [List.getElem_drop, List.getElem?_eq_getElem (by omega)]⟩
/-- What is built of valid rows is sorted. -/
theorem Built.srt {W : Int} {rs out : List Row1} (h : Built rs out) (hr : ∀ r ∈ rs, RowOk W r) : out.Pairwise (fun a b => rCmp a b ≤ 0) := by
  induction h with
  | nil => exact List.Pairwise.nil
  | @snoc rs out r low hb hi ih =>
    have hro : RowOk W r := hr r (by simp)
    have ih := ih fun x hx => hr x (by simp [hx])
    have hout : ∀ x ∈ out, RowOk W x := fun x hx => hr x (by simp [hb.perm.mem_iff.1 hx])
    obtain ⟨hl, h1, h2⟩ := hi
    have hpw := List.pairwise_iff_getElem.1 ih
    have ha : ∀ x ∈ out.take low, rCmp x r ≤ 0 := fun x hx => by
      obtain ⟨j, hj, rfl⟩ := List.getElem_of_mem hx
      rw [List.length_take] at hj
      rw [List.getElem_take]
      have hl1 : low - 1 < out.length := by omega
      have h3 := h1 out[low - 1] (by omega) (List.getElem?_eq_getElem hl1)
      rcases Nat.lt_or_ge j (low - 1) with h4 | h4
      · exact (hout _ (List.getElem_mem _)).trans (hout _ (List.getElem_mem hl1)) hro (hpw j (low - 1) (by omega) hl1 h4) h3
      · have : j = low - 1 := by omega
        subst this; exact h3
    have hd : ∀ x ∈ out.drop low, rCmp r x ≤ 0 := fun x hx => by
      obtain ⟨j, hj, hxj⟩ := mem_drop_of hx
      have hjl := (List.getElem?_eq_some_iff.1 hxj).1
      have hjx := (List.getElem?_eq_some_iff.1 hxj).2
      have hl1 : low < out.length := by omega
      have h3 := h2 out[low] (List.getElem?_eq_getElem hl1)
      have h5 := (hout _ (List.getElem_mem hl1)).anti hro
      rcases Nat.lt_or_ge low j with h4 | h4
      · have h6 := hpw low j hl1 hjl h4
        rw [hjx] at h6
        exact hro.trans (hout _ (List.getElem_mem hl1)) (hout x (List.mem_of_mem_drop hx)) (by omega) h6
      · have : j = low := by omega
        subst this; rw [← hjx]; omega
    rw [List.append_assoc, List.pairwise_append]
    refine ⟨ih.sublist (List.take_sublist _ _), ?_, fun x hx y hy => ?_⟩
    · rw [List.singleton_append, List.pairwise_cons]
      exact ⟨hd, ih.sublist (List.drop_sublist _ _)⟩
    · have hxo := hout x (List.mem_of_mem_take hx)
      rcases List.mem_append.1 hy with h4 | h4
      · simp only [List.mem_singleton] at h4; subst h4; exact ha x hx
      · exact hxo.trans hro (hout y (List.mem_of_mem_drop h4)) (ha x hx) (hd y h4)

/-- What a table of the reference's is: the zero table, or that of some rows. -/
def TabD (q : Bool) (W : Int) (rows : List Row1) (W1 : Int) (out : List Row1) : Prop :=
  (q = false ∧ W1 = 0 ∧ out = []) ∨ (q = true ∧ W1 = W ∧ (if rows.length ≤ 400 then Built rows out else out = []))
/-- A table of the call's own, and whether it is one. -/
def SpecTab (q : Bool) (W : Int) (rows : List Row1) (w : World) (e : Ending) (w' : World) : Prop :=
  ∃ (W1 : Int) (v : Value) (svs : List SV) (out : List Row1), e = .returned (.tuple #[.agg #[.int .i64 W1, v], .bool q]) ∧ TabD q W rows W1 out ∧ Ow w.heap.size 40 1 svC w' v svs ∧ RowsT 46 2 valC 0 w' svs out ∧ Below w.heap.size w w'
theorem SpecTab.no {W : Int} {rows : List Row1} {w w' : World} (hb : Below w.heap.size w w') : SpecTab false W rows w (.returned (.tuple #[.agg #[.int .i64 0, .slice none 0 0], .bool false])) w' :=
  ⟨0, _, [], [], rfl, .inl ⟨rfl, rfl, rfl⟩, Ow.nil, RowsT.nil, hb⟩

theorem resBag {b : Nat} {v0 v1 : Value} (tmps : Array Value) (hp : tmps.getD 6 undef = .pointer (some ⟨b, 0, none⟩)) (w : World) (c0 : w.cell? ⟨b, 0, none⟩ = some v0) (c1 : w.cell? ⟨b, 1, none⟩ = some v1) :
    (results Try.f52 tmps).run Try.prog w = .ok (.agg #[v0, v1]) w := by
  simp only [Array.getD_eq_getD_getElem?] at hp
  simp [results, Try.results52, go_sem, hp, c0, c1]
def bagB (common : Bool) (m1 m2 m3 : Nat) : Bool := (common && decide (m1 < m3)) || (!common && decide (m3 ≤ m2))
theorem bagR_take (common : Bool) {xs ys : List Row1} {k : Nat} {x : Row1} (hx : xs[k]? = some x) : bagR common (xs.take (k + 1)) ys = if bagB common (cnt (bagR common (xs.take k) ys) x) (cnt (xs.take k) x) (cnt ys x) then bagR common (xs.take k) ys ++ [x] else bagR common (xs.take k) ys := by
  rw [List.take_add_one, hx]
  exact bagR_snoc common _ ys x

set_option maxRecDepth 20000 in
set_option maxHeartbeats 2000000 in
theorem specBagRows_ok (W W' : Int) (A A' : Option Addr) (c c' : Nat) (svs : List SV) (xs ys : List Row1) (common : Bool) (w : World) (hcap : xs.length ≤ c) (hcap2 : c ≤ maxLen) (hn : xs.length ≤ 1048576) (hn' : ys.length ≤ 1048576) (hlr : ∀ r ∈ xs, r.length ≤ 1048576) (hs : Sl 1 svC w w.heap.size A svs) (hT : RowsT 46 2 valC 0 w svs xs) (h' : Rws w w.heap.size A' ys) :
    Calls Try.prog 52 #[.agg #[.int .i64 W, .slice A xs.length c], .agg #[.int .i64 W', .slice A' ys.length c'], .bool common] w (TofRes 0 W (bagR common xs ys) w) := by
  have HS := Lib.hid (And.intro hs (And.intro hT h'))
  have HL := Lib.hid (And.intro hn (And.intro hn' hlr))
  clear hs hT h' hlr
  go_enter Try.func52, Try.ntmps52
  go_wp2
  go_loopg [7, 8] (xs.length) (fun g v i wr => ∃ (k : Nat) (sv : List SV), k ≤ xs.length ∧ g = xs.length - k ∧ i = .int .i64 k ∧ Ow (w.heap.size + 3) 40 1 svC wr v sv ∧ RowsT 46 2 valC 0 wr sv (bagR common (xs.take k) ys) ∧
    Row wr w.heap.size 25 [.int .i64 W, .slice A xs.length c] ∧ Row wr (w.heap.size + 1) 25 [.int .i64 W', .slice A' ys.length c'] ∧ Row wr (w.heap.size + 2) 25 [.int .i64 0, .slice none 0 0] ∧ Below w.heap.size w wr)
  case atStart =>
    refine ⟨0, [], by omega, by omega, rfl, ?_, RowsT.nil, ?_, ?_, ?_, balloc (balloc (balloc (balloc (Below.refl _ _) _) _) _) _⟩
    · have := Ow.lit (w := ((w.alloc (.cells #[.int .i64 W, .slice A xs.length c] 25)).alloc (.cells #[.int .i64 W', .slice A' ys.length c'] 25)).alloc (.cells #[.int .i64 0, .slice none 0 0] 25)) (lo := w.heap.size + 3) (e := 40) (enc := svC) (xs := ([] : List SV)) (cs := #[]) (sz := 1) rfl rfl (by simp) (by decide)
      simp only [World.size_alloc] at this
      exact this
    · exact (((Row.new w _ _).alloc _).alloc _).alloc _
    · exact ((Row.second w _ _ _).alloc _).alloc _
    · exact (Row.third w _ _ _ _).alloc _
  case round =>
    obtain ⟨k, sv, hk, rfl, rfl, how, hrt, r0, r1, r2, hb⟩ := hrel
    obtain ⟨Av, cv, rfl, hcv1, hcv2, hsv⟩ := how.shape svC_length
    have hsl := hrt.1
    have hbl : (bagR common (xs.take k) ys).length ≤ k := by have := bagR_length common ys (xs.take k); rw [List.length_take] at this; omega
    have HI := Lib.hid (And.intro how (And.intro hrt (And.intro r0 (And.intro r1 (And.intro r2 hb)))))
    have a0 : wr.cell? ⟨w.heap.size, 1, none⟩ = some (.slice A xs.length c) := r0.cell 1
    have b0 : wr.cell? ⟨w.heap.size + 1, 1, none⟩ = some (.slice A' ys.length c') := r1.cell 1
    have l0 := r0.lt
    have l1 := r1.lt
    have hsvl : sv.length ≤ 1048576 := by omega
    have HSL := Lib.hid (And.intro hsl hbl)
    have HSV := Lib.hid (And.intro hsv (And.intro hcv1 hcv2))
    clear how hrt r0 r1 r2 hb hsl hbl hsv hcv1 hcv2
    by_cases hlt : k < xs.length
    · obtain ⟨x, hx⟩ : ∃ x, xs[k]? = some x := ⟨_, List.getElem?_eq_getElem hlt⟩
      have hkl : k < svs.length := by rw [HS.out.2.1.1]; exact hlt
      obtain ⟨s, hsk⟩ : ∃ s, svs[k]? = some s := ⟨_, List.getElem?_eq_getElem hkl⟩
      obtain ⟨hsn, hsc, hscm, hsT⟩ := (HS.out.2.1.on HI.out.2.2.2.2.2).2 k s x hsk hx
      obtain ⟨b2, off2, hA2, hB2, hc2⟩ := (HS.out.1.on HI.out.2.2.2.2.2) (by omega)
      subst hA2
      have c2 : wr.cell? ⟨b2, off2 + k, none⟩ = some (.slice s.A x.length s.c) := by
        have := hc2 k s hsk 0 _ rfl
        rw [Nat.mul_one, Nat.add_zero, hsn] at this
        exact this
      have hxl := HL.out.2.2 x (List.mem_of_getElem? hx)
      have KA : ∀ (n : Nat), n = (bagR common (xs.take k) ys).length → ∀ (z : World), Below wr.heap.size wr z → Calls Try.prog 47 #[.slice Av n cv, .slice s.A x.length s.c] z fun e w' => e = .returned (.int .i64 (cnt (bagR common (xs.take k) ys) x : Nat)) ∧ Below z.heap.size z w' := by
        intro n hnn z hz
        subst hnn
        exact specCountRow_ok Av s.A cv s.c (bagR common (xs.take k) ys) x z (by have := HSL.out; unfold maxLen; omega) (by unfold maxLen; omega) (sls_of' (HSV.out.1.on hz).sl (HI.out.2.1.on hz)) (hsT.on hz).sl
      have KA := Lib.hid KA
      have KB : ∀ (n : Nat), n = (xs.take k).length → ∀ (z : World), Below wr.heap.size wr z → Calls Try.prog 47 #[.slice (some ⟨b2, off2, none⟩) n c, .slice s.A x.length s.c] z fun e w' => e = .returned (.int .i64 (cnt (xs.take k) x : Nat)) ∧ Below z.heap.size z w' := by
        intro n hnn z hz
        subst hnn
        exact specCountRow_ok _ s.A c s.c (xs.take k) x z (by rw [List.length_take]; unfold maxLen; omega) (by unfold maxLen; omega) (sls_of' ((HS.out.1.on (HI.out.2.2.2.2.2.trans (hz.mono HI.out.2.2.2.2.2.size))).cut k) ((HS.out.2.1.on (HI.out.2.2.2.2.2.trans (hz.mono HI.out.2.2.2.2.2.size))).take k)) (hsT.on hz).sl
      have KB := Lib.hid KB
      have KC := Lib.hid (fun (z : World) (hz : Below wr.heap.size wr z) => specCountRow_ok A' s.A c' s.c ys x z (by unfold maxLen; omega) (by unfold maxLen; omega) (HS.out.2.2.on (HI.out.2.2.2.2.2.trans (hz.mono HI.out.2.2.2.2.2.size))) (hsT.on hz).sl)
      have hstep := bagR_take common (ys := ys) hx
      have hpl : k = (xs.take k).length := by rw [List.length_take]; omega
      have HPL := Lib.hid hpl
      obtain ⟨m1, hm1⟩ : ∃ m, cnt (bagR common (xs.take k) ys) x = m := ⟨_, rfl⟩
      obtain ⟨m2, hm2⟩ : ∃ m, cnt (xs.take k) x = m := ⟨_, rfl⟩
      obtain ⟨m3, hm3⟩ : ∃ m, cnt ys x = m := ⟨_, rfl⟩
      rw [hm1] at KA
      rw [hm2] at KB
      rw [hm3] at KC
      rw [hm1, hm2, hm3] at hstep
      obtain ⟨t, ht⟩ : ∃ t, bagB common m1 m2 m3 = t := ⟨_, rfl⟩
      rw [ht] at hstep
      have HX := Lib.hid (And.intro hx (And.intro hsn (And.intro hsc (And.intro hscm (And.intro hsT hstep)))))
      have HM := Lib.hid ht
      have H1 := Lib.hid (KA.out sv.length HSL.out.1 wr (Below.refl _ _))
      clear hx hsk hsn hsc hscm hsT hc2 hm1 hm2 hm3 ht hstep hpl hkl
      go_wp2_with fail
      refine H1.out.mono ?_
      rintro e w1 ⟨rfl, hb1⟩
      have HB1 := Lib.hid hb1
      have d0 := fun z : Aft w1.heap.size w1 => z.cell (b := w.heap.size) (by have := hb1.size; omega) ((hb1.cell (p := ⟨_, _, none⟩) l0).trans a0)
      have d1 := fun z : Aft w1.heap.size w1 => z.cell (b := w.heap.size + 1) (by have := hb1.size; omega) ((hb1.cell (p := ⟨_, _, none⟩) l1).trans b0)
      have d2 := fun z : Aft w1.heap.size w1 => z.cell (b := b2) (by have := hb1.size; omega) ((hb1.cell (p := ⟨_, _, none⟩) hB2).trans c2)
      have KB1 := Lib.hid (fun z : Aft w1.heap.size w1 => KB.out k HPL.out z.v (bch HB1.out z.h))
      have hkc : k ≤ c := by omega
      have hkc2 : (k : Int) ≤ c := by omega
      have hkc3 : k ≤ 2305843009213693952 := by omega
      clear hb1
      go_wp2
      refine wp_region_aft w1.heap.size (by kernel_rfl) (by kernel_rfl) ?_
      repeat (go_big_quiet_step ((go_at_call 47; exact Calls.aft (Nat.le_refl _) (KB1.out _))))
      refine wpQuiet_nil ?_
      intro w2 hw'
      obtain ⟨⟨_, hb2⟩, rfl⟩ := hw'
      have HB2 := Lib.hid (bch HB1.out hb2)
      clear hb2 d0 d1 d2
      have hz2 := HB2.out.size
      have d0 := fun z : Aft w2.heap.size w2 => z.cell (b := w.heap.size) (by omega) ((HB2.out.cell (p := ⟨_, _, none⟩) l0).trans a0)
      have d1 := fun z : Aft w2.heap.size w2 => z.cell (b := w.heap.size + 1) (by omega) ((HB2.out.cell (p := ⟨_, _, none⟩) l1).trans b0)
      have d2 := fun z : Aft w2.heap.size w2 => z.cell (b := b2) (by omega) ((HB2.out.cell (p := ⟨_, _, none⟩) hB2).trans c2)
      have KC1 := Lib.hid (fun z : Aft w2.heap.size w2 => KC.out z.v (bch HB2.out z.h))
      go_wp2
      refine wp_region_aft w2.heap.size (by kernel_rfl) (by kernel_rfl) ?_
      repeat (go_big_quiet_step ((go_at_call 47; exact Calls.aft (Nat.le_refl _) (KC1.out _))))
      refine wpQuiet_nil ?_
      intro w3 hw'
      obtain ⟨⟨_, hb3⟩, rfl⟩ := hw'
      have HB3 := Lib.hid (bch HB2.out hb3)
      clear hb3 d0 d1 d2
      have hz3 := HB3.out.size
      have e0 : w3.cell? ⟨w.heap.size, 1, none⟩ = some (.slice (some ⟨b2, off2, none⟩) xs.length c) := (HB3.out.cell (p := ⟨_, _, none⟩) l0).trans a0
      have e2 : w3.cell? ⟨b2, off2 + k, none⟩ = some (.slice s.A x.length s.c) := (HB3.out.cell (p := ⟨_, _, none⟩) hB2).trans c2
      have BA := Lib.hid (balloc HB3.out (.cells #[.slice s.A x.length s.c] 40))
      have HOx := Lib.hid (HI.out.1.on BA.out)
      have HSx := Lib.hid (Row.sl' (w := w3.alloc (.cells #[.slice s.A x.length s.c] 40)) (t := 40) (xs := [(⟨s.A, x.length, s.c⟩ : SV)]) svC_length ((Row.new w3 _ _).of rfl))
      have hsz4 : w.heap.size + 3 ≤ (w3.alloc (.cells #[.slice s.A x.length s.c] 40)).heap.size := by have := HI.out.2.2.2.2.1.lt; simp; omega
      cases common
      all_goals
        cases t
        all_goals
          have htt := HM.out
          simp [bagB] at htt
          have htt' : ((m1 : Int) < m3 ↔ m1 < m3) ∧ ((m3 : Int) ≤ m2 ↔ m3 ≤ m2) := by omega
          first
            | have hti : ¬ ((m3 : Int) ≤ m2) := by omega
            | have hti : ((m3 : Int) ≤ m2) := by omega
            | have hti : ¬ ((m1 : Int) < m3) := by omega
            | have hti : ((m1 : Int) < m3) := by omega
          have HTT := Lib.hid htt
          clear htt htt'
          go_wp2_with (at_builtin; refine wpList_app rfl (.tmp 60) (.tmp 66) 23 rfl (w.heap.size + 3) 40 _ 1 24 svC Try.underlying23 zeroRow rfl (by decide) (by decide) svC_length svC_one _ sv rfl HOx.out (some ⟨w3.heap.size, 0, none⟩) 1 1 [(⟨s.A, x.length, s.c⟩ : SV)] rfl rfl HSx.out (by simp <;> omega) hsz4 ?_; intro v4 w4 how4 hgr4; have HW4 := Lib.hid (And.intro how4 hgr4); clear how4 hgr4)
          go_roundg (xs.length - (k + 1))
          case measure => omega
          case rel =>
            obtain ⟨h1, h2, h3, h4, h5, hstep⟩ := HX.out
            obtain ⟨i1, i2, i3, i4, i5, i6⟩ := HI.out
            have hstep := hstep
            simp only [if_true, Bool.false_eq_true, if_false] at hstep
            first
              | exact ⟨k + 1, sv, by omega, rfl, by go_num, i1.on HB3.out, by rw [hstep]; exact i2.on HB3.out, i3.on HB3.out, i4.on HB3.out, i5.on HB3.out, bch i6 HB3.out⟩
              | (obtain ⟨how4, hgr4⟩ := HW4.out
                 have hrow : ∀ q, Value.ownBlock _ = some q → w.heap.size + 3 ≤ q ∧ TyAt _ q 40 := fun q hq => ⟨(HOx.out.ty q hq).1, (HOx.out.ty q hq).2.2⟩
                 have hkp : ∀ {q : Nat} {cs : List Value}, Row wr q 25 cs → Row w4 q 25 cs := fun h => (h.on BA.out).keep (hgr4.block _ (h.on BA.out).lt fun e => (TyAt.ne (h.on BA.out).ty (hrow _ e.symm).2 (by decide)) rfl)
                 refine ⟨k + 1, sv ++ [⟨s.A, x.length, s.c⟩], by omega, rfl, by go_num, how4, ?_, hkp i3, hkp i4, hkp i5, ?_⟩
                 · rw [hstep]
                   exact ((i2.on BA.out).grown hgr4 fun q hq => .inr ⟨_, by decide, (hrow q hq).2⟩).snoc rfl h3 h4 ((h5.on BA.out).grown hgr4 fun q hq => .inr ⟨_, by decide, (hrow q hq).2⟩)
                 · exact (bch i6 BA.out).grown hgr4 (bch i6 BA.out).size fun q hq => by have := (hrow q hq).1; omega)
    · have hke : k = xs.length := by omega
      have hb := HI.out.2.2.2.2.2
      have e0 : wr.cell? ⟨w.heap.size, 0, none⟩ = some (.int .i64 W) := HI.out.2.2.1.cell 0
      have HT1 : ∀ (n : Nat), n = (bagR common xs ys).length → Calls Try.prog 72 #[.int .i64 W, .slice Av n cv] wr (TofRes 0 W (bagR common xs ys) wr) := by
        intro n hnn
        subst hnn
        have hrt := HI.out.2.1
        rw [hke, List.take_of_length_le (Nat.le_refl _)] at hrt
        exact tableOf_ok 0 W Av cv sv (bagR common xs ys) wr (Nat.zero_le _) (by have := bagR_length common ys xs; omega) (fun r hr => HL.out.2.2 r (bagR_mem common ys xs r hr)) HSV.out.1.sl hrt
      have HT1 := Lib.hid HT1
      have hsl2 : sv.length = (bagR common xs ys).length := by
        have := HSL.out.1
        rw [hke, List.take_of_length_le (Nat.le_refl _)] at this
        exact this
      have HSL2 := Lib.hid hsl2
      have HKE := Lib.hid hke
      clear hb hsl2 hke
      go_wp2_with fail
      refine (HT1.out _ HSL2.out).mono ?_
      rintro e w1 ⟨v1, sv1, out, rfl, hout, how1, hrt1, hb1⟩
      obtain ⟨A1, c1, rfl, _, _, _⟩ := how1.shape svC_length
      have r2 := HI.out.2.2.2.2.1.on hb1
      have f0 := r2.frozen 0
      have f1 := r2.frozen 1
      have l2 := r2.lt
      have g0 : w1.cell? ⟨w.heap.size + 2, 0, none⟩ = some (.int .i64 0) := r2.cell 0
      have g1 : w1.cell? ⟨w.heap.size + 2, 1, none⟩ = some (.slice none 0 0) := r2.cell 1
      have HF := Lib.hid (And.intro hout (And.intro how1 (And.intro hrt1 (And.intro hb1 r2))))
      generalize sv1.length = nn at *
      clear hout how1 hrt1 hb1 r2
      go_wp2
      refine bodyPost_ret (resBag (b := w.heap.size + 2) _ rfl _ (v0 := .int .i64 W) (v1 := .slice A1 nn c1) (by simp [go_sem, g0, g1, l2]) (by simp [go_sem, g0, g1, l2])) rfl ?_
      obtain ⟨hout, how1, hrt1, hb1, r2⟩ := HF.out
      have hS0 := (Only.set (S := fun i => i = w.heap.size + 2) (p := ⟨w.heap.size + 2, 0, none⟩) (Only.refl w1) (.inl rfl) (.int .i64 W)).set (p := ⟨w.heap.size + 2, 1, none⟩) (.inl rfl) (.slice A1 nn c1)
      refine ⟨_, sv1, out, rfl, hout, (how1.only hS0 fun q hq => .inr ⟨25, by decide, by subst hq; exact r2.ty⟩).low HI.out.2.2.2.2.2.size, hrt1.only hS0 fun q hq => .inr ⟨25, by decide, by subst hq; exact r2.ty⟩, ((bch HI.out.2.2.2.2.2 hb1).setCell (p := ⟨w.heap.size + 2, 0, none⟩) (by simp) _).setCell (p := ⟨w.heap.size + 2, 1, none⟩) (by simp) _⟩
theorem resSpecExceptAll {b : Nat} {v0 v1 : Value} {r : Bool} (tmps : Array Value) (hp : tmps.getD 4 undef = .pointer (some ⟨b, 0, none⟩)) (hr : tmps.getD 5 undef = .bool r) (w : World) (c0 : w.cell? ⟨b, 0, none⟩ = some v0) (c1 : w.cell? ⟨b, 1, none⟩ = some v1) :
    (results Try.f20 tmps).run Try.prog w = .ok (.tuple #[.agg #[v0, v1], .bool r]) w := by
  simp only [Array.getD_eq_getD_getElem?] at hp hr
  simp [results, Try.results20, go_sem, hp, hr, c0, c1]

set_option maxRecDepth 20000 in
set_option maxHeartbeats 2000000 in
theorem specExceptAll_ok (W W' : Int) (A A' : Option Addr) (c c' : Nat) (svs : List SV) (xs ys : List Row1) (w : World) (hcap : xs.length ≤ c) (hcap2 : c ≤ maxLen) (hn : xs.length ≤ 1048576) (hn' : ys.length ≤ 1048576) (hlr : ∀ r ∈ xs, r.length ≤ 1048576) (hs : Sl 1 svC w w.heap.size A svs) (hT : RowsT 46 2 valC 0 w svs xs) (h' : Rws w w.heap.size A' ys) (q : Bool) (hq : q = true ↔ (TabOk W xs ∧ TabOk W' ys ∧ W = W')) :
    Calls Try.prog 20 #[.agg #[.int .i64 W, .slice A xs.length c], .agg #[.int .i64 W', .slice A' ys.length c']] w (SpecTab q W (bagR false xs ys) w) := by
  have Hq := Lib.hid hq
  obtain ⟨t1, ht1⟩ : ∃ q : Bool, q = true ↔ TabOk W xs := ⟨_, @decide_eq_true_iff _ (Classical.propDecidable _)⟩
  obtain ⟨t2, ht2⟩ : ∃ q : Bool, q = true ↔ TabOk W' ys := ⟨_, @decide_eq_true_iff _ (Classical.propDecidable _)⟩
  have H1 := Lib.hid (fun (z : World) (hz : Below w.heap.size w z) => specValidTable_ok W A c xs z (by unfold maxLen; omega) ((sls_of' hs hT).on hz) t1 ht1)
  have H2 := Lib.hid (fun (z : World) (hz : Below w.heap.size w z) => specValidTable_ok W' A' c' ys z (by unfold maxLen; omega) (h'.on hz) t2 ht2)
  have H3 := Lib.hid (fun (z : World) (hz : Below w.heap.size w z) => specBagRows_ok W W' A A' c c' svs xs ys false z hcap hcap2 hn hn' hlr (hs.on hz) (hT.on hz) (h'.on hz))
  have HQ1 := Lib.hid ht1
  have HQ2 := Lib.hid ht2
  clear hq ht1 ht2 hs hT h' hlr
  obtain ⟨W0, hW0⟩ : ∃ z, ((w.alloc (.cells #[.int .i64 W, .slice A xs.length c] 25)).alloc (.cells #[.int .i64 W', .slice A' ys.length c'] 25)).alloc (.cells #[.int .i64 0, .slice none 0 0] 25) = z := ⟨_, rfl⟩
  have B0 : Below w.heap.size w W0 := by rw [← hW0]; exact balloc (balloc (balloc (Below.refl _ _) _) _) _
  have r0 : Row W0 w.heap.size 25 [.int .i64 W, .slice A xs.length c] := by rw [← hW0]; exact ((Row.new _ _ _).alloc _).alloc _
  have r1 : Row W0 (w.heap.size + 1) 25 [.int .i64 W', .slice A' ys.length c'] := by rw [← hW0]; exact (Row.second _ _ _ _).alloc _
  have r2 : Row W0 (w.heap.size + 2) 25 [.int .i64 0, .slice none 0 0] := by rw [← hW0]; exact Row.third _ _ _ _ _
  have HW := Lib.hid hW0
  have HB0 := Lib.hid B0
  have HR0 := Lib.hid (And.intro r0 (And.intro r1 r2))
  have a0 : W0.cell? ⟨w.heap.size, 0, none⟩ = some (.int .i64 W) := r0.cell 0
  have a1 : W0.cell? ⟨w.heap.size, 1, none⟩ = some (.slice A xs.length c) := r0.cell 1
  have NO := Lib.hid (fun (w2 : World) (H2 : Below w.heap.size w w2) => show SpecTab false W (bagR false xs ys) w (.returned (.tuple #[.agg #[.int .i64 0, .slice none 0 0], .bool false])) ((w2.setCell ⟨w.heap.size + 2, 0, none⟩ (.int .i64 0)).setCell ⟨w.heap.size + 2, 1, none⟩ (.slice none 0 0)) from
    SpecTab.no ((H2.setCell (p := ⟨w.heap.size + 2, 0, none⟩) (by simp) _).setCell (p := ⟨w.heap.size + 2, 1, none⟩) (by simp) _))
  clear B0 r0 r1 r2 hW0
  cases t1
  · have hf : q = false := bfalse Hq.out fun ht => by have := HQ1.out.2 ht.1; cases this
    subst hf
    go_enter Try.func20, Try.ntmps20
    go_upto_region 1 with fail
    rw [HW.out]
    go_wp2_with fail
    refine (H1.out _ HB0.out).mono ?_
    rintro e w1 ⟨rfl, hb1⟩
    have r2 := HR0.out.2.2.on hb1
    have e0 : w1.cell? ⟨w.heap.size + 2, 0, none⟩ = some (.int .i64 0) := r2.cell 0
    have e1 : w1.cell? ⟨w.heap.size + 2, 1, none⟩ = some (.slice none 0 0) := r2.cell 1
    have f0 := r2.frozen 0
    have f1 := r2.frozen 1
    have l2 := r2.lt
    have H1' := Lib.hid (bch HB0.out hb1)
    clear hb1 r2
    go_wp2
    refine bodyPost_ret (resSpecExceptAll (b := w.heap.size + 2) (r := false) _ rfl rfl _ (v0 := .int .i64 0) (v1 := .slice none 0 0) (by simp [go_sem, e0, e1, l2]) (by simp [go_sem, e0, e1, l2])) rfl ?_
    exact NO.out _ H1'.out
  · by_cases hg : t2 = true ∧ W = W'
    · obtain ⟨rfl, hWW⟩ := hg
      have hf : q = true := Hq.out.2 ⟨HQ1.out.1 rfl, HQ2.out.1 rfl, hWW⟩
      subst hf
      have hww : (W != W') = false := by simp [hWW]
      clear hWW
      go_enter Try.func20, Try.ntmps20
      go_upto_region 1 with fail
      rw [HW.out]
      go_wp2_with fail
      refine (H1.out _ HB0.out).mono ?_
      rintro e w1 ⟨rfl, hb1⟩
      have r1 := HR0.out.2.1.on hb1
      have b0 : w1.cell? ⟨w.heap.size + 1, 0, none⟩ = some (.int .i64 W') := r1.cell 0
      have b1 : w1.cell? ⟨w.heap.size + 1, 1, none⟩ = some (.slice A' ys.length c') := r1.cell 1
      have H1' := Lib.hid (bch HB0.out hb1)
      have R1 := Lib.hid (And.intro (HR0.out.1.on hb1) (And.intro r1 (HR0.out.2.2.on hb1)))
      clear hb1 r1 a0 a1
      go_wp2_with fail
      refine (H2.out _ H1'.out).mono ?_
      rintro e w2 ⟨rfl, hb2⟩
      have r0 := R1.out.1.on hb2
      have r1 := R1.out.2.1.on hb2
      have r2 := R1.out.2.2.on hb2
      have a0 : w2.cell? ⟨w.heap.size, 0, none⟩ = some (.int .i64 W) := r0.cell 0
      have a1 : w2.cell? ⟨w.heap.size, 1, none⟩ = some (.slice A xs.length c) := r0.cell 1
      have b0 : w2.cell? ⟨w.heap.size + 1, 0, none⟩ = some (.int .i64 W') := r1.cell 0
      have b1 : w2.cell? ⟨w.heap.size + 1, 1, none⟩ = some (.slice A' ys.length c') := r1.cell 1
      have H2' := Lib.hid (bch H1'.out hb2)
      have R2 := Lib.hid r2
      clear hb2 r0 r1 r2
      go_wp2_with fail
      refine (H3.out _ H2'.out).mono ?_
      rintro e w3 ⟨v3, sv3, out, rfl, hout, how3, hrt3, hb3⟩
      obtain ⟨A3, c3, rfl, _, _, _⟩ := how3.shape svC_length
      have r2 := R2.out.on hb3
      have e0 : w3.cell? ⟨w.heap.size + 2, 0, none⟩ = some (.int .i64 0) := r2.cell 0
      have e1 : w3.cell? ⟨w.heap.size + 2, 1, none⟩ = some (.slice none 0 0) := r2.cell 1
      have f0 := r2.frozen 0
      have f1 := r2.frozen 1
      have l2 := r2.lt
      generalize sv3.length = nn at *
      have HF := Lib.hid (And.intro hout (And.intro how3 (And.intro hrt3 (And.intro hb3 r2))))
      clear hout how3 hrt3 hb3 r2
      go_wp2
      refine bodyPost_ret (resSpecExceptAll (b := w.heap.size + 2) (r := true) _ rfl rfl _ (v0 := .int .i64 W) (v1 := .slice A3 nn c3) (by simp [go_sem, e0, e1, l2]) (by simp [go_sem, e0, e1, l2])) rfl ?_
      obtain ⟨hout, how1, hrt1, hb1, r2⟩ := HF.out
      have hS0 := (Only.set (S := fun i => i = w.heap.size + 2) (p := ⟨w.heap.size + 2, 0, none⟩) (Only.refl w3) (.inl rfl) (.int .i64 W)).set (p := ⟨w.heap.size + 2, 1, none⟩) (.inl rfl) (.slice A3 nn c3)
      exact ⟨W, _, sv3, out, rfl, .inr ⟨rfl, rfl, hout⟩, (how1.only hS0 fun q hq => .inr ⟨25, by decide, by subst hq; exact r2.ty⟩).low H2'.out.size, hrt1.only hS0 fun q hq => .inr ⟨25, by decide, by subst hq; exact r2.ty⟩, ((bch H2'.out hb1).setCell (p := ⟨w.heap.size + 2, 0, none⟩) (by simp) _).setCell (p := ⟨w.heap.size + 2, 1, none⟩) (by simp) _⟩
    · have hf : q = false := bfalse Hq.out fun ht => hg ⟨HQ2.out.2 ht.2.1, ht.2.2⟩
      subst hf
      obtain ⟨u, hu⟩ : ∃ u, (W != W') = u := ⟨_, rfl⟩
      have hgu : t2 = true → u = true := fun h => by
        subst h
        have : ¬ W = W' := fun h => hg ⟨rfl, h⟩
        rw [← hu]; simp [this]
      have HU := Lib.hid hgu
      clear hg hgu
      go_enter Try.func20, Try.ntmps20
      go_upto_region 1 with fail
      rw [HW.out]
      go_wp2_with fail
      refine (H1.out _ HB0.out).mono ?_
      rintro e w1 ⟨rfl, hb1⟩
      have r1 := HR0.out.2.1.on hb1
      have b0 : w1.cell? ⟨w.heap.size + 1, 0, none⟩ = some (.int .i64 W') := r1.cell 0
      have b1 : w1.cell? ⟨w.heap.size + 1, 1, none⟩ = some (.slice A' ys.length c') := r1.cell 1
      have H1' := Lib.hid (bch HB0.out hb1)
      have R1 := Lib.hid (And.intro (HR0.out.1.on hb1) (And.intro r1 (HR0.out.2.2.on hb1)))
      clear hb1 r1 a0 a1
      go_wp2_with fail
      refine (H2.out _ H1'.out).mono ?_
      rintro e w2 ⟨rfl, hb2⟩
      have r0 := R1.out.1.on hb2
      have r1 := R1.out.2.1.on hb2
      have r2 := R1.out.2.2.on hb2
      have a0 : w2.cell? ⟨w.heap.size, 0, none⟩ = some (.int .i64 W) := r0.cell 0
      have b0 : w2.cell? ⟨w.heap.size + 1, 0, none⟩ = some (.int .i64 W') := r1.cell 0
      have e0 : w2.cell? ⟨w.heap.size + 2, 0, none⟩ = some (.int .i64 0) := r2.cell 0
      have e1 : w2.cell? ⟨w.heap.size + 2, 1, none⟩ = some (.slice none 0 0) := r2.cell 1
      have f0 := r2.frozen 0
      have f1 := r2.frozen 1
      have l2 := r2.lt
      have H2' := Lib.hid (bch H1'.out hb2)
      clear hb2 r0 r1 r2 b1
      cases t2
      all_goals
        first
          | have huu := HU.out rfl
          | skip
        try subst huu
        go_wp2
        refine bodyPost_ret (resSpecExceptAll (b := w.heap.size + 2) (r := false) _ rfl rfl _ (v0 := .int .i64 0) (v1 := .slice none 0 0) (by simp [go_sem, e0, e1, l2]) (by simp [go_sem, e0, e1, l2])) rfl ?_
        exact NO.out _ H2'.out
theorem resSpecIntersectAll {b : Nat} {v0 v1 : Value} {r : Bool} (tmps : Array Value) (hp : tmps.getD 4 undef = .pointer (some ⟨b, 0, none⟩)) (hr : tmps.getD 5 undef = .bool r) (w : World) (c0 : w.cell? ⟨b, 0, none⟩ = some v0) (c1 : w.cell? ⟨b, 1, none⟩ = some v1) :
    (results Try.f25 tmps).run Try.prog w = .ok (.tuple #[.agg #[v0, v1], .bool r]) w := by
  simp only [Array.getD_eq_getD_getElem?] at hp hr
  simp [results, Try.results25, go_sem, hp, hr, c0, c1]

set_option maxRecDepth 20000 in
set_option maxHeartbeats 2000000 in
theorem specIntersectAll_ok (W W' : Int) (A A' : Option Addr) (c c' : Nat) (svs : List SV) (xs ys : List Row1) (w : World) (hcap : xs.length ≤ c) (hcap2 : c ≤ maxLen) (hn : xs.length ≤ 1048576) (hn' : ys.length ≤ 1048576) (hlr : ∀ r ∈ xs, r.length ≤ 1048576) (hs : Sl 1 svC w w.heap.size A svs) (hT : RowsT 46 2 valC 0 w svs xs) (h' : Rws w w.heap.size A' ys) (q : Bool) (hq : q = true ↔ (TabOk W xs ∧ TabOk W' ys ∧ W = W')) :
    Calls Try.prog 25 #[.agg #[.int .i64 W, .slice A xs.length c], .agg #[.int .i64 W', .slice A' ys.length c']] w (SpecTab q W (bagR true xs ys) w) := by
  have Hq := Lib.hid hq
  obtain ⟨t1, ht1⟩ : ∃ q : Bool, q = true ↔ TabOk W xs := ⟨_, @decide_eq_true_iff _ (Classical.propDecidable _)⟩
  obtain ⟨t2, ht2⟩ : ∃ q : Bool, q = true ↔ TabOk W' ys := ⟨_, @decide_eq_true_iff _ (Classical.propDecidable _)⟩
  have H1 := Lib.hid (fun (z : World) (hz : Below w.heap.size w z) => specValidTable_ok W A c xs z (by unfold maxLen; omega) ((sls_of' hs hT).on hz) t1 ht1)
  have H2 := Lib.hid (fun (z : World) (hz : Below w.heap.size w z) => specValidTable_ok W' A' c' ys z (by unfold maxLen; omega) (h'.on hz) t2 ht2)
  have H3 := Lib.hid (fun (z : World) (hz : Below w.heap.size w z) => specBagRows_ok W W' A A' c c' svs xs ys true z hcap hcap2 hn hn' hlr (hs.on hz) (hT.on hz) (h'.on hz))
  have HQ1 := Lib.hid ht1
  have HQ2 := Lib.hid ht2
  clear hq ht1 ht2 hs hT h' hlr
  obtain ⟨W0, hW0⟩ : ∃ z, ((w.alloc (.cells #[.int .i64 W, .slice A xs.length c] 25)).alloc (.cells #[.int .i64 W', .slice A' ys.length c'] 25)).alloc (.cells #[.int .i64 0, .slice none 0 0] 25) = z := ⟨_, rfl⟩
  have B0 : Below w.heap.size w W0 := by rw [← hW0]; exact balloc (balloc (balloc (Below.refl _ _) _) _) _
  have r0 : Row W0 w.heap.size 25 [.int .i64 W, .slice A xs.length c] := by rw [← hW0]; exact ((Row.new _ _ _).alloc _).alloc _
  have r1 : Row W0 (w.heap.size + 1) 25 [.int .i64 W', .slice A' ys.length c'] := by rw [← hW0]; exact (Row.second _ _ _ _).alloc _
  have r2 : Row W0 (w.heap.size + 2) 25 [.int .i64 0, .slice none 0 0] := by rw [← hW0]; exact Row.third _ _ _ _ _
  have HW := Lib.hid hW0
  have HB0 := Lib.hid B0
  have HR0 := Lib.hid (And.intro r0 (And.intro r1 r2))
  have a0 : W0.cell? ⟨w.heap.size, 0, none⟩ = some (.int .i64 W) := r0.cell 0
  have a1 : W0.cell? ⟨w.heap.size, 1, none⟩ = some (.slice A xs.length c) := r0.cell 1
  have NO := Lib.hid (fun (w2 : World) (H2 : Below w.heap.size w w2) => show SpecTab false W (bagR true xs ys) w (.returned (.tuple #[.agg #[.int .i64 0, .slice none 0 0], .bool false])) ((w2.setCell ⟨w.heap.size + 2, 0, none⟩ (.int .i64 0)).setCell ⟨w.heap.size + 2, 1, none⟩ (.slice none 0 0)) from
    SpecTab.no ((H2.setCell (p := ⟨w.heap.size + 2, 0, none⟩) (by simp) _).setCell (p := ⟨w.heap.size + 2, 1, none⟩) (by simp) _))
  clear B0 r0 r1 r2 hW0
  cases t1
  · have hf : q = false := bfalse Hq.out fun ht => by have := HQ1.out.2 ht.1; cases this
    subst hf
    go_enter Try.func25, Try.ntmps25
    go_upto_region 1 with fail
    rw [HW.out]
    go_wp2_with fail
    refine (H1.out _ HB0.out).mono ?_
    rintro e w1 ⟨rfl, hb1⟩
    have r2 := HR0.out.2.2.on hb1
    have e0 : w1.cell? ⟨w.heap.size + 2, 0, none⟩ = some (.int .i64 0) := r2.cell 0
    have e1 : w1.cell? ⟨w.heap.size + 2, 1, none⟩ = some (.slice none 0 0) := r2.cell 1
    have f0 := r2.frozen 0
    have f1 := r2.frozen 1
    have l2 := r2.lt
    have H1' := Lib.hid (bch HB0.out hb1)
    clear hb1 r2
    go_wp2
    refine bodyPost_ret (resSpecIntersectAll (b := w.heap.size + 2) (r := false) _ rfl rfl _ (v0 := .int .i64 0) (v1 := .slice none 0 0) (by simp [go_sem, e0, e1, l2]) (by simp [go_sem, e0, e1, l2])) rfl ?_
    exact NO.out _ H1'.out
  · by_cases hg : t2 = true ∧ W = W'
    · obtain ⟨rfl, hWW⟩ := hg
      have hf : q = true := Hq.out.2 ⟨HQ1.out.1 rfl, HQ2.out.1 rfl, hWW⟩
      subst hf
      have hww : (W != W') = false := by simp [hWW]
      clear hWW
      go_enter Try.func25, Try.ntmps25
      go_upto_region 1 with fail
      rw [HW.out]
      go_wp2_with fail
      refine (H1.out _ HB0.out).mono ?_
      rintro e w1 ⟨rfl, hb1⟩
      have r1 := HR0.out.2.1.on hb1
      have b0 : w1.cell? ⟨w.heap.size + 1, 0, none⟩ = some (.int .i64 W') := r1.cell 0
      have b1 : w1.cell? ⟨w.heap.size + 1, 1, none⟩ = some (.slice A' ys.length c') := r1.cell 1
      have H1' := Lib.hid (bch HB0.out hb1)
      have R1 := Lib.hid (And.intro (HR0.out.1.on hb1) (And.intro r1 (HR0.out.2.2.on hb1)))
      clear hb1 r1 a0 a1
      go_wp2_with fail
      refine (H2.out _ H1'.out).mono ?_
      rintro e w2 ⟨rfl, hb2⟩
      have r0 := R1.out.1.on hb2
      have r1 := R1.out.2.1.on hb2
      have r2 := R1.out.2.2.on hb2
      have a0 : w2.cell? ⟨w.heap.size, 0, none⟩ = some (.int .i64 W) := r0.cell 0
      have a1 : w2.cell? ⟨w.heap.size, 1, none⟩ = some (.slice A xs.length c) := r0.cell 1
      have b0 : w2.cell? ⟨w.heap.size + 1, 0, none⟩ = some (.int .i64 W') := r1.cell 0
      have b1 : w2.cell? ⟨w.heap.size + 1, 1, none⟩ = some (.slice A' ys.length c') := r1.cell 1
      have H2' := Lib.hid (bch H1'.out hb2)
      have R2 := Lib.hid r2
      clear hb2 r0 r1 r2
      go_wp2_with fail
      refine (H3.out _ H2'.out).mono ?_
      rintro e w3 ⟨v3, sv3, out, rfl, hout, how3, hrt3, hb3⟩
      obtain ⟨A3, c3, rfl, _, _, _⟩ := how3.shape svC_length
      have r2 := R2.out.on hb3
      have e0 : w3.cell? ⟨w.heap.size + 2, 0, none⟩ = some (.int .i64 0) := r2.cell 0
      have e1 : w3.cell? ⟨w.heap.size + 2, 1, none⟩ = some (.slice none 0 0) := r2.cell 1
      have f0 := r2.frozen 0
      have f1 := r2.frozen 1
      have l2 := r2.lt
      generalize sv3.length = nn at *
      have HF := Lib.hid (And.intro hout (And.intro how3 (And.intro hrt3 (And.intro hb3 r2))))
      clear hout how3 hrt3 hb3 r2
      go_wp2
      refine bodyPost_ret (resSpecIntersectAll (b := w.heap.size + 2) (r := true) _ rfl rfl _ (v0 := .int .i64 W) (v1 := .slice A3 nn c3) (by simp [go_sem, e0, e1, l2]) (by simp [go_sem, e0, e1, l2])) rfl ?_
      obtain ⟨hout, how1, hrt1, hb1, r2⟩ := HF.out
      have hS0 := (Only.set (S := fun i => i = w.heap.size + 2) (p := ⟨w.heap.size + 2, 0, none⟩) (Only.refl w3) (.inl rfl) (.int .i64 W)).set (p := ⟨w.heap.size + 2, 1, none⟩) (.inl rfl) (.slice A3 nn c3)
      exact ⟨W, _, sv3, out, rfl, .inr ⟨rfl, rfl, hout⟩, (how1.only hS0 fun q hq => .inr ⟨25, by decide, by subst hq; exact r2.ty⟩).low H2'.out.size, hrt1.only hS0 fun q hq => .inr ⟨25, by decide, by subst hq; exact r2.ty⟩, ((bch H2'.out hb1).setCell (p := ⟨w.heap.size + 2, 0, none⟩) (by simp) _).setCell (p := ⟨w.heap.size + 2, 1, none⟩) (by simp) _⟩
    · have hf : q = false := bfalse Hq.out fun ht => hg ⟨HQ2.out.2 ht.2.1, ht.2.2⟩
      subst hf
      obtain ⟨u, hu⟩ : ∃ u, (W != W') = u := ⟨_, rfl⟩
      have hgu : t2 = true → u = true := fun h => by
        subst h
        have : ¬ W = W' := fun h => hg ⟨rfl, h⟩
        rw [← hu]; simp [this]
      have HU := Lib.hid hgu
      clear hg hgu
      go_enter Try.func25, Try.ntmps25
      go_upto_region 1 with fail
      rw [HW.out]
      go_wp2_with fail
      refine (H1.out _ HB0.out).mono ?_
      rintro e w1 ⟨rfl, hb1⟩
      have r1 := HR0.out.2.1.on hb1
      have b0 : w1.cell? ⟨w.heap.size + 1, 0, none⟩ = some (.int .i64 W') := r1.cell 0
      have b1 : w1.cell? ⟨w.heap.size + 1, 1, none⟩ = some (.slice A' ys.length c') := r1.cell 1
      have H1' := Lib.hid (bch HB0.out hb1)
      have R1 := Lib.hid (And.intro (HR0.out.1.on hb1) (And.intro r1 (HR0.out.2.2.on hb1)))
      clear hb1 r1 a0 a1
      go_wp2_with fail
      refine (H2.out _ H1'.out).mono ?_
      rintro e w2 ⟨rfl, hb2⟩
      have r0 := R1.out.1.on hb2
      have r1 := R1.out.2.1.on hb2
      have r2 := R1.out.2.2.on hb2
      have a0 : w2.cell? ⟨w.heap.size, 0, none⟩ = some (.int .i64 W) := r0.cell 0
      have b0 : w2.cell? ⟨w.heap.size + 1, 0, none⟩ = some (.int .i64 W') := r1.cell 0
      have e0 : w2.cell? ⟨w.heap.size + 2, 0, none⟩ = some (.int .i64 0) := r2.cell 0
      have e1 : w2.cell? ⟨w.heap.size + 2, 1, none⟩ = some (.slice none 0 0) := r2.cell 1
      have f0 := r2.frozen 0
      have f1 := r2.frozen 1
      have l2 := r2.lt
      have H2' := Lib.hid (bch H1'.out hb2)
      clear hb2 r0 r1 r2 b1
      cases t2
      all_goals
        first
          | have huu := HU.out rfl
          | skip
        try subst huu
        go_wp2
        refine bodyPost_ret (resSpecIntersectAll (b := w.heap.size + 2) (r := false) _ rfl rfl _ (v0 := .int .i64 0) (v1 := .slice none 0 0) (by simp [go_sem, e0, e1, l2]) (by simp [go_sem, e0, e1, l2])) rfl ?_
        exact NO.out _ H2'.out
end Go.Proofs.Ytfjpmifdmpoocaa
