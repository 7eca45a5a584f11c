/-
  Contracts of the program's SemiJoin, AntiJoin, NotIn.
-/
import Derived.Test.YtldndapcbgaliaaProg
import Derived.Test.YtldndapcbgaliaaMat
import Derived.Test.YtldndapcbgaliaaSel
import Derived.Deep.DeepCutAuto
namespace Go.Proofs.Ytldndapcbgaliaa
open Go.RowKit Go.Qo Go.Maps
set_option linter.unusedVariables false
set_option linter.unusedSimpArgs false

/-- Whether a row has a null in a column. -/
def isNl (ci : Nat) (r : Row1) : Bool := match r[ci]? with | some (true, _) => true | _ => false
def pSemi (ci cb : Nat) (ys : List Row1) (r : Row1) : Bool := mt ci (colN cb ys) r
def pAnti (ci cb : Nat) (ys : List Row1) (r : Row1) : Bool := !mt ci (colN cb ys) r
def pNotIn (ci cb : Nat) (ys : List Row1) (r : Row1) : Bool := if ys.length = 0 then true else colNull cb ys == 0 && !isNl ci r && !mt ci (colN cb ys) r

theorem entersMatches : ∀ args w, (callFunc 66 args).run Try.prog w = .ok (.enter 66 args) w := enters_of Try.func66 (by kernel_rfl) rfl
theorem entersAnti1 : ∀ args w, (callFunc 70 args).run Try.prog w = .ok (.enter 70 args) w := enters_of Try.func70 (by kernel_rfl) rfl
set_option maxRecDepth 20000 in
set_option maxHeartbeats 1000000 in
theorem anti1_ok (pm b N ci cb c : Nat) (nulls : Int) (ys : List Row1) (W : Int) (A : Option Addr) (r : Row1) (w : World) (hb : Row w pm 89 [.map (some b), .int .i64 nulls, .int .i64 ci]) (hm : MapN w b N (colN cb ys)) (hci : ci < r.length) (hr : RowOk W r) (h : Sl 2 valC w w.heap.size A r) :
    Calls Try.prog 70 #[.slice A r.length c, .pointer (some ⟨pm, 0, none⟩)] w fun e w' => e = .returned (.bool (pAnti ci cb ys r)) ∧ Below w.heap.size w w' := by
  have HM := Lib.hid (matches_ok b N ci c nulls (colN cb ys) W A r w hm hci hr h)
  have a0 : w.cell? ⟨pm, 0, none⟩ = some (.map (some b)) := hb.cell 0
  have a1 : w.cell? ⟨pm, 1, none⟩ = some (.int .i64 nulls) := hb.cell 1
  have a2 : w.cell? ⟨pm, 2, none⟩ = some (.int .i64 ci) := hb.cell 2
  clear hb hm hci hr h
  go_enter Try.func70, Try.ntmps70
  go_wp2_with fail
  refine HM.out.mono ?_
  rintro e w1 ⟨rfl, hb1⟩
  go_wp2
  go_ret
  exact ⟨rfl, hb1⟩
theorem entersNotIn1 : ∀ args w, (callFunc 65 args).run Try.prog w = .ok (.enter 65 args) w := enters_of Try.func65 (by kernel_rfl) rfl
set_option maxRecDepth 20000 in
set_option maxHeartbeats 2000000 in
theorem notIn1_ok (pb pm pc b N ci cb c c' : Nat) (W' : Int) (A' : Option Addr) (ys : List Row1) (W : Int) (A : Option Addr) (r : Row1) (w : World) (hn : ys.length ≤ 400) (hb0 : Row w pb 25 [.int .i64 W', .slice A' ys.length c']) (hb : Row w pm 89 [.map (some b), .int .i64 (colNull cb ys : Nat), .int .i64 ci]) (hbc : Row w pc 3 [.int .i64 ci])
    (hm : MapN w b N (colN cb ys)) (hci : ci < r.length) (hr : RowOk W r) (h : Sl 2 valC w w.heap.size A r) :
    Calls Try.prog 65 #[.slice A r.length c, .pointer (some ⟨pb, 0, none⟩), .pointer (some ⟨pm, 0, none⟩), .pointer (some ⟨pc, 0, none⟩)] w fun e w' => e = .returned (.bool (pNotIn ci cb ys r)) ∧ Below w.heap.size w w' := by
  obtain ⟨t, ht⟩ : ∃ t, pNotIn ci cb ys r = t := ⟨_, rfl⟩
  rw [ht]
  obtain ⟨m, hmt⟩ : ∃ m, mt ci (colN cb ys) r = m := ⟨_, rfl⟩
  have HM := matches_ok b N ci c (colNull cb ys : Nat) (colN cb ys) W A r w hm hci hr h
  rw [hmt] at HM
  have HM := Lib.hid HM
  have hl6 := (rowValid_len hr.1).2
  obtain ⟨b2, off, rfl, hB, c0, c1⟩ := Val.at_ h hci
  have hx := Lib.hid (List.getElem?_eq_getElem hci)
  generalize r[ci] = v at *
  obtain ⟨nl, n⟩ := v
  have hnl : isNl ci r = nl := by
    unfold isNl
    rw [hx.out]
    cases nl <;> rfl
  obtain ⟨u, hu⟩ : ∃ u, colNull cb ys = u := ⟨_, rfl⟩
  have hu4 : u ≤ 400 := by rw [← hu]; exact Nat.le_trans (colNull_le _ _) hn
  rw [hu] at hb HM
  have HT := Lib.hid (show t = (if ys.length = 0 then true else u == 0 && !nl && !m) by rw [← ht]; unfold pNotIn; rw [hu, hnl, hmt])
  have a0 : w.cell? ⟨pm, 0, none⟩ = some (.map (some b)) := hb.cell 0
  have a1 : w.cell? ⟨pm, 1, none⟩ = some (.int .i64 u) := hb.cell 1
  have a2 : w.cell? ⟨pm, 2, none⟩ = some (.int .i64 ci) := hb.cell 2
  have a3 : w.cell? ⟨pb, 0, none⟩ = some (.int .i64 W') := hb0.cell 0
  have a4 : w.cell? ⟨pb, 1, none⟩ = some (.slice A' ys.length c') := hb0.cell 1
  have a5 : w.cell? ⟨pc, 0, none⟩ = some (.int .i64 ci) := hbc.cell 0
  clear hb0 hb hbc hm hr h ht hmt hnl hu
  rcases Nat.eq_zero_or_pos ys.length with hz | hz
  · have hz0 : ((ys.length : Int) == 0) = true := by simp [hz]
    have HZ := Lib.hid hz
    clear hz
    go_enter Try.func65, Try.ntmps65
    go_wp2
    go_ret
    exact ⟨ret_bool (by rw [HT.out, if_pos HZ.out]), Below.refl _ _⟩
  · have hz0 : ((ys.length : Int) == 0) = false := by rw [beq_eq_false_iff_ne]; omega
    have HZ := Lib.hid (show ¬ (ys.length = 0) by omega)
    clear hz
    by_cases h0 : u = 0
    · subst h0
      cases nl
      · go_enter Try.func65, Try.ntmps65
        go_wp2_with fail
        refine HM.out.mono ?_
        rintro e w1 ⟨rfl, hb1⟩
        go_wp2
        go_ret
        exact ⟨ret_bool (by rw [HT.out, if_neg HZ.out]; simp), hb1⟩
      · go_enter Try.func65, Try.ntmps65
        go_wp2
        go_ret
        exact ⟨ret_bool (by rw [HT.out, if_neg HZ.out]; simp), Below.refl _ _⟩
    · have h0' : ((u : Int) == 0) = false := by rw [beq_eq_false_iff_ne]; omega
      have H0 := Lib.hid h0
      clear h0
      go_enter Try.func65, Try.ntmps65
      go_wp2
      go_ret
      exact ⟨ret_bool (by rw [HT.out, if_neg HZ.out]; simp [H0.out]), Below.refl _ _⟩
theorem resAntiJoin {b : Nat} {v0 v1 : Value} {r : Bool} (tmps : Array Value) (hp : tmps.getD 8 undef = .pointer (some ⟨b, 0, none⟩)) (hr : tmps.getD 9 undef = .bool r) (w : World) (c0 : w.cell? ⟨b, 0, none⟩ = some v0) (c1 : w.cell? ⟨b, 1, none⟩ = some v1) :
    (results Try.f22 tmps).run Try.prog w = .ok (.tuple #[.agg #[v0, v1], .bool r]) w := by
  simp only [Array.getD_eq_getD_getElem?] at hp hr
  simp [results, Try.results22, go_sem, hp, hr, c0, c1]

set_option maxRecDepth 20000 in
set_option maxHeartbeats 4000000 in
theorem implAntiJoin_ok (W W' : Int) (A A' : Option Addr) (c c' : Nat) (xs ys : List Row1) (ca cb : Int) (w : World) (hn : xs.length ≤ 1048576) (hn' : ys.length ≤ 1048576) (h : Rws w w.heap.size A xs) (h' : Rws w w.heap.size A' ys) (q : Bool) (hq : q = true ↔ ((TabOk W xs ∧ 0 ≤ ca ∧ ca < W) ∧ (TabOk W' ys ∧ 0 ≤ cb ∧ cb < W'))) :
    Calls Try.prog 22 #[.agg #[.int .i64 W, .slice A xs.length c], .agg #[.int .i64 W', .slice A' ys.length c'], .int .i64 ca, .int .i64 cb] w (TabRes q W (xs.filter (pAnti ca.toNat cb.toNat ys)) w) := by
  have Hq := Lib.hid hq
  obtain ⟨W0, hW0⟩ : ∃ z, ((w.alloc (.cells #[.int .i64 W, .slice A xs.length c] 25)).alloc (.cells #[.int .i64 W', .slice A' ys.length c'] 25)).alloc (.cells #[.int .i64 0, .slice none 0 0] 25) = z := ⟨_, rfl⟩
  have B0 : Below w.heap.size w W0 := by rw [← hW0]; exact balloc (balloc (balloc (Below.refl _ _) _) _) _
  have r0 : Row W0 w.heap.size 25 [.int .i64 W, .slice A xs.length c] := by rw [← hW0]; exact ((Row.new _ _ _).alloc _).alloc _
  have r1 : Row W0 (w.heap.size + 1) 25 [.int .i64 W', .slice A' ys.length c'] := by rw [← hW0]; exact (Row.second _ _ _ _).alloc _
  have r2 : Row W0 (w.heap.size + 2) 25 [.int .i64 0, .slice none 0 0] := by rw [← hW0]; exact Row.third _ _ _ _ _

  have HM := Lib.hid (matcherOf_ok W W' A A' c c' xs ys ca cb W0 hn hn' (h.on B0) (h'.on B0) q hq)
  have HX := Lib.hid (fun (z : World) (hz : Below w.heap.size w z) => show Rws z z.heap.size A xs from h.on hz)
  have HW := Lib.hid hW0
  have HB0 := Lib.hid B0
  have HR0 := Lib.hid (And.intro r0 (And.intro r1 r2))
  have a0 : W0.cell? ⟨w.heap.size, 0, none⟩ = some (.int .i64 W) := r0.cell 0
  have a1 : W0.cell? ⟨w.heap.size, 1, none⟩ = some (.slice A xs.length c) := r0.cell 1
  have b0 : W0.cell? ⟨w.heap.size + 1, 0, none⟩ = some (.int .i64 W') := r1.cell 0
  have b1 : W0.cell? ⟨w.heap.size + 1, 1, none⟩ = some (.slice A' ys.length c') := r1.cell 1

  clear hq h h' B0 r0 r1 r2 hW0
  go_enter Try.func22, Try.ntmps22
  go_upto_region 1 with fail
  rw [HW.out]
  go_wp2_with fail
  refine HM.out.mono ?_
  intro e w1 hres
  obtain ⟨hres, hb1⟩ := hres
  have r0 := HR0.out.1.on hb1
  have r2 := HR0.out.2.2.on hb1
  rcases hres with ⟨rfl, rfl⟩ | ⟨rfl, mb, N, rfl, hN⟩
  · have e0 : (w1.alloc (.cells #[.map none, .int .i64 0, .int .i64 0] 89)).cell? ⟨w.heap.size + 2, 0, none⟩ = some (.int .i64 0) := (r2.alloc _).cell 0
    have e1 : (w1.alloc (.cells #[.map none, .int .i64 0, .int .i64 0] 89)).cell? ⟨w.heap.size + 2, 1, none⟩ = some (.slice none 0 0) := (r2.alloc _).cell 1
    have f0 := (r2.alloc (.cells #[.map none, .int .i64 0, .int .i64 0] 89)).frozen 0
    have f1 := (r2.alloc (.cells #[.map none, .int .i64 0, .int .i64 0] 89)).frozen 1
    have l2 := (r2.alloc (.cells #[.map none, .int .i64 0, .int .i64 0] 89)).lt
    have H1 := Lib.hid (balloc (bch HB0.out hb1) (.cells #[.map none, .int .i64 0, .int .i64 0] 89))
    obtain ⟨W2, hW2⟩ : ∃ z, w1.alloc (.cells #[.map none, .int .i64 0, .int .i64 0] 89) = z := ⟨_, rfl⟩
    rw [hW2] at e0 e1 f0 f1 l2 H1
    have HW2 := Lib.hid hW2
    clear hb1 r0 r2 hW2 a0 a1 b0 b1
    go_upto_region 2 with fail
    rw [HW2.out]
    go_wp2
    refine bodyPost_ret (resAntiJoin (b := w.heap.size + 2) (r := false) _ rfl rfl _ (v0 := .int .i64 0) (v1 := .slice none 0 0) (by simp [go_sem, e0, e1, l2]) (by simp [go_sem, e0, e1, l2])) rfl ?_
    exact TabRes.no ((H1.out.setCell (p := ⟨w.heap.size + 2, 0, none⟩) (by simp) _).setCell (p := ⟨w.heap.size + 2, 1, none⟩) (by simp) _)
  · obtain ⟨⟨hT1, hca0, hca1⟩, ⟨hT2, hcb0, hcb1⟩⟩ := Hq.out.1 rfl
    obtain ⟨ci, hci⟩ : ∃ n : Nat, ca = n := ⟨ca.toNat, by omega⟩
    obtain ⟨cj, hcj⟩ : ∃ n : Nat, cb = n := ⟨cb.toNat, by omega⟩
    subst hci
    subst hcj
    rw [show ((cj : Nat) : Int).toNat = cj from by omega] at hN ⊢
    rw [show ((ci : Nat) : Int).toNat = ci from by omega]
    obtain ⟨nu, hnu⟩ : ∃ nu, colNull cj ys = nu := ⟨_, rfl⟩
    have hnu4 : nu ≤ 400 := by rw [← hnu]; exact Nat.le_trans (colNull_le _ _) hT2.2.2.1
    obtain ⟨W2, hW2⟩ : ∃ z, w1.alloc (.cells #[.map (some mb), .int .i64 nu, .int .i64 ci] 89) = z := ⟨_, rfl⟩
    have hb2 : Below w1.heap.size w1 W2 := by rw [← hW2]; exact balloc (Below.refl _ _) _
    have m2 : Row W2 w1.heap.size 89 [.map (some mb), .int .i64 nu, .int .i64 ci] := by rw [← hW2]; exact Row.new _ _ _
    have hb12 := bch hb1 hb2
    have H2 := Lib.hid (bch HB0.out hb12)
    have R2 := Lib.hid (r2.on hb2)
    have N2 := hN.on hb2
    have HSEL := selected_ok W A c xs (pAnti ci cj ys) 70 #[] #[.pointer (some ⟨w1.heap.size, 0, none⟩)] W2 entersAnti1 hT1 (HX.out _ H2.out)
      (fun A1 c1 r hr z hz hs => anti1_ok w1.heap.size mb N ci cj c1 nu ys W A1 r z (m2.on hz) (N2.on hz) (by have := hr.2; omega) hr hs)
    have HSEL := Lib.hid HSEL
    have d0 : W2.cell? ⟨w.heap.size, 0, none⟩ = some (.int .i64 W) := (r0.on hb2).cell 0
    have d1 : W2.cell? ⟨w.heap.size, 1, none⟩ = some (.slice A xs.length c) := (r0.on hb2).cell 1
    have g0 : W2.cell? ⟨w1.heap.size, 0, none⟩ = some (.map (some mb)) := m2.cell 0
    have g1 : W2.cell? ⟨w1.heap.size, 1, none⟩ = some (.int .i64 nu) := m2.cell 1
    have g2 : W2.cell? ⟨w1.heap.size, 2, none⟩ = some (.int .i64 ci) := m2.cell 2
    have HW2 := Lib.hid hW2
    have HNU := Lib.hid hnu
    clear hT1 hca0 hca1 hT2 hcb0 hcb1 hnu hW2 hb2 m2 hb12 N2 hb1 hN r0 r2 a0 a1 b0 b1
    go_upto_region 2 with fail
    rw [HNU.out, HW2.out]
    go_wp2_with fail
    refine HSEL.out.mono ?_
    rintro e w3 ⟨v, cp, rfl, hcp, how, hcc, hb3⟩
    have r2 := R2.out.on hb3
    have e0 : w3.cell? ⟨w.heap.size + 2, 0, none⟩ = some (.int .i64 0) := r2.cell 0
    have e1 : w3.cell? ⟨w.heap.size + 2, 1, none⟩ = some (.slice none 0 0) := r2.cell 1
    have f0 := r2.frozen 0
    have f1 := r2.frozen 1
    have l2 := r2.lt
    obtain ⟨A2, c2, rfl, _, _, _⟩ := how.shape svC_length
    generalize (cp.map (·.1)).length = nn at how ⊢
    have H3 := Lib.hid (And.intro hcp (And.intro how (And.intro hcc (And.intro hb3 r2))))
    clear hcp how hcc hb3 r2
    go_wp2
    refine bodyPost_ret (resAntiJoin (b := w.heap.size + 2) (r := true) _ rfl rfl _ (v0 := .int .i64 W) (v1 := .slice A2 nn c2) (by simp [go_sem, e0, e1, l2]) (by simp [go_sem, e0, e1, l2])) rfl ?_
    obtain ⟨hcp, how, hcc, hb3, r2⟩ := H3.out
    exact TabRes.yes hcp how hcc H2.out hb3 r2 (by omega)
theorem resNotIn {b : Nat} {v0 v1 : Value} {r : Bool} (tmps : Array Value) (hp : tmps.getD 8 undef = .pointer (some ⟨b, 0, none⟩)) (hr : tmps.getD 9 undef = .bool r) (w : World) (c0 : w.cell? ⟨b, 0, none⟩ = some v0) (c1 : w.cell? ⟨b, 1, none⟩ = some v1) :
    (results Try.f20 tmps).run Try.prog w = .ok (.tuple #[.agg #[v0, v1], .bool r]) w := by
  simp only [Array.getD_eq_getD_getElem?] at hp hr
  simp [results, Try.results20, go_sem, hp, hr, c0, c1]

set_option maxRecDepth 20000 in
set_option maxHeartbeats 4000000 in
theorem implNotIn_ok (W W' : Int) (A A' : Option Addr) (c c' : Nat) (xs ys : List Row1) (ca cb : Int) (w : World) (hn : xs.length ≤ 1048576) (hn' : ys.length ≤ 1048576) (h : Rws w w.heap.size A xs) (h' : Rws w w.heap.size A' ys) (q : Bool) (hq : q = true ↔ ((TabOk W xs ∧ 0 ≤ ca ∧ ca < W) ∧ (TabOk W' ys ∧ 0 ≤ cb ∧ cb < W'))) :
    Calls Try.prog 20 #[.agg #[.int .i64 W, .slice A xs.length c], .agg #[.int .i64 W', .slice A' ys.length c'], .int .i64 ca, .int .i64 cb] w (TabRes q W (xs.filter (pNotIn ca.toNat cb.toNat ys)) w) := by
  have Hq := Lib.hid hq
  obtain ⟨W0, hW0⟩ : ∃ z, (((w.alloc (.cells #[.int .i64 W, .slice A xs.length c] 25)).alloc (.cells #[.int .i64 W', .slice A' ys.length c'] 25)).alloc (.cells #[.int .i64 ca] 3)).alloc (.cells #[.int .i64 0, .slice none 0 0] 25) = z := ⟨_, rfl⟩
  have B0 : Below w.heap.size w W0 := by rw [← hW0]; exact balloc (balloc (balloc (balloc (Below.refl _ _) _) _) _) _
  have r0 : Row W0 w.heap.size 25 [.int .i64 W, .slice A xs.length c] := by rw [← hW0]; exact (((Row.new _ _ _).alloc _).alloc _).alloc _
  have r1 : Row W0 (w.heap.size + 1) 25 [.int .i64 W', .slice A' ys.length c'] := by rw [← hW0]; exact ((Row.second _ _ _ _).alloc _).alloc _
  have r2 : Row W0 (w.heap.size + 3) 25 [.int .i64 0, .slice none 0 0] := by rw [← hW0]; exact by have := Row.new (((w.alloc (.cells #[.int .i64 W, .slice A xs.length c] 25)).alloc (.cells #[.int .i64 W', .slice A' ys.length c'] 25)).alloc (.cells #[.int .i64 ca] 3)) 25 #[.int .i64 0, .slice none 0 0]; simpa [World.size_alloc] using this
  have rc : Row W0 (w.heap.size + 2) 3 [.int .i64 ca] := by rw [← hW0]; exact (Row.third _ _ _ _ _).alloc _
  have HM := Lib.hid (matcherOf_ok W W' A A' c c' xs ys ca cb W0 hn hn' (h.on B0) (h'.on B0) q hq)
  have HX := Lib.hid (fun (z : World) (hz : Below w.heap.size w z) => show Rws z z.heap.size A xs from h.on hz)
  have HW := Lib.hid hW0
  have HB0 := Lib.hid B0
  have HR0 := Lib.hid (And.intro r0 (And.intro r1 r2))
  have a0 : W0.cell? ⟨w.heap.size, 0, none⟩ = some (.int .i64 W) := r0.cell 0
  have a1 : W0.cell? ⟨w.heap.size, 1, none⟩ = some (.slice A xs.length c) := r0.cell 1
  have b0 : W0.cell? ⟨w.heap.size + 1, 0, none⟩ = some (.int .i64 W') := r1.cell 0
  have b1 : W0.cell? ⟨w.heap.size + 1, 1, none⟩ = some (.slice A' ys.length c') := r1.cell 1
  have k0 : W0.cell? ⟨w.heap.size + 2, 0, none⟩ = some (.int .i64 ca) := rc.cell 0
  have HRC := Lib.hid rc
  clear hq h h' B0 r0 r1 r2 hW0 rc
  go_enter Try.func20, Try.ntmps20
  go_upto_region 1 with fail
  rw [HW.out]
  go_wp2_with fail
  refine HM.out.mono ?_
  intro e w1 hres
  obtain ⟨hres, hb1⟩ := hres
  have r0 := HR0.out.1.on hb1
  have r2 := HR0.out.2.2.on hb1
  rcases hres with ⟨rfl, rfl⟩ | ⟨rfl, mb, N, rfl, hN⟩
  · have e0 : (w1.alloc (.cells #[.map none, .int .i64 0, .int .i64 0] 89)).cell? ⟨w.heap.size + 3, 0, none⟩ = some (.int .i64 0) := (r2.alloc _).cell 0
    have e1 : (w1.alloc (.cells #[.map none, .int .i64 0, .int .i64 0] 89)).cell? ⟨w.heap.size + 3, 1, none⟩ = some (.slice none 0 0) := (r2.alloc _).cell 1
    have f0 := (r2.alloc (.cells #[.map none, .int .i64 0, .int .i64 0] 89)).frozen 0
    have f1 := (r2.alloc (.cells #[.map none, .int .i64 0, .int .i64 0] 89)).frozen 1
    have l2 := (r2.alloc (.cells #[.map none, .int .i64 0, .int .i64 0] 89)).lt
    have H1 := Lib.hid (balloc (bch HB0.out hb1) (.cells #[.map none, .int .i64 0, .int .i64 0] 89))
    obtain ⟨W2, hW2⟩ : ∃ z, w1.alloc (.cells #[.map none, .int .i64 0, .int .i64 0] 89) = z := ⟨_, rfl⟩
    rw [hW2] at e0 e1 f0 f1 l2 H1
    have HW2 := Lib.hid hW2
    clear hb1 r0 r2 hW2 a0 a1 b0 b1
    go_upto_region 2 with fail
    rw [HW2.out]
    go_wp2
    refine bodyPost_ret (resNotIn (b := w.heap.size + 3) (r := false) _ rfl rfl _ (v0 := .int .i64 0) (v1 := .slice none 0 0) (by simp [go_sem, e0, e1, l2]) (by simp [go_sem, e0, e1, l2])) rfl ?_
    exact TabRes.no ((H1.out.setCell (p := ⟨w.heap.size + 3, 0, none⟩) (by simp) _).setCell (p := ⟨w.heap.size + 3, 1, none⟩) (by simp) _)
  · obtain ⟨⟨hT1, hca0, hca1⟩, ⟨hT2, hcb0, hcb1⟩⟩ := Hq.out.1 rfl
    obtain ⟨ci, hci⟩ : ∃ n : Nat, ca = n := ⟨ca.toNat, by omega⟩
    obtain ⟨cj, hcj⟩ : ∃ n : Nat, cb = n := ⟨cb.toNat, by omega⟩
    subst hci
    subst hcj
    rw [show ((cj : Nat) : Int).toNat = cj from by omega] at hN ⊢
    rw [show ((ci : Nat) : Int).toNat = ci from by omega]
    obtain ⟨nu, hnu⟩ : ∃ nu, colNull cj ys = nu := ⟨_, rfl⟩
    have hnu4 : nu ≤ 400 := by rw [← hnu]; exact Nat.le_trans (colNull_le _ _) hT2.2.2.1
    obtain ⟨W2, hW2⟩ : ∃ z, w1.alloc (.cells #[.map (some mb), .int .i64 nu, .int .i64 ci] 89) = z := ⟨_, rfl⟩
    have hb2 : Below w1.heap.size w1 W2 := by rw [← hW2]; exact balloc (Below.refl _ _) _
    have m2 : Row W2 w1.heap.size 89 [.map (some mb), .int .i64 nu, .int .i64 ci] := by rw [← hW2]; exact Row.new _ _ _
    have hb12 := bch hb1 hb2
    have H2 := Lib.hid (bch HB0.out hb12)
    have R2 := Lib.hid (r2.on hb2)
    have N2 := hN.on hb2
    have HSEL := selected_ok W A c xs (pNotIn ci cj ys) 65 #[] #[.pointer (some ⟨w.heap.size + 1, 0, none⟩), .pointer (some ⟨w1.heap.size, 0, none⟩), .pointer (some ⟨w.heap.size + 2, 0, none⟩)] W2 entersNotIn1 hT1 (HX.out _ H2.out)
      (fun A1 c1 r hr z hz hs => notIn1_ok (w.heap.size + 1) w1.heap.size (w.heap.size + 2) mb N ci cj c1 c' W' A' ys W A1 r z hT2.2.2.1 ((HR0.out.2.1.on hb12).on hz) (by rw [hnu]; exact m2.on hz) ((HRC.out.on hb12).on hz) (N2.on hz) (by have := hr.2; omega) hr hs)
    have HSEL := Lib.hid HSEL
    have d0 : W2.cell? ⟨w.heap.size, 0, none⟩ = some (.int .i64 W) := (r0.on hb2).cell 0
    have d1 : W2.cell? ⟨w.heap.size, 1, none⟩ = some (.slice A xs.length c) := (r0.on hb2).cell 1
    have g0 : W2.cell? ⟨w1.heap.size, 0, none⟩ = some (.map (some mb)) := m2.cell 0
    have g1 : W2.cell? ⟨w1.heap.size, 1, none⟩ = some (.int .i64 nu) := m2.cell 1
    have g2 : W2.cell? ⟨w1.heap.size, 2, none⟩ = some (.int .i64 ci) := m2.cell 2
    have HW2 := Lib.hid hW2
    have HNU := Lib.hid hnu
    clear hT1 hca0 hca1 hT2 hcb0 hcb1 hnu hW2 hb2 m2 hb12 N2 hb1 hN r0 r2 a0 a1 b0 b1
    go_upto_region 2 with fail
    rw [HNU.out, HW2.out]
    go_wp2_with fail
    refine HSEL.out.mono ?_
    rintro e w3 ⟨v, cp, rfl, hcp, how, hcc, hb3⟩
    have r2 := R2.out.on hb3
    have e0 : w3.cell? ⟨w.heap.size + 3, 0, none⟩ = some (.int .i64 0) := r2.cell 0
    have e1 : w3.cell? ⟨w.heap.size + 3, 1, none⟩ = some (.slice none 0 0) := r2.cell 1
    have f0 := r2.frozen 0
    have f1 := r2.frozen 1
    have l2 := r2.lt
    obtain ⟨A2, c2, rfl, _, _, _⟩ := how.shape svC_length
    generalize (cp.map (·.1)).length = nn at how ⊢
    have H3 := Lib.hid (And.intro hcp (And.intro how (And.intro hcc (And.intro hb3 r2))))
    clear hcp how hcc hb3 r2
    go_wp2
    refine bodyPost_ret (resNotIn (b := w.heap.size + 3) (r := true) _ rfl rfl _ (v0 := .int .i64 W) (v1 := .slice A2 nn c2) (by simp [go_sem, e0, e1, l2]) (by simp [go_sem, e0, e1, l2])) rfl ?_
    obtain ⟨hcp, how, hcc, hb3, r2⟩ := H3.out
    exact TabRes.yes hcp how hcc H2.out hb3 r2 (by omega)
end Go.Proofs.Ytldndapcbgaliaa
