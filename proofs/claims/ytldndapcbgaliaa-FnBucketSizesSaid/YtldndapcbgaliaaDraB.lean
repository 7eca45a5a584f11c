/-
  Contract of DrawBucketSizes. (Printed by wip/drab.py.)
-/
import Derived.Test.YtldndapcbgaliaaProg
import Derived.Test.YtldndapcbgaliaaAnyT
import Derived.Test.YtldndapcbgaliaaDraT
import Derived.Test.YtldndapcbgaliaaReg
namespace Go.Proofs.Ytldndapcbgaliaa
open Go.RowKit Go.Qo
set_option linter.unusedVariables false
set_option linter.unusedSimpArgs false

theorem ints3 (x y z : Int) (w : World) (t : TypeId) : Sl 1 intC (w.alloc (.cells #[.int .i64 x, .int .i64 y, .int .i64 z] t)) (w.alloc (.cells #[.int .i64 x, .int .i64 y, .int .i64 z] t)).heap.size (some ⟨w.heap.size, 0, none⟩) [x, y, z] :=
  Row.sl' (t := t) intC_length ((Row.new w _ _).of rfl)
theorem ints6 (w : World) (t : TypeId) : Sl 1 intC (w.alloc (.cells #[.int .i64 1, .int .i64 2, .int .i64 3, .int .i64 16, .int .i64 0, .int .i64 1001] t)) (w.alloc (.cells #[.int .i64 1, .int .i64 2, .int .i64 3, .int .i64 16, .int .i64 0, .int .i64 1001] t)).heap.size (some ⟨w.heap.size, 0, none⟩) [1, 2, 3, 16, 0, 1001] :=
  Row.sl' (t := t) intC_length ((Row.new w _ _).of rfl)
theorem sl_only {b : Nat} {w w' : World} {A : Option Addr} {xs : List Int} (h : Sl 1 intC w w.heap.size A xs) (hb : But b w w') (hA : ∀ a, A = some a → a.block ≠ b) : Sl 1 intC w' w'.heap.size A xs := by
  intro hp
  obtain ⟨g, o, hA', hg, hc⟩ := h hp
  have hz := hb.size
  refine ⟨g, o, hA', by omega, fun n x hx k v hv => ?_⟩
  have := hc n x hx k v hv
  have hne : g ≠ b := hA ⟨g, o, none⟩ hA'
  rw [← this]
  simp only [World.cell?, hb.block g hg hne]

/-- A drawn table. -/
def DrawnT (w : World) (W : Int) (v : Value) (w' : World) : Prop := ∃ (svs : List SV) (rows : List Row1), DrTab 0 w' W v svs rows ∧ Below w.heap.size w w'

set_option maxRecDepth 20000 in
set_option maxHeartbeats 4000000 in
theorem dDrawBucketSizes_ok (A : Option Addr) (c : Nat) (xs : List Int) (w : World) (hn : xs.length ≤ c) (hc : c ≤ maxLen) (hg : ∀ x ∈ xs, 0 ≤ x ∧ x ≤ 255) (hs : Sl 1 byteC w w.heap.size A xs) :
    Calls Try.prog 33 #[.slice A xs.length c] w fun e w' => ∃ W v col nb, e = .returned (.tuple #[.agg #[.int .i64 W, v], .int .i64 col, .int .i64 nb]) ∧ DrawnT w W v w' := by
  have HB0 := Lib.hid (balloc (Below.refl w.heap.size w) (.cells #[.int .i64 0, .slice none 0 0] 25))
  have R0 := Lib.hid (Row.new w 25 #[.int .i64 0, .slice none 0 0])
  have HN := Lib.hid (newReader_ok A c xs _ hn hc hg (hs.on HB0.out))
  have HNS := HB0.out.size
  obtain ⟨b, hbe⟩ : ∃ b, (w.alloc (.cells #[.int .i64 0, .slice none 0 0] 25)).heap.size = b := ⟨_, rfl⟩
  rw [hbe] at HN
  have hbe' : w.heap.size + 1 = b := by rw [← hbe]; simp
  have Hbe := Lib.hid hbe
  clear hs hg hc hn hbe HNS
  go_enter Try.func33, Try.ntmps33
  go_wp2_with fail
  refine HN.out.mono ?_
  rintro e w1 ⟨rfl, hb1, hR1⟩
  rw [← Hbe.out] at hb1
  have HP := Lib.hid (pick_ok b 0 2 w1 hR1 (by omega))
  have H1 := Lib.hid (bch HB0.out hb1)
  have r1 := Lib.hid (R0.out.on hb1)
  clear hb1 hR1
  go_wp2_with fail
  refine HP.out.mono ?_
  rintro e w2 ⟨r0, rfl, hr0, hb2, hsz2, hR2⟩
  have q0 := hr0.1
  have q1 := hr0.2.1 (by omega)
  have H2 := Lib.hid (Only.from_ H1.out rfl hb2 (by intro i hi; omega))
  have r2 := Lib.hid (r1.out.only hb2 (by omega))
  obtain ⟨W, hW⟩ : ∃ W, 1 + r0 = W := ⟨_, rfl⟩
  have HT := Lib.hid (anyTable_ok b 1 W 8 w2 hR2 (by omega) (by omega) (by omega) (by omega) (by omega))
  have hW1 : 1 ≤ W := by omega
  have hW2 : W ≤ 2 := by omega
  have hbl2 := hR2.lt
  clear hb2 hR2 hr0
  go_wp2_with fail
  refine HT.out.mono ?_
  rintro e w3 ⟨W3, v3, svs, rows, rfl, hW3, hrl, hrw, how3, hrt3, hb3, hR3⟩
  obtain ⟨A3, c3, rfl, hc31, hc32, hs3⟩ := how3.shape svC_length
  have hz3 := hb3.size
  have HB3 := Lib.hid (balloc (Below.refl _ w3) (.cells #[.int .i64 W3, .slice A3 svs.length c3] 25))
  have HO3 := Lib.hid ((how3.low (show b + 1 ≤ w2.heap.size by omega)).on HB3.out)
  have HT3 := Lib.hid ((hrt3.low (show b + 1 ≤ w2.heap.size by omega)).on HB3.out)
  have H3 := Lib.hid ((Only.from_ H2.out rfl hb3 (by intro i hi; omega)).alloc (by have := H2.out.size; omega) (.cells #[.int .i64 W3, .slice A3 svs.length c3] 25))
  have r3 := Lib.hid ((r2.out.only hb3 (by omega)).alloc (.cells #[.int .i64 W3, .slice A3 svs.length c3] 25))
  have Hbox := Lib.hid (Row.new w3 25 #[.int .i64 W3, .slice A3 svs.length c3])
  have HL3 := Lib.hid (And.intro hrl (And.intro hrw hW3))
  have HR3 := Lib.hid (hR3.on HB3.out)
  clear how3 hrt3 hb3 hR3 hs3 hrw hrl hW3
  obtain ⟨w4, hw4⟩ : ∃ w4, w3.alloc (.cells #[.int .i64 W3, .slice A3 svs.length c3] 25) = w4 := ⟨_, rfl⟩
  have hz4 : w3.heap.size + 1 = w4.heap.size := by rw [← hw4]; simp
  rw [hw4] at HB3 HO3 HT3 H3 r3 Hbox HR3
  have Hw4 := Lib.hid hw4
  clear hw4
  go_wp2
  rw [Hw4.out]
  have hne3 : w3.heap.size ≠ b := by omega
  have hl34 := Hbox.out.lt
  have D4 := Lib.hid (show DrTab (b + 1) w4 W3 (.slice A3 svs.length c3) svs rows from ⟨HL3.out.2.2, by have := HL3.out.1; simp at this; omega, HL3.out.2.1, HO3.out, HT3.out⟩)
  have hwm : IntKind.i64.wrap (W - 1) = W - 1 := IntWalk.i64_in _ (by omega)
  have BS := Lib.hid (fun (z : World) (hz : But b w4 z) => show z.cell? ⟨w3.heap.size, 0, none⟩ = some (.int .i64 W3) ∧ z.cell? ⟨w3.heap.size, 1, none⟩ = some (.slice A3 svs.length c3) from ⟨(Hbox.out.only hz hne3).cell 0, (Hbox.out.only hz hne3).cell 1⟩)
  have ENDS := Lib.hid (fun (z : World) (hz : But b w4 z) => show z.cell? ⟨w.heap.size, 0, none⟩ = some (.int .i64 0) ∧ z.cell? ⟨w.heap.size, 1, none⟩ = some (.slice none 0 0) ∧ z.frozen? ⟨w.heap.size, 0, none⟩ = false ∧ z.frozen? ⟨w.heap.size, 1, none⟩ = false ∧ w.heap.size < z.heap.size from
    have h := r3.out.only hz (show w.heap.size ≠ b by omega); ⟨h.cell 0, h.cell 1, h.frozen 0, h.frozen 1, h.lt⟩)
  have SETS := Lib.hid (fun (z : World) => show Only (fun i => i = w.heap.size) z ((z.setCell ⟨w.heap.size, 0, none⟩ (.int .i64 W3)).setCell ⟨w.heap.size, 1, none⟩ (.slice A3 svs.length c3)) from
    (Only.set (S := fun i => i = w.heap.size) (p := ⟨w.heap.size, 0, none⟩) (Only.refl z) (.inl rfl) (.int .i64 W3)).set (p := ⟨w.heap.size, 1, none⟩) (.inl rfl) (.slice A3 svs.length c3))
  have hnw : w3.heap.size ≠ w.heap.size := by omega
  have SF := Lib.hid (fun (z : World) (hz : But b w4 z) => show ((z.setCell ⟨w.heap.size, 0, none⟩ (.int .i64 W3)).setCell ⟨w.heap.size, 1, none⟩ (.slice A3 svs.length c3)).cell? ⟨w3.heap.size, 0, none⟩ = some (.int .i64 W3) ∧ ((z.setCell ⟨w.heap.size, 0, none⟩ (.int .i64 W3)).setCell ⟨w.heap.size, 1, none⟩ (.slice A3 svs.length c3)).cell? ⟨w3.heap.size, 1, none⟩ = some (.slice A3 svs.length c3) from
    have h := (Hbox.out.only hz hne3).only (SETS.out z) hnw; ⟨h.cell 0, h.cell 1⟩)
  have FIN := Lib.hid (fun (z : World) (hz : But b w4 z) => show DrTab 0 ((z.setCell ⟨w.heap.size, 0, none⟩ (.int .i64 W3)).setCell ⟨w.heap.size, 1, none⟩ (.slice A3 svs.length c3)) W3 (.slice A3 svs.length c3) svs rows ∧ Below w.heap.size w ((z.setCell ⟨w.heap.size, 0, none⟩ (.int .i64 W3)).setCell ⟨w.heap.size, 1, none⟩ (.slice A3 svs.length c3)) from
    ⟨((D4.out.only hz fun k hk => .inl (by omega)).only (SETS.out z) fun k hk => .inl (by omega)).low (Nat.zero_le _), ((Only.from_ H3.out rfl hz (by intro i hi; omega)).setCell (p := ⟨w.heap.size, 0, none⟩) (Nat.le_refl _) _).setCell (p := ⟨w.heap.size, 1, none⟩) (Nat.le_refl _) _⟩)
  have KO1 := Lib.hid (fun (z : World) (p : Nat) (hz : Rd z b p) (hp : p ≤ 20000) (A : Option Addr) (hs : Sl 1 intC z z.heap.size A [0, W - 1, W]) (hA : ∀ a, A = some a → a.block ≠ b) => one_ok b p A 3 [0, W - 1, W] z hz (by omega) (by simp) (by simp) hs hA)
  have KO2 := Lib.hid (fun (z : World) (p : Nat) (hz : Rd z b p) (hp : p ≤ 20000) (A : Option Addr) (hs : Sl 1 intC z z.heap.size A [1, 2, 3, 16, 0, 1001]) (hA : ∀ a, A = some a → a.block ≠ b) => one_ok b p A 6 [1, 2, 3, 16, 0, 1001] z hz (by omega) (by simp) (by simp) hs hA)
  obtain ⟨u, hu⟩ : ∃ u, w4.drew = u := ⟨_, rfl⟩
  have Bu : Hid (But b w4 u) := Lib.hid (hu ▸ (Only.refl w4).drew)
  have Ru : Hid (Rd u b (1 + 17000)) := Lib.hid (hu ▸ HR3.out.on (Below.refl _ _).drew)
  have Hu := Lib.hid hu
  clear hu hl34
  refine wp_region_held_drew (S := (fun z => z.cell? ⟨w3.heap.size, 0, none⟩ = some (.int .i64 W3) ∧ z.cell? ⟨w3.heap.size, 1, none⟩ = some (.slice A3 svs.length c3))) (by kernel_rfl) ?_ (fun hHeld => ?_)
  · exact BS.out _ (Only.refl w4).drew
  rw [Hu.out] at hHeld ⊢
  refine takeL (i := 0) (v := ?v1) rfl (by kernel_rfl) (by kernel_rfl) (by kernel_rfl) (fun _ _ _ h => h) (Or.inl ⟨by rfl, ?hy1⟩) (by assumption) ?_
  case hy1 => ((intro w' hSw; (try dsimp only at hSw); go_simp) <;> with_reducible rfl)
  try simp only [Act.put, List.setIfInBounds_toArray, List.set_cons_zero, List.set_cons_succ]
  refine takeL (i := 1) (v := ?v2) rfl (by kernel_rfl) (by kernel_rfl) (by kernel_rfl) (fun _ _ _ h => h) (Or.inl ⟨by rfl, ?hy2⟩) (by assumption) ?_
  case hy2 => ((intro w' hSw; (try dsimp only at hSw); go_simp) <;> with_reducible rfl)
  try simp only [Act.put, List.setIfInBounds_toArray, List.set_cons_zero, List.set_cons_succ]
  refine takeL (i := 2) (v := ?v3) rfl (by kernel_rfl) (by kernel_rfl) (by kernel_rfl) (fun _ _ _ h => h) (Or.inl ⟨by rfl, ?hy3⟩) (by assumption) ?_
  case hy3 => ((intro w' hSw; (try dsimp only at hSw); go_simp) <;> with_reducible rfl)
  try simp only [Act.put, List.setIfInBounds_toArray, List.set_cons_zero, List.set_cons_succ]
  refine takeL (i := 3) (v := ?v4) rfl (by kernel_rfl) (by kernel_rfl) (by kernel_rfl) (fun _ _ _ h => h) (Or.inl ⟨by rfl, ?hy4⟩) (by assumption) ?_
  case hy4 => ((intro w' hSw; (try dsimp only at hSw); go_simp) <;> with_reducible rfl)
  try simp only [Act.put, List.setIfInBounds_toArray, List.set_cons_zero, List.set_cons_succ]
  refine takeL (i := 4) (v := ?v5) rfl (by kernel_rfl) (by kernel_rfl) (by kernel_rfl) (fun _ _ _ h => h) (Or.inl ⟨by rfl, ?hy5⟩) (by assumption) ?_
  case hy5 => ((intro w' hSw; (try dsimp only at hSw); go_simp) <;> with_reducible rfl)
  try simp only [Act.put, List.setIfInBounds_toArray, List.set_cons_zero, List.set_cons_succ]
  refine takeL (i := 7) (v := ?v6) rfl (by kernel_rfl) (by kernel_rfl) (by kernel_rfl) (fun _ _ _ h => h) (Or.inl ⟨by rfl, ?hy6⟩) (by assumption) ?_
  case hy6 => ((intro w' hSw; (try dsimp only at hSw); go_simp) <;> with_reducible rfl)
  try simp only [Act.put, List.setIfInBounds_toArray, List.set_cons_zero, List.set_cons_succ]
  refine wpAnyH_ready (rs := [5, 8]) (by kernel_rfl) (by simp) ?_
  refine readyL rfl (fun K hK => ?_) (readyL rfl (fun K hK => ?_) AllReadyH.nil)
  · skip
    obtain ⟨x1, hx1⟩ : ∃ x, u.alloc (.cells #[.int .i64 0, .int .i64 (W - 1), .int .i64 W] 3) = x := ⟨_, rfl⟩
    have hbx1 : Below u.heap.size u x1 := by rw [← hx1]; exact balloc (Below.refl _ _) _
    have hsx1 := ints3 0 (W - 1) W u 3
    rw [hx1] at hsx1
    have Bx1 : Hid (But b w4 x1) := Lib.hid (Bu.out.trans (only_below hbx1))
    have Rx1 := Lib.hid (Ru.out.on hbx1)
    have Px1 := Lib.hid hsx1
    have NPx1 : u.heap.size ≠ b := by have := Ru.out.lt; omega
    go_simp
    try rw [hx1]
    have Hwx1 := Lib.hid hx1
    clear hx1 hbx1 hsx1
    refine hK.out _ _ ?hS7 (fun hHeld => ?_)
    case hS7 => exact BS.out _ Bx1.out
    clear hK K
    try simp only [Act.put, List.setIfInBounds_toArray, List.set_cons_zero, List.set_cons_succ]
    refine wpAnyH_ready (rs := [6, 8]) (by kernel_rfl) (by simp) ?_
    refine readyL rfl (fun K hK => ?_) (readyL rfl (fun K hK => ?_) AllReadyH.nil)
    · skip
      go_simp
      go_at_call 84
      refine (KO1.out x1 _ Rx1.out (by omega) _ Px1.out (by rintro a ha; cases ha; exact NPx1)).mono ?_
      rintro e x2 ⟨col, rfl, _, hbx2, _, hRx2⟩
      have Bx2 : Hid (But b w4 x2) := Lib.hid (Bx1.out.trans hbx2)
      have Rx2 := Lib.hid hRx2
      clear hbx2 hRx2
      refine hK.out _ _ ?hS8 (fun hHeld => ?_)
      case hS8 => exact BS.out _ Bx2.out
      clear hK K
      try simp only [Act.put, List.setIfInBounds_toArray, List.set_cons_zero, List.set_cons_succ]
      refine wpAnyH_ready (rs := [8]) (by kernel_rfl) (by simp) ?_
      refine readyL rfl (fun K hK => ?_) AllReadyH.nil
      obtain ⟨x3, hx3⟩ : ∃ x, x2.alloc (.cells #[.int .i64 1, .int .i64 2, .int .i64 3, .int .i64 16, .int .i64 0, .int .i64 1001] 3) = x := ⟨_, rfl⟩
      have hbx3 : Below x2.heap.size x2 x3 := by rw [← hx3]; exact balloc (Below.refl _ _) _
      have hsx3 := ints6 x2 3
      rw [hx3] at hsx3
      have Bx3 : Hid (But b w4 x3) := Lib.hid (Bx2.out.trans (only_below hbx3))
      have Rx3 := Lib.hid (Rx2.out.on hbx3)
      have Qx3 := Lib.hid hsx3
      have NQx3 : x2.heap.size ≠ b := by have := Rx2.out.lt; omega
      go_simp
      try rw [hx3]
      have Hwx3 := Lib.hid hx3
      clear hx3 hbx3 hsx3
      refine hK.out _ _ ?hS9 (fun hHeld => ?_)
      case hS9 => exact BS.out _ Bx3.out
      clear hK K
      try simp only [Act.put, List.setIfInBounds_toArray, List.set_cons_zero, List.set_cons_succ]
      refine wpAnyH_ready (rs := [9]) (by kernel_rfl) (by simp) ?_
      refine readyL rfl (fun K hK => ?_) AllReadyH.nil
      go_simp
      go_at_call 84
      refine (KO2.out x3 _ Rx3.out (by omega) _ Qx3.out (by rintro a ha; cases ha; exact NQx3)).mono ?_
      rintro e x4 ⟨nb, rfl, _, hbx4, _, hRx4⟩
      have Bx4 : Hid (But b w4 x4) := Lib.hid (Bx3.out.trans hbx4)
      have Rx4 := Lib.hid hRx4
      clear hbx4 hRx4
      refine hK.out _ _ ?hS10 (fun hHeld => ?_)
      case hS10 => exact BS.out _ Bx4.out
      clear hK K
      try simp only [Act.put, List.setIfInBounds_toArray, List.set_cons_zero, List.set_cons_succ]
      refine wpAnyH_ready (rs := [10]) (by kernel_rfl) (by simp) ?_
      refine readyL rfl (fun K hK => ?_) AllReadyH.nil
      obtain ⟨a0, a1, f0, f1, l0⟩ := ENDS.out _ Bx4.out
      go_simp
      refine hK.out _ _ ?hS11 (fun hHeld => ?_)
      case hS11 => exact SF.out _ Bx4.out
      clear hK K
      try simp only [Act.put, List.setIfInBounds_toArray, List.set_cons_zero, List.set_cons_succ]
      refine takeL (i := 11) (v := ?v12) rfl (by kernel_rfl) (by kernel_rfl) (by kernel_rfl) (fun _ _ _ h => h) (Or.inl ⟨by rfl, ?hy12⟩) (by assumption) ?_
      case hy12 => ((intro w' hSw; (try dsimp only at hSw); go_simp) <;> with_reducible rfl)
      try simp only [Act.put, List.setIfInBounds_toArray, List.set_cons_zero, List.set_cons_succ]
      refine takeL (i := 12) (v := ?v13) rfl (by kernel_rfl) (by kernel_rfl) (by kernel_rfl) (fun _ _ _ h => h) (Or.inl ⟨by rfl, ?hy13⟩) (by assumption) ?_
      case hy13 => ((intro w' hSw; (try dsimp only at hSw); go_simp) <;> with_reducible rfl)
      try simp only [Act.put, List.setIfInBounds_toArray, List.set_cons_zero, List.set_cons_succ]
      refine wpAnyH_done (by kernel_rfl) ?_ _
      go_wp2
      refine bodyPost_ret (v := .tuple #[.agg #[.int .i64 W3, .slice A3 svs.length c3], .int .i64 col, .int .i64 nb]) (by simp [results, Try.results33, go_sem, a0, a1, f0, f1, l0]) rfl ?_
      exact ⟨W3, _, col, nb, rfl, svs, rows, FIN.out _ Bx4.out⟩
    · skip
      obtain ⟨x2, hx2⟩ : ∃ x, x1.alloc (.cells #[.int .i64 1, .int .i64 2, .int .i64 3, .int .i64 16, .int .i64 0, .int .i64 1001] 3) = x := ⟨_, rfl⟩
      have hbx2 : Below x1.heap.size x1 x2 := by rw [← hx2]; exact balloc (Below.refl _ _) _
      have hsx2 := ints6 x1 3
      rw [hx2] at hsx2
      have Bx2 : Hid (But b w4 x2) := Lib.hid (Bx1.out.trans (only_below hbx2))
      have Rx2 := Lib.hid (Rx1.out.on hbx2)
      have Qx2 := Lib.hid hsx2
      have NQx2 : x1.heap.size ≠ b := by have := Rx1.out.lt; omega
      have Px2 := Lib.hid (Px1.out.on hbx2)
      go_simp
      try rw [hx2]
      have Hwx2 := Lib.hid hx2
      clear hx2 hbx2 hsx2
      refine hK.out _ _ ?hS14 (fun hHeld => ?_)
      case hS14 => exact BS.out _ Bx2.out
      clear hK K
      try simp only [Act.put, List.setIfInBounds_toArray, List.set_cons_zero, List.set_cons_succ]
      refine wpAnyH_ready (rs := [6]) (by kernel_rfl) (by simp) ?_
      refine readyL rfl (fun K hK => ?_) AllReadyH.nil
      go_simp
      go_at_call 84
      refine (KO1.out x2 _ Rx2.out (by omega) _ Px2.out (by rintro a ha; cases ha; exact NPx1)).mono ?_
      rintro e x3 ⟨col, rfl, _, hbx3, _, hRx3⟩
      have Bx3 : Hid (But b w4 x3) := Lib.hid (Bx2.out.trans hbx3)
      have Rx3 := Lib.hid hRx3
      have Qx3 := Lib.hid (sl_only (Qx2).out hbx3 (by rintro a ha; cases ha; exact NQx2))
      clear hbx3 hRx3
      refine hK.out _ _ ?hS15 (fun hHeld => ?_)
      case hS15 => exact BS.out _ Bx3.out
      clear hK K
      try simp only [Act.put, List.setIfInBounds_toArray, List.set_cons_zero, List.set_cons_succ]
      refine wpAnyH_ready (rs := [9]) (by kernel_rfl) (by simp) ?_
      refine readyL rfl (fun K hK => ?_) AllReadyH.nil
      go_simp
      go_at_call 84
      refine (KO2.out x3 _ Rx3.out (by omega) _ Qx3.out (by rintro a ha; cases ha; exact NQx2)).mono ?_
      rintro e x4 ⟨nb, rfl, _, hbx4, _, hRx4⟩
      have Bx4 : Hid (But b w4 x4) := Lib.hid (Bx3.out.trans hbx4)
      have Rx4 := Lib.hid hRx4
      clear hbx4 hRx4
      refine hK.out _ _ ?hS16 (fun hHeld => ?_)
      case hS16 => exact BS.out _ Bx4.out
      clear hK K
      try simp only [Act.put, List.setIfInBounds_toArray, List.set_cons_zero, List.set_cons_succ]
      refine wpAnyH_ready (rs := [10]) (by kernel_rfl) (by simp) ?_
      refine readyL rfl (fun K hK => ?_) AllReadyH.nil
      obtain ⟨a0, a1, f0, f1, l0⟩ := ENDS.out _ Bx4.out
      go_simp
      refine hK.out _ _ ?hS17 (fun hHeld => ?_)
      case hS17 => exact SF.out _ Bx4.out
      clear hK K
      try simp only [Act.put, List.setIfInBounds_toArray, List.set_cons_zero, List.set_cons_succ]
      refine takeL (i := 11) (v := ?v18) rfl (by kernel_rfl) (by kernel_rfl) (by kernel_rfl) (fun _ _ _ h => h) (Or.inl ⟨by rfl, ?hy18⟩) (by assumption) ?_
      case hy18 => ((intro w' hSw; (try dsimp only at hSw); go_simp) <;> with_reducible rfl)
      try simp only [Act.put, List.setIfInBounds_toArray, List.set_cons_zero, List.set_cons_succ]
      refine takeL (i := 12) (v := ?v19) rfl (by kernel_rfl) (by kernel_rfl) (by kernel_rfl) (fun _ _ _ h => h) (Or.inl ⟨by rfl, ?hy19⟩) (by assumption) ?_
      case hy19 => ((intro w' hSw; (try dsimp only at hSw); go_simp) <;> with_reducible rfl)
      try simp only [Act.put, List.setIfInBounds_toArray, List.set_cons_zero, List.set_cons_succ]
      refine wpAnyH_done (by kernel_rfl) ?_ _
      go_wp2
      refine bodyPost_ret (v := .tuple #[.agg #[.int .i64 W3, .slice A3 svs.length c3], .int .i64 col, .int .i64 nb]) (by simp [results, Try.results33, go_sem, a0, a1, f0, f1, l0]) rfl ?_
      exact ⟨W3, _, col, nb, rfl, svs, rows, FIN.out _ Bx4.out⟩
  · skip
    obtain ⟨x1, hx1⟩ : ∃ x, u.alloc (.cells #[.int .i64 1, .int .i64 2, .int .i64 3, .int .i64 16, .int .i64 0, .int .i64 1001] 3) = x := ⟨_, rfl⟩
    have hbx1 : Below u.heap.size u x1 := by rw [← hx1]; exact balloc (Below.refl _ _) _
    have hsx1 := ints6 u 3
    rw [hx1] at hsx1
    have Bx1 : Hid (But b w4 x1) := Lib.hid (Bu.out.trans (only_below hbx1))
    have Rx1 := Lib.hid (Ru.out.on hbx1)
    have Qx1 := Lib.hid hsx1
    have NQx1 : u.heap.size ≠ b := by have := Ru.out.lt; omega
    go_simp
    try rw [hx1]
    have Hwx1 := Lib.hid hx1
    clear hx1 hbx1 hsx1
    refine hK.out _ _ ?hS20 (fun hHeld => ?_)
    case hS20 => exact BS.out _ Bx1.out
    clear hK K
    try simp only [Act.put, List.setIfInBounds_toArray, List.set_cons_zero, List.set_cons_succ]
    refine wpAnyH_ready (rs := [5]) (by kernel_rfl) (by simp) ?_
    refine readyL rfl (fun K hK => ?_) AllReadyH.nil
    obtain ⟨x2, hx2⟩ : ∃ x, x1.alloc (.cells #[.int .i64 0, .int .i64 (W - 1), .int .i64 W] 3) = x := ⟨_, rfl⟩
    have hbx2 : Below x1.heap.size x1 x2 := by rw [← hx2]; exact balloc (Below.refl _ _) _
    have hsx2 := ints3 0 (W - 1) W x1 3
    rw [hx2] at hsx2
    have Bx2 : Hid (But b w4 x2) := Lib.hid (Bx1.out.trans (only_below hbx2))
    have Rx2 := Lib.hid (Rx1.out.on hbx2)
    have Px2 := Lib.hid hsx2
    have NPx2 : x1.heap.size ≠ b := by have := Rx1.out.lt; omega
    have Qx2 := Lib.hid (Qx1.out.on hbx2)
    go_simp
    try rw [hx2]
    have Hwx2 := Lib.hid hx2
    clear hx2 hbx2 hsx2
    refine hK.out _ _ ?hS21 (fun hHeld => ?_)
    case hS21 => exact BS.out _ Bx2.out
    clear hK K
    try simp only [Act.put, List.setIfInBounds_toArray, List.set_cons_zero, List.set_cons_succ]
    refine wpAnyH_ready (rs := [6]) (by kernel_rfl) (by simp) ?_
    refine readyL rfl (fun K hK => ?_) AllReadyH.nil
    go_simp
    go_at_call 84
    refine (KO1.out x2 _ Rx2.out (by omega) _ Px2.out (by rintro a ha; cases ha; exact NPx2)).mono ?_
    rintro e x3 ⟨col, rfl, _, hbx3, _, hRx3⟩
    have Bx3 : Hid (But b w4 x3) := Lib.hid (Bx2.out.trans hbx3)
    have Rx3 := Lib.hid hRx3
    have Qx3 := Lib.hid (sl_only (Qx2).out hbx3 (by rintro a ha; cases ha; exact NQx1))
    clear hbx3 hRx3
    refine hK.out _ _ ?hS22 (fun hHeld => ?_)
    case hS22 => exact BS.out _ Bx3.out
    clear hK K
    try simp only [Act.put, List.setIfInBounds_toArray, List.set_cons_zero, List.set_cons_succ]
    refine wpAnyH_ready (rs := [9]) (by kernel_rfl) (by simp) ?_
    refine readyL rfl (fun K hK => ?_) AllReadyH.nil
    go_simp
    go_at_call 84
    refine (KO2.out x3 _ Rx3.out (by omega) _ Qx3.out (by rintro a ha; cases ha; exact NQx1)).mono ?_
    rintro e x4 ⟨nb, rfl, _, hbx4, _, hRx4⟩
    have Bx4 : Hid (But b w4 x4) := Lib.hid (Bx3.out.trans hbx4)
    have Rx4 := Lib.hid hRx4
    clear hbx4 hRx4
    refine hK.out _ _ ?hS23 (fun hHeld => ?_)
    case hS23 => exact BS.out _ Bx4.out
    clear hK K
    try simp only [Act.put, List.setIfInBounds_toArray, List.set_cons_zero, List.set_cons_succ]
    refine wpAnyH_ready (rs := [10]) (by kernel_rfl) (by simp) ?_
    refine readyL rfl (fun K hK => ?_) AllReadyH.nil
    obtain ⟨a0, a1, f0, f1, l0⟩ := ENDS.out _ Bx4.out
    go_simp
    refine hK.out _ _ ?hS24 (fun hHeld => ?_)
    case hS24 => exact SF.out _ Bx4.out
    clear hK K
    try simp only [Act.put, List.setIfInBounds_toArray, List.set_cons_zero, List.set_cons_succ]
    refine takeL (i := 11) (v := ?v25) rfl (by kernel_rfl) (by kernel_rfl) (by kernel_rfl) (fun _ _ _ h => h) (Or.inl ⟨by rfl, ?hy25⟩) (by assumption) ?_
    case hy25 => ((intro w' hSw; (try dsimp only at hSw); go_simp) <;> with_reducible rfl)
    try simp only [Act.put, List.setIfInBounds_toArray, List.set_cons_zero, List.set_cons_succ]
    refine takeL (i := 12) (v := ?v26) rfl (by kernel_rfl) (by kernel_rfl) (by kernel_rfl) (fun _ _ _ h => h) (Or.inl ⟨by rfl, ?hy26⟩) (by assumption) ?_
    case hy26 => ((intro w' hSw; (try dsimp only at hSw); go_simp) <;> with_reducible rfl)
    try simp only [Act.put, List.setIfInBounds_toArray, List.set_cons_zero, List.set_cons_succ]
    refine wpAnyH_done (by kernel_rfl) ?_ _
    go_wp2
    refine bodyPost_ret (v := .tuple #[.agg #[.int .i64 W3, .slice A3 svs.length c3], .int .i64 col, .int .i64 nb]) (by simp [results, Try.results33, go_sem, a0, a1, f0, f1, l0]) rfl ?_
    exact ⟨W3, _, col, nb, rfl, svs, rows, FIN.out _ Bx4.out⟩
end Go.Proofs.Ytldndapcbgaliaa
