/-
  Contract of DrawIndexed. (Printed by wip/dri.py.)
-/
import Derived.Test.YtlhonhacehgooaaGreatProg
import Derived.Test.YtlhonhacehgooaaGreatZrMkg
import Derived.Test.YtlhonhacehgooaaGreatZrReg
import Derived.Test.YtlhonhacehgooaaGreatZrRgG
import Derived.Test.YtlhonhacehgooaaGreatZrGeg
namespace Go.Proofs.YtlhonhacehgooaaGreat
open Go.RowKit Go.Qo
set_option linter.unusedVariables false
set_option linter.unusedSimpArgs false

/-- What DrawIndexed draws. -/
def DrawnIx (w : World) (e : Ending) (w' : World) : Prop := ∃ (W : Int) (v : Value) (svs : List SV) (rows : List Row1) (f : FE) (x : Ex) (col : Int),
  e = .returned (.tuple #[.agg #[.int .i64 W, v], feV f, .int .i64 col]) ∧ DrTab 0 w' W v svs rows ∧ ExT (fun _ => True) w' f x ∧ Below w.heap.size w w'
theorem resDrIx {b b' : Nat} {v0 v1 u0 u1 u2 u3 u4 : Value} {c : Value} (tmps : Array Value) (hp : tmps.getD 2 undef = .pointer (some ⟨b, 0, none⟩)) (hp' : tmps.getD 3 undef = .pointer (some ⟨b', 0, none⟩)) (hc : tmps.getD 4 undef = c) (w : World) (c0 : w.cell? ⟨b, 0, none⟩ = some v0) (c1 : w.cell? ⟨b, 1, none⟩ = some v1)
    (d0 : w.cell? ⟨b', 0, none⟩ = some u0) (d1 : w.cell? ⟨b', 1, none⟩ = some u1) (d2 : w.cell? ⟨b', 2, none⟩ = some u2) (d3 : w.cell? ⟨b', 3, none⟩ = some u3) (d4 : w.cell? ⟨b', 4, none⟩ = some u4) :
    (results Tryz.f31 tmps).run Tryz.prog w = .ok (.tuple #[.agg #[v0, v1], .agg #[u0, u1, u2, u3, u4], c]) w := by
  simp only [Array.getD_eq_getD_getElem?] at hp hp' hc
  simp [results, Tryz.results31, go_sem, hp, hp', hc, c0, c1, d0, d1, d2, d3, d4]
set_option maxRecDepth 20000 in
set_option maxHeartbeats 4000000 in
theorem dDrawIndexed_ok (A : Option Addr) (c : Nat) (xs : List Int) (w : World) (hn : xs.length ≤ c) (hc : c ≤ maxLen) (hg : ∀ x ∈ xs, 0 ≤ x ∧ x ≤ 255) (hs : Sl 1 byteC w w.heap.size A xs) :
    Calls Tryz.prog 31 #[.slice A xs.length c] w (DrawnIx w) := by
  obtain ⟨W0, hW0⟩ : ∃ z, (w.alloc (.cells #[.int .i64 0, .slice none 0 0] 32)).alloc (.cells #[.int .i64 0, .int .i64 0, .bool false, .int .i64 0, .slice none 0 0] 57) = z := ⟨_, rfl⟩
  have B0 : Below w.heap.size w W0 := by rw [← hW0]; exact balloc (balloc (Below.refl _ _) _) _
  have r0 : Row W0 w.heap.size 32 [.int .i64 0, .slice none 0 0] := by rw [← hW0]; exact Row.first _ _ _ _
  have r1 : Row W0 (w.heap.size + 1) 57 [.int .i64 0, .int .i64 0, .bool false, .int .i64 0, .slice none 0 0] := by rw [← hW0]; exact Row.second _ _ _ _
  have hs0 : W0.heap.size = w.heap.size + 2 := by rw [← hW0]; simp
  have HN := Lib.hid (newReader_ok A c xs W0 hn hc hg (hs.on B0))
  obtain ⟨b, hbe⟩ : ∃ b, W0.heap.size = b := ⟨_, rfl⟩
  have hbe' : w.heap.size + 2 = b := by omega
  have HBE := Lib.hid hbe
  rw [hbe] at HN
  have HW0 := Lib.hid hW0
  have HB0 := Lib.hid (And.intro B0 (And.intro r0 r1))
  clear hs hg hc hn hbe B0 r0 r1 hs0 hW0
  go_enter Tryz.func31, Tryz.ntmps31
  go_upto_region 1 with fail
  rw [HW0.out]
  go_wp2_with fail
  refine HN.out.mono ?_
  rintro e w1 ⟨rfl, hb1, hR1⟩
  rw [← HBE.out] at hb1
  have H1 := Lib.hid (bch HB0.out.1 hb1)
  have r0 := HB0.out.2.1.on hb1
  have r1 := HB0.out.2.2.on hb1
  have HR01 := Lib.hid (And.intro r0 r1)
  have hl1 := hR1.lt
  have HT := Lib.hid (anyTable_ok b 0 2 7 w1 hR1 (by omega) (by omega) (by omega) (by omega) (by omega))
  clear hb1 hR1 r0 r1
  go_wp2_with fail
  refine HT.out.mono ?_
  rintro e w3 ⟨W3, v3, svs, rows, rfl, hW3, hrl, hrw, how3, hrt3, hb3, hR3⟩
  obtain ⟨A3, c3, rfl, hc31, hc32, hs3⟩ := how3.shape svC_length
  have hz3 := hb3.size
  have HB3 := Lib.hid (balloc (Below.refl _ w3) (.cells #[.int .i64 W3, .slice A3 svs.length c3] 32))
  have D3 := Lib.hid (show DrTab (b + 1) w3 W3 (.slice A3 svs.length c3) svs rows from ⟨hW3, by have : (7 : Int).toNat = 7 := rfl; omega, hrw, how3.low (by omega), hrt3.low (by omega)⟩)
  have Hb3 := Lib.hid hb3
  have HR3 := Lib.hid (hR3.on HB3.out)
  have Hbox := Lib.hid (Row.new w3 32 #[.int .i64 W3, .slice A3 svs.length c3])
  clear how3 hrt3 hb3 hR3 hs3 hrw hrl hW3
  obtain ⟨w4, hw4⟩ : ∃ w4, w3.alloc (.cells #[.int .i64 W3, .slice A3 svs.length c3] 32) = w4 := ⟨_, rfl⟩
  have hz4 : w3.heap.size + 1 = w4.heap.size := by rw [← hw4]; simp
  rw [hw4] at HB3 Hbox HR3
  have Hw4 := Lib.hid hw4
  have HC := Lib.hid (randomCondition_ok b (0 + 17000) 2 w4 HR3.out (by omega))
  have hl4 := HR3.out.lt
  clear hw4
  go_upto_region 3 with fail
  rw [Hw4.out]
  go_wp2_with fail
  refine HC.out.mono ?_
  rintro e w5 ⟨f, x, rfl, hx5, hb5, hR5⟩
  unfold feV
  have hz5 := hb5.size
  obtain ⟨w6, hw6⟩ : ∃ y, w5.alloc (.cells #[.int .i64 f.kind, .int .i64 f.col, .bool f.val.1, .int .i64 f.val.2, .slice f.sv.A f.sv.n f.sv.c] 57) = y := ⟨_, rfl⟩
  have b6 : Below w5.heap.size w5 w6 := by rw [← hw6]; exact balloc (Below.refl _ _) _
  have r6 : Row w6 w5.heap.size 57 (feC f) := by rw [← hw6]; exact Row.new _ _ _
  obtain ⟨e7, he7⟩ : ∃ n, w5.heap.size = n := ⟨_, rfl⟩
  have hx6 : ExT (fun k => b < k ∧ k ≠ e7) w6 f x := (hx5.mono (T := fun k => b < k ∧ k ≠ e7) fun k hk hl => by omega).keep b6.size fun k _ hl => b6.block k hl
  have HX6 := Lib.hid hx6
  have HB6 := Lib.hid (show But b w4 w6 from hb5.below b6)
  have HR6 := Lib.hid (hR5.on b6)
  rw [he7] at r6
  have HRE := Lib.hid r6
  have HE7 := Lib.hid he7
  have hle7 : w5.heap.size ≤ e7 ∧ e7 ≤ w5.heap.size := by omega
  have Hw6 := Lib.hid hw6
  have hz6 := b6.size
  clear hx5 hb5 hR5 b6 r6 hx6 hw6 he7
  go_upto_region 4 with fail
  rw [Hw6.out, HE7.out]
  go_wp2_with fail
  refine (pick_ok b _ 3 w6 HR6.out (by omega)).mono ?_
  rintro e w7 ⟨r, rfl, hr, hb7, hsz7, hR7⟩
  have q0 := hr.1
  have q1 := hr.2.1 (by omega)
  obtain ⟨m, hm⟩ : ∃ m : Nat, r = m := ⟨r.toNat, by omega⟩
  subst hm
  have HX7 := Lib.hid (HX6.out.keep hb7.size fun k hk hl => hb7.block k hl (by omega))
  have HRE7 := Lib.hid (HRE.out.only hb7 (by omega))
  have HB7 := Lib.hid (show Only (fun k => k = b ∨ k = e7) w4 w7 from (HB6.out.trans hb7).mono fun k _ hk => .inl hk)
  have HR7 := Lib.hid hR7
  clear hr hb7 hR7
  have hb6w : b < w4.heap.size := hl4
  have he7w : w4.heap.size ≤ e7 := by omega
  go_wp2
  go_loopg [8] m (fun g iv wr => ∃ (i : Nat) (f : FE) (x : Ex), i ≤ 2 ∧ i = g ∧ iv = .int .i64 i ∧ Row wr e7 57 (feC f) ∧ ExT (fun k => b < k ∧ k ≠ e7) wr f x ∧ Only (fun k => k = b ∨ k = e7) w4 wr ∧ Rd wr b (0 + 17000 + 90 + 1 + (2 - i) * 90))
  case atStart => exact ⟨m, f, x, by omega, rfl, rfl, HRE7.out, HX7.out, HB7.out, HR7.out.mono (by omega)⟩
  case round =>
    obtain ⟨i, f, x, hi, rfl, rfl, hre, hx, hon, hR⟩ := hrel
    have HI := Lib.hid (And.intro hre (And.intro hx (And.intro hon hR)))
    have hlr := hR.lt
    have hle := hre.lt
    clear hre hx hon hR
    by_cases hi0 : 0 < i
    · have hi0' : (0 : Int) < (i : Int) := by omega
      go_upto_region 7 with fail
      obtain ⟨u, hu⟩ : ∃ u, wr.drew = u := ⟨_, rfl⟩
      have Bu := Lib.hid (show Only (fun k => k = b ∨ k = e7) w4 u from hu ▸ HI.out.2.2.1.drew)
      have Ru := Lib.hid (show Rd u b (0 + 17000 + 90 + 1 + (2 - i) * 90) from hu ▸ HI.out.2.2.2.on (Below.refl _ _).drew)
      have Xu := Lib.hid (show ExT (fun k => b < k ∧ k ≠ e7) u f x from hu ▸ HI.out.2.1.keep (Nat.le_refl _) fun _ _ _ => rfl)
      have Eu := Lib.hid (show Row u e7 57 (feC f) from hu ▸ HI.out.1.drew)
      have hue : e7 < u.heap.size := Eu.out.lt
      have hub : b < u.heap.size := Ru.out.lt
      have Hu := Lib.hid hu
      clear hu
      have SB := Lib.hid (fun (z : World) (hz : Row z e7 57 (feC f)) => show z.cell? ⟨e7, 0, none⟩ = some (.int .i64 f.kind) ∧ z.cell? ⟨e7, 1, none⟩ = some (.int .i64 f.col) ∧ z.cell? ⟨e7, 2, none⟩ = some (.bool f.val.1) ∧ z.cell? ⟨e7, 3, none⟩ = some (.int .i64 f.val.2) ∧ z.cell? ⟨e7, 4, none⟩ = some (.slice f.sv.A f.sv.n f.sv.c) from ⟨hz.cell 0, hz.cell 1, hz.cell 2, hz.cell 3, hz.cell 4⟩)
      refine wp_region_g 5 (fun z => z.cell? ⟨e7, 0, none⟩ = some (.int .i64 f.kind) ∧ z.cell? ⟨e7, 1, none⟩ = some (.int .i64 f.col) ∧ z.cell? ⟨e7, 2, none⟩ = some (.bool f.val.1) ∧ z.cell? ⟨e7, 3, none⟩ = some (.int .i64 f.val.2) ∧ z.cell? ⟨e7, 4, none⟩ = some (.slice f.sv.A f.sv.n f.sv.c)) (by kernel_rfl) ?_ (fun hHeld => ?_)
      · exact SB.out _ HI.out.1.drew
      rw [Hu.out] at hHeld ⊢
      refine takeG (i := 0) (v := ?v5) rfl (by kernel_rfl) (by kernel_rfl) (by kernel_rfl) (by kernel_rfl) (fun _ _ _ h => h) (Or.inl ⟨by rfl, ?hy5⟩) (by assumption) ?_
      case hy5 => ((intro w' hSw; (try dsimp only at hSw); go_simp) <;> with_reducible rfl)
      try simp only [Act.put, List.setIfInBounds_toArray, List.set_cons_zero, List.set_cons_succ]
      refine takeG (i := 1) (v := ?v6) rfl (by kernel_rfl) (by kernel_rfl) (by kernel_rfl) (by kernel_rfl) (fun _ _ _ h => h) (Or.inl ⟨by rfl, ?hy6⟩) (by assumption) ?_
      case hy6 => ((intro w' hSw; (try dsimp only at hSw); go_simp) <;> with_reducible rfl)
      try simp only [Act.put, List.setIfInBounds_toArray, List.set_cons_zero, List.set_cons_succ]
      refine wpAnyG_ready (rs := [2]) (by kernel_rfl) (by simp) ?_
      refine readyG rfl (fun K hK => ?_) AllReadyG.nil
      have HC2 := Lib.hid (randomCondition_ok b (0 + 17000 + 90 + 1 + (2 - i) * 90) 2 u Ru.out (by omega))
      go_simp
      go_at_call 83
      refine HC2.out.mono ?_
      rintro e x1 ⟨f2, x2, rfl, hx2, hb2, hR2⟩
      have Bx1 := Lib.hid (show Only (fun k => k = b ∨ k = e7) w4 x1 from Bu.out.trans (hb2.mono fun k _ hk => .inl hk))
      have Rx1 := Lib.hid hR2
      have Ex1 := Lib.hid (Eu.out.only hb2 (by omega))
      have Xx1 := Lib.hid (Xu.out.keep hb2.size fun k hk hl => hb2.block k hl (by omega))
      have Yx1 := Lib.hid (show ExT (fun k => b < k ∧ k ≠ e7) x1 f2 x2 from hx2.mono fun k _ hk => by omega)
      have hzx1 := hb2.size
      unfold feV
      clear hx2 hb2 hR2
      refine hK.out _ _ ?hSa (fun hHeld => ?_)
      case hSa => exact fun _ => SB.out _ Ex1.out
      replace hHeld := hHeld (by decide)
      clear hK K
      try simp only [Act.put, List.setIfInBounds_toArray, List.set_cons_zero, List.set_cons_succ]
      refine wpAnyG_ready (rs := [3]) (by kernel_rfl) (by simp) ?_
      refine readyG rfl (fun K hK => ?_) AllReadyG.nil
      obtain ⟨y2, hy2⟩ : ∃ y, x1.alloc (.cells #[.int .i64 f.kind, .int .i64 f.col, .bool f.val.1, .int .i64 f.val.2, .slice f.sv.A f.sv.n f.sv.c, .int .i64 f2.kind, .int .i64 f2.col, .bool f2.val.1, .int .i64 f2.val.2, .slice f2.sv.A f2.sv.n f2.sv.c] 57) = y := ⟨_, rfl⟩
      have hb : Below x1.heap.size x1 y2 := by rw [← hy2]; exact balloc (Below.refl _ _) _
      have hyx := exs_lit2 Xx1.out Yx1.out #[.int .i64 f.kind, .int .i64 f.col, .bool f.val.1, .int .i64 f.val.2, .slice f.sv.A f.sv.n f.sv.c, .int .i64 f2.kind, .int .i64 f2.col, .bool f2.val.1, .int .i64 f2.val.2, .slice f2.sv.A f2.sv.n f2.sv.c] rfl (show b < x1.heap.size ∧ x1.heap.size ≠ e7 by omega) 57
      rw [hy2] at hyx
      have Yy2 := Lib.hid (ExT.make (k := 8) (c := 0) (v := (false, 0)) (cap := 2) hyx rfl (Nat.le_refl 2) (by unfold maxLen; omega))
      have By2 := Lib.hid (Bx1.out.below hb)
      have Ry2 := Lib.hid (Rx1.out.on hb)
      have Ey2 := Lib.hid (Ex1.out.on hb)
      have hzy2 := hb.size
      clear hyx hb
      go_simp
      try rw [hy2]
      have Hy2 := Lib.hid hy2
      clear hy2
      refine hK.out _ _ ?hSb (fun hHeld => ?_)
      case hSb => exact fun _ => SB.out _ Ey2.out
      replace hHeld := hHeld (by decide)
      clear hK K
      try simp only [Act.put, List.setIfInBounds_toArray, List.set_cons_zero, List.set_cons_succ]
      refine takeG (i := 4) (v := ?v7) rfl (by kernel_rfl) (by kernel_rfl) (by kernel_rfl) (by kernel_rfl) (fun _ _ _ h => h) (Or.inl ⟨by rfl, ?hy7⟩) (by assumption) ?_
      case hy7 => ((intro w' hSw; (try dsimp only at hSw); go_simp) <;> with_reducible rfl)
      try simp only [Act.put, List.setIfInBounds_toArray, List.set_cons_zero, List.set_cons_succ]
      refine wpAnyG_ready (rs := [5]) (by kernel_rfl) (by simp) ?_
      refine readyG rfl (fun K hK => ?_) AllReadyG.nil
      obtain ⟨n0, n1, n2, n3, n4⟩ := SB.out _ Ey2.out
      have f0 := Ey2.out.frozen 0
      have f1 := Ey2.out.frozen 1
      have f2' := Ey2.out.frozen 2
      have f3 := Ey2.out.frozen 3
      have f4 := Ey2.out.frozen 4
      have fl := Ey2.out.lt
      obtain ⟨y3, hy3⟩ : ∃ y, (((((y2.setCell ⟨e7, 0, none⟩ (.int .i64 8)).setCell ⟨e7, 1, none⟩ (.int .i64 0)).setCell ⟨e7, 2, none⟩ (.bool false)).setCell ⟨e7, 3, none⟩ (.int .i64 0)).setCell ⟨e7, 4, none⟩ (.slice (some ⟨x1.heap.size, 0, none⟩) 2 2)) = y := ⟨_, rfl⟩
      have h5 := set5 y2 e7 (.int .i64 8) (.int .i64 0) (.bool false) (.int .i64 0) (.slice (some ⟨x1.heap.size, 0, none⟩) 2 2)
      rw [hy3] at h5
      have Ey3 := Lib.hid (show Row y3 e7 57 (feC ⟨8, 0, (false, 0), ⟨some ⟨x1.heap.size, 0, none⟩, 2, 2⟩⟩) from by rw [← hy3]; exact ((((Ey2.out.set 0 _).set 1 _).set 2 _).set 3 _).set 4 _)
      have Xy3 := Lib.hid (Yy2.out.keep h5.size fun k hk hl => h5.block k hl (by omega))
      have By3 := Lib.hid (By2.out.trans (h5.mono (T := fun k => k = b ∨ k = e7) fun k _ hk => .inr hk))
      have Ry3 := Lib.hid (Ry2.out.apart h5 fun k hk => by omega)
      clear h5
      go_simp
      try rw [hy3]
      have Hy3 := Lib.hid hy3
      clear hy3 n0 n1 n2 n3 n4 f0 f1 f2' f3 f4 fl
      refine hK.out _ _ ?hSc (fun hHeld => ?_)
      case hSc => exact fun h => absurd rfl h
      clear hK K
      try simp only [Act.put, List.setIfInBounds_toArray, List.set_cons_zero, List.set_cons_succ]
      refine wpAnyG_done (by kernel_rfl) ?_ _
      have hwi : IntKind.i64.wrap ((i : Int) - 1) = ((i - 1 : Nat) : Int) := by rw [show ((i - 1 : Nat) : Int) = (i : Int) - 1 by omega]; exact IntWalk.i64_in _ (by omega)
      go_wp2
      go_roundg (i - 1)
      case measure => omega
      case rel => exact ⟨i - 1, _, _, by omega, rfl, by first | rfl | go_num, Ey3.out, Xy3.out, By3.out, Ry3.out.mono (by omega)⟩
    · have hi00 : ¬ (0 : Int) < (i : Int) := by omega
      go_upto_region 8 with fail
      obtain ⟨u, hu⟩ : ∃ u, wr.drew = u := ⟨_, rfl⟩
      have hnb : Only (fun k => k = b) w4 wr := HI.out.2.2.1.mono fun k hl hk => by omega
      have Bu := Lib.hid (show But b w4 u from hu ▸ hnb.drew)
      have Ru := Lib.hid (show Rd u b (0 + 17000 + 90 + 1 + (2 - i) * 90) from hu ▸ HI.out.2.2.2.on (Below.refl _ _).drew)
      have Xu := Lib.hid (show ExT (fun k => b < k ∧ k ≠ e7) u f x from hu ▸ HI.out.2.1.keep (Nat.le_refl _) fun _ _ _ => rfl)
      have Eu := Lib.hid (show Row u e7 57 (feC f) from hu ▸ HI.out.1.drew)
      have hn3 : w3.heap.size ≠ b := by omega
      have Gu := Lib.hid (show Row u w3.heap.size 32 [.int .i64 W3, .slice A3 svs.length c3] from Hbox.out.only Bu.out hn3)
      have r04 := (HR01.out.1.only Hb3.out (by omega)).on HB3.out
      have r14 := (HR01.out.2.only Hb3.out (by omega)).on HB3.out
      have Pu := Lib.hid (And.intro (r04.only Bu.out (by omega)) (r14.only Bu.out (by omega)))
      have Hu := Lib.hid hu
      have He := Lib.hid (show w3.heap.size ≠ w.heap.size ∧ w3.heap.size ≠ w.heap.size + 1 ∧ e7 ≠ w.heap.size ∧ e7 ≠ w.heap.size + 1 ∧ e7 ≠ b ∧ w.heap.size ≠ b ∧ w.heap.size + 1 ≠ b from ⟨by omega, by omega, by omega, by omega, by omega, by omega, by omega⟩)
      have SB := Lib.hid (fun (z : World) (h6 : Row z w3.heap.size 32 [.int .i64 W3, .slice A3 svs.length c3]) (hz : Row z e7 57 (feC f)) => show z.cell? ⟨w3.heap.size, 0, none⟩ = some (.int .i64 W3) ∧ z.cell? ⟨w3.heap.size, 1, none⟩ = some (.slice A3 svs.length c3) ∧ z.cell? ⟨e7, 0, none⟩ = some (.int .i64 f.kind) ∧ z.cell? ⟨e7, 1, none⟩ = some (.int .i64 f.col) ∧ z.cell? ⟨e7, 2, none⟩ = some (.bool f.val.1) ∧ z.cell? ⟨e7, 3, none⟩ = some (.int .i64 f.val.2) ∧ z.cell? ⟨e7, 4, none⟩ = some (.slice f.sv.A f.sv.n f.sv.c) from ⟨h6.cell 0, h6.cell 1, hz.cell 0, hz.cell 1, hz.cell 2, hz.cell 3, hz.cell 4⟩)
      clear hu hnb r04 r14
      refine wp_region_held_drew (S := (fun z => z.cell? ⟨w3.heap.size, 0, none⟩ = some (.int .i64 W3) ∧ z.cell? ⟨w3.heap.size, 1, none⟩ = some (.slice A3 svs.length c3) ∧ z.cell? ⟨e7, 0, none⟩ = some (.int .i64 f.kind) ∧ z.cell? ⟨e7, 1, none⟩ = some (.int .i64 f.col) ∧ z.cell? ⟨e7, 2, none⟩ = some (.bool f.val.1) ∧ z.cell? ⟨e7, 3, none⟩ = some (.int .i64 f.val.2) ∧ z.cell? ⟨e7, 4, none⟩ = some (.slice f.sv.A f.sv.n f.sv.c))) (by kernel_rfl) ?_ (fun hHeld => ?_)
      · rw [Hu.out]; exact SB.out _ Gu.out Eu.out
      rw [Hu.out] at hHeld ⊢
      refine takeL (i := 0) (v := ?v1) rfl (by kernel_rfl) (by kernel_rfl) (by kernel_rfl) (fun _ _ _ h => h) (Or.inl ⟨by rfl, ?hy1⟩) (by assumption) ?_
      case hy1 => ((intro w' hSw; (try dsimp only at hSw); go_simp) <;> with_reducible rfl)
      try simp only [Act.put, List.setIfInBounds_toArray, List.set_cons_zero, List.set_cons_succ]
      refine takeL (i := 1) (v := ?v2) rfl (by kernel_rfl) (by kernel_rfl) (by kernel_rfl) (fun _ _ _ h => h) (Or.inl ⟨by rfl, ?hy2⟩) (by assumption) ?_
      case hy2 => ((intro w' hSw; (try dsimp only at hSw); go_simp) <;> with_reducible rfl)
      try simp only [Act.put, List.setIfInBounds_toArray, List.set_cons_zero, List.set_cons_succ]
      refine takeL (i := 2) (v := ?v3) rfl (by kernel_rfl) (by kernel_rfl) (by kernel_rfl) (fun _ _ _ h => h) (Or.inl ⟨by rfl, ?hy3⟩) (by assumption) ?_
      case hy3 => ((intro w' hSw; (try dsimp only at hSw); go_simp) <;> with_reducible rfl)
      try simp only [Act.put, List.setIfInBounds_toArray, List.set_cons_zero, List.set_cons_succ]
      refine wpAnyH_ready (rs := [3]) (by kernel_rfl) (by simp) ?_
      refine readyL rfl (fun K hK => ?_) AllReadyH.nil
      have HP2 := Lib.hid (pick_ok b _ 2 u Ru.out (by omega))
      go_simp
      go_at_call 69
      refine HP2.out.mono ?_
      rintro e x1 ⟨col, rfl, _, hb2, _, hR2⟩
      have Bx := Lib.hid (Bu.out.trans hb2)
      have Ex := Lib.hid (Eu.out.only hb2 He.out.2.2.2.2.1)
      have Gx := Lib.hid (Gu.out.only hb2 hn3)
      have Px := Lib.hid (And.intro (Pu.out.1.only hb2 He.out.2.2.2.2.2.1) (Pu.out.2.only hb2 He.out.2.2.2.2.2.2))
      have Xx := Lib.hid (Xu.out.keep hb2.size fun k hk hl => hb2.block k hl (by omega))
      clear hb2 hR2
      refine hK.out _ _ ?hSa (fun hHeld => ?_)
      case hSa => exact SB.out _ Gx.out Ex.out
      clear hK K
      try simp only [Act.put, List.setIfInBounds_toArray, List.set_cons_zero, List.set_cons_succ]
      refine wpAnyH_ready (rs := [4]) (by kernel_rfl) (by simp) ?_
      refine readyL rfl (fun K hK => ?_) AllReadyH.nil
      obtain ⟨y2, hy2⟩ : ∃ y, ((x1.setCell ⟨w.heap.size, 0, none⟩ (.int .i64 W3)).setCell ⟨w.heap.size, 1, none⟩ (.slice A3 svs.length c3)) = y := ⟨_, rfl⟩
      have a0 : x1.cell? ⟨w.heap.size, 0, none⟩ = some (.int .i64 0) := Px.out.1.cell 0
      have a1 : x1.cell? ⟨w.heap.size, 1, none⟩ = some (.slice none 0 0) := Px.out.1.cell 1
      have a2 := Px.out.1.frozen 0
      have a3 := Px.out.1.frozen 1
      have a4 := Px.out.1.lt
      have P2 := Lib.hid (show Row y2 w.heap.size 32 [.int .i64 W3, .slice A3 svs.length c3] ∧ Row y2 (w.heap.size + 1) 57 [.int .i64 0, .int .i64 0, .bool false, .int .i64 0, .slice none 0 0] ∧ Row y2 w3.heap.size 32 [.int .i64 W3, .slice A3 svs.length c3] ∧ Row y2 e7 57 (feC f) from by
        rw [← hy2]
        exact ⟨(Px.out.1.set 0 _).set 1 _, (Px.out.2.far (by simp) _).far (by simp) _, (Gx.out.far He.out.1 _).far He.out.1 _, (Ex.out.far He.out.2.2.1 _).far He.out.2.2.1 _⟩)
      have O2 := Lib.hid (show Only (fun k => k = w.heap.size ∨ k = w.heap.size + 1) x1 y2 from by rw [← hy2]; exact ((Only.refl x1).set (p := ⟨w.heap.size, 0, none⟩) (.inl (.inl rfl)) _).set (p := ⟨w.heap.size, 1, none⟩) (.inl (.inl rfl)) _)
      go_simp
      try rw [hy2]
      have Hy2 := Lib.hid hy2
      clear hy2 a0 a1 a2 a3 a4
      refine hK.out _ _ ?hSb (fun hHeld => ?_)
      case hSb => exact SB.out _ P2.out.2.2.1 P2.out.2.2.2
      clear hK K
      try simp only [Act.put, List.setIfInBounds_toArray, List.set_cons_zero, List.set_cons_succ]
      refine wpAnyH_ready (rs := [5]) (by kernel_rfl) (by simp) ?_
      refine readyL rfl (fun K hK => ?_) AllReadyH.nil
      obtain ⟨y3, hy3⟩ : ∃ y, (((((y2.setCell ⟨w.heap.size + 1, 0, none⟩ (.int .i64 f.kind)).setCell ⟨w.heap.size + 1, 1, none⟩ (.int .i64 f.col)).setCell ⟨w.heap.size + 1, 2, none⟩ (.bool f.val.1)).setCell ⟨w.heap.size + 1, 3, none⟩ (.int .i64 f.val.2)).setCell ⟨w.heap.size + 1, 4, none⟩ (.slice f.sv.A f.sv.n f.sv.c)) = y := ⟨_, rfl⟩
      have h5 := set5 y2 (w.heap.size + 1) (.int .i64 f.kind) (.int .i64 f.col) (.bool f.val.1) (.int .i64 f.val.2) (.slice f.sv.A f.sv.n f.sv.c)
      rw [hy3] at h5
      have a0 := P2.out.2.1.cell 0
      have a1 := P2.out.2.1.cell 1
      have a2 := P2.out.2.1.cell 2
      have a3 := P2.out.2.1.cell 3
      have a4 := P2.out.2.1.cell 4
      have f0 := P2.out.2.1.frozen 0
      have f1 := P2.out.2.1.frozen 1
      have f2 := P2.out.2.1.frozen 2
      have f3 := P2.out.2.1.frozen 3
      have f4 := P2.out.2.1.frozen 4
      have fl := P2.out.2.1.lt
      have O3 := Lib.hid (O2.out.trans (h5.mono (T := fun k => k = w.heap.size ∨ k = w.heap.size + 1) fun k _ hk => .inr hk))
      have P3 := Lib.hid (show Row y3 w.heap.size 32 [.int .i64 W3, .slice A3 svs.length c3] ∧ Row y3 (w.heap.size + 1) 57 (feC f) ∧ Row y3 w3.heap.size 32 [.int .i64 W3, .slice A3 svs.length c3] ∧ Row y3 e7 57 (feC f) from
        ⟨P2.out.1.only h5 (by omega), by rw [← hy3]; exact ((((P2.out.2.1.set 0 _).set 1 _).set 2 _).set 3 _).set 4 _, P2.out.2.2.1.only h5 He.out.2.1, P2.out.2.2.2.only h5 He.out.2.2.2.1⟩)
      clear h5
      go_simp
      try rw [hy3]
      have Hy3 := Lib.hid hy3
      clear hy3 a0 a1 a2 a3 a4 f0 f1 f2 f3 f4 fl
      refine hK.out _ _ ?hSc (fun hHeld => ?_)
      case hSc => exact SB.out _ P3.out.2.2.1 P3.out.2.2.2
      clear hK K
      try simp only [Act.put, List.setIfInBounds_toArray, List.set_cons_zero, List.set_cons_succ]
      refine takeL (i := 6) (v := ?v4) rfl (by kernel_rfl) (by kernel_rfl) (by kernel_rfl) (fun _ _ _ h => h) (Or.inl ⟨by rfl, ?hy4⟩) (by assumption) ?_
      case hy4 => ((intro w' hSw; (try dsimp only at hSw); go_simp) <;> with_reducible rfl)
      try simp only [Act.put, List.setIfInBounds_toArray, List.set_cons_zero, List.set_cons_succ]
      refine wpAnyH_done (by kernel_rfl) ?_ _
      go_wp2
      have m0 := P3.out.1
      have m1 := P3.out.2.1
      refine bodyPost_ret (resDrIx (b := w.heap.size) (b' := w.heap.size + 1) _ rfl rfl rfl _ (m0.cell 0) (m0.cell 1) (m1.cell 0) (m1.cell 1) (m1.cell 2) (m1.cell 3) (m1.cell 4)) rfl ?_
      have d4 := (D3.out.on HB3.out).only Bx.out fun k (hk : k = b) => .inl (by omega)
      refine ⟨W3, _, svs, rows, f, x, col, rfl, (d4.only O3.out fun k hk => .inl (by omega)).low (Nat.zero_le _), (Xx.out.keep O3.out.size fun k hk hl => O3.out.block k hl (by omega)).mono fun _ _ _ => trivial, ?_⟩
      have g1 := Only.from_ H1.out rfl Hb3.out (fun k (hk : k = b) => by omega)
      have g2 := bch g1 HB3.out
      have g3 := Only.from_ g2 rfl Bx.out (fun k (hk : k = b) => by omega)
      exact Only.from_ g3 rfl O3.out (fun k hk => by omega)
end Go.Proofs.YtlhonhacehgooaaGreat
