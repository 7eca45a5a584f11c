/-
  Contract of DrawGroupBy. (Printed by wip/drg.py.)
-/
import Derived.Test.YtlhonhacehgooaaGreatProg
import Derived.Test.YtlhonhacehgooaaGreatZgMkg
import Derived.Test.YtlhonhacehgooaaGreatZgReg
import Derived.Test.YtlhonhacehgooaaGreatZgTis

namespace Go.Proofs.YtlhonhacehgooaaGreat
open Go.RowKit Go.Qo
set_option linter.unusedVariables false
set_option linter.unusedSimpArgs false

theorem ints4G (x y z u : Int) (w : World) (t : TypeId) : Sl 1 intC (w.alloc (.cells #[.int .i64 x, .int .i64 y, .int .i64 z, .int .i64 u] t)) (w.alloc (.cells #[.int .i64 x, .int .i64 y, .int .i64 z, .int .i64 u] t)).heap.size (some ⟨w.heap.size, 0, none⟩) [x, y, z, u] :=
  Row.sl' (t := t) intC_length ((Row.new w _ _).of rfl)
theorem ints7G (w : World) (t : TypeId) : Sl 1 intC (w.alloc (.cells #[.int .i64 1, .int .i64 2, .int .i64 3, .int .i64 4, .int .i64 5, .int .i64 0, .int .i64 6] t)) (w.alloc (.cells #[.int .i64 1, .int .i64 2, .int .i64 3, .int .i64 4, .int .i64 5, .int .i64 0, .int .i64 6] t)).heap.size (some ⟨w.heap.size, 0, none⟩) [1, 2, 3, 4, 5, 0, 6] :=
  Row.sl' (t := t) intC_length ((Row.new w _ _).of rfl)

/-- What DrawGroupBy draws. -/
def DrawnGb (w : World) (e : Ending) (w' : World) : Prop := ∃ (W : Int) (v : Value) (svs : List SV) (rows : List Row1) (cols : List Int) (A : Option Addr) (c : Nat) (kind col : Int),
  e = .returned (.tuple #[.agg #[.int .i64 W, v], .slice A cols.length c, .int .i64 kind, .int .i64 col]) ∧ DrTab 0 w' W v svs rows ∧ Sl 1 intC w' w'.heap.size A cols ∧ cols.length ≤ 4 ∧ (cols.length ≤ c ∧ c ≤ maxLen) ∧ Below w.heap.size w w'

set_option maxRecDepth 20000 in
set_option maxHeartbeats 4000000 in
theorem dDrawGroupBy_ok (A : Option Addr) (c : Nat) (xs : List Int) (w : World) (hn : xs.length ≤ c) (hc : c ≤ maxLen) (hg : ∀ x ∈ xs, 0 ≤ x ∧ x ≤ 255) (hs : Sl 1 byteC w w.heap.size A xs) :
    Calls Tryz.prog 28 #[.slice A xs.length c] w (DrawnGb w) := by
  have HB0 := Lib.hid (balloc (Below.refl w.heap.size w) (.cells #[.int .i64 0, .slice none 0 0] 32))
  have R0 := Lib.hid (Row.new w 32 #[.int .i64 0, .slice none 0 0])
  have HN := Lib.hid (newReader_ok A c xs _ hn hc hg (hs.on HB0.out))
  have HNS := HB0.out.size
  obtain ⟨b, hbe⟩ : ∃ b, (w.alloc (.cells #[.int .i64 0, .slice none 0 0] 32)).heap.size = b := ⟨_, rfl⟩
  rw [hbe] at HN
  have hbe' : w.heap.size + 1 = b := by rw [← hbe]; simp
  have Hbe := Lib.hid hbe
  clear hs hg hc hn hbe HNS
  go_enter Tryz.func28, Tryz.ntmps28
  go_wp2_with fail
  refine HN.out.mono ?_
  rintro e w1 ⟨rfl, hb1, hR1⟩
  rw [← Hbe.out] at hb1
  have HP := Lib.hid (pick_ok b 0 3 w1 hR1 (by omega))
  have H1 := Lib.hid (bch HB0.out hb1)
  have r1 := Lib.hid (R0.out.on hb1)
  clear hb1 hR1
  go_wp2_with fail
  refine HP.out.mono ?_
  rintro e w2 ⟨r0, rfl, hr0, hb2, hsz2, hR2⟩
  have q0 := hr0.1
  have q1 := hr0.2.1 (by omega)
  have H2 := Lib.hid (Only.from_ H1.out rfl hb2 (by intro i hi; omega))
  have r2 := Lib.hid (r1.out.only hb2 (by omega))
  obtain ⟨W, hW⟩ : ∃ W, 1 + r0 = W := ⟨_, rfl⟩
  have HT := Lib.hid (anyTable_ok b 1 W 7 w2 hR2 (by omega) (by omega) (by omega) (by omega) (by omega))
  have hW1 : 1 ≤ W := by omega
  have hW2 : W ≤ 3 := by omega
  have hbl2 := hR2.lt
  clear hb2 hR2 hr0
  go_wp2_with fail
  refine HT.out.mono ?_
  rintro e w3 ⟨W3, v3, svs, rows, rfl, hW3, hrl, hrw, how3, hrt3, hb3, hR3⟩
  obtain ⟨A3, c3, rfl, hc31, hc32, hs3⟩ := how3.shape svC_length
  have hz3 := hb3.size
  have HB3 := Lib.hid (balloc (Below.refl _ w3) (.cells #[.int .i64 W3, .slice A3 svs.length c3] 32))
  have HO3 := Lib.hid ((how3.low (show b + 1 ≤ w2.heap.size by omega)).on HB3.out)
  have HT3 := Lib.hid ((hrt3.low (show b + 1 ≤ w2.heap.size by omega)).on HB3.out)
  have H3 := Lib.hid ((Only.from_ H2.out rfl hb3 (by intro i hi; omega)).alloc (by have := H2.out.size; omega) (.cells #[.int .i64 W3, .slice A3 svs.length c3] 32))
  have r3 := Lib.hid ((r2.out.only hb3 (by omega)).alloc (.cells #[.int .i64 W3, .slice A3 svs.length c3] 32))
  have Hbox := Lib.hid (Row.new w3 32 #[.int .i64 W3, .slice A3 svs.length c3])
  have HL3 := Lib.hid (And.intro hrl (And.intro hrw hW3))
  have HR3 := Lib.hid (hR3.on HB3.out)
  clear how3 hrt3 hb3 hR3 hs3 hrw hrl hW3
  obtain ⟨w4, hw4⟩ : ∃ w4, w3.alloc (.cells #[.int .i64 W3, .slice A3 svs.length c3] 32) = w4 := ⟨_, rfl⟩
  have hz4 : w3.heap.size + 1 = w4.heap.size := by rw [← hw4]; simp
  rw [hw4] at HB3 HO3 HT3 H3 r3 Hbox HR3
  have Hw4 := Lib.hid hw4
  clear hw4
  go_upto_region 4 with fail
  rw [Hw4.out]
  have hne3 : w3.heap.size ≠ b := by omega
  have hl34 := Hbox.out.lt
  have D4 := Lib.hid (show DrTab (b + 1) w4 W3 (.slice A3 svs.length c3) svs rows from ⟨HL3.out.2.2, by have := HL3.out.1; simp at this; omega, HL3.out.2.1, HO3.out, HT3.out⟩)
  have hwm : IntKind.i64.wrap (W - 1) = W - 1 := IntWalk.i64_in _ (by omega)
  have ENDS := Lib.hid (fun (z : World) (hz : But b w4 z) => show z.cell? ⟨w.heap.size, 0, none⟩ = some (.int .i64 0) ∧ z.cell? ⟨w.heap.size, 1, none⟩ = some (.slice none 0 0) ∧ z.frozen? ⟨w.heap.size, 0, none⟩ = false ∧ z.frozen? ⟨w.heap.size, 1, none⟩ = false ∧ w.heap.size < z.heap.size from
    have h := r3.out.only hz (show w.heap.size ≠ b by omega); ⟨h.cell 0, h.cell 1, h.frozen 0, h.frozen 1, h.lt⟩)
  have BS := Lib.hid (fun (z : World) (hz : But b w4 z) => show z.cell? ⟨w3.heap.size, 0, none⟩ = some (.int .i64 W3) ∧ z.cell? ⟨w3.heap.size, 1, none⟩ = some (.slice A3 svs.length c3) from ⟨(Hbox.out.only hz hne3).cell 0, (Hbox.out.only hz hne3).cell 1⟩)
  have SETS := Lib.hid (fun (z : World) => show Only (fun i => i = w.heap.size) z ((z.setCell ⟨w.heap.size, 0, none⟩ (.int .i64 W3)).setCell ⟨w.heap.size, 1, none⟩ (.slice A3 svs.length c3)) from
    (Only.set (S := fun i => i = w.heap.size) (p := ⟨w.heap.size, 0, none⟩) (Only.refl z) (.inl rfl) (.int .i64 W3)).set (p := ⟨w.heap.size, 1, none⟩) (.inl rfl) (.slice A3 svs.length c3))
  have hnw : w3.heap.size ≠ w.heap.size := by omega
  have SF := Lib.hid (fun (z : World) (hz : But b w4 z) => show ((z.setCell ⟨w.heap.size, 0, none⟩ (.int .i64 W3)).setCell ⟨w.heap.size, 1, none⟩ (.slice A3 svs.length c3)).cell? ⟨w3.heap.size, 0, none⟩ = some (.int .i64 W3) ∧ ((z.setCell ⟨w.heap.size, 0, none⟩ (.int .i64 W3)).setCell ⟨w.heap.size, 1, none⟩ (.slice A3 svs.length c3)).cell? ⟨w3.heap.size, 1, none⟩ = some (.slice A3 svs.length c3) from
    have h := (Hbox.out.only hz hne3).only (SETS.out z) hnw; ⟨h.cell 0, h.cell 1⟩)
  have hwz : w.heap.size < w4.heap.size := by have := r3.out.lt; exact this
  have FIN := Lib.hid (fun (z : World) (hz : But b w4 z) (vc : Value) (cs : List Int) (ho : Ow w4.heap.size 3 1 intC z vc cs) => show DrTab 0 ((z.setCell ⟨w.heap.size, 0, none⟩ (.int .i64 W3)).setCell ⟨w.heap.size, 1, none⟩ (.slice A3 svs.length c3)) W3 (.slice A3 svs.length c3) svs rows ∧ Below w.heap.size w ((z.setCell ⟨w.heap.size, 0, none⟩ (.int .i64 W3)).setCell ⟨w.heap.size, 1, none⟩ (.slice A3 svs.length c3)) ∧ Ow w4.heap.size 3 1 intC ((z.setCell ⟨w.heap.size, 0, none⟩ (.int .i64 W3)).setCell ⟨w.heap.size, 1, none⟩ (.slice A3 svs.length c3)) vc cs from
    ⟨((D4.out.only hz fun k hk => .inl (by omega)).only (SETS.out z) fun k hk => .inl (by omega)).low (Nat.zero_le _), ((Only.from_ H3.out rfl hz (by intro i hi; omega)).setCell (p := ⟨w.heap.size, 0, none⟩) (Nat.le_refl _) _).setCell (p := ⟨w.heap.size, 1, none⟩) (Nat.le_refl _) _,
     ho.only (SETS.out z) fun k hk => .inl (by omega)⟩)
  have KO1 := Lib.hid (fun (z : World) (p : Nat) (hz : Rd z b p) (hp : p ≤ 20000) (A : Option Addr) (hs : Sl 1 intC z z.heap.size A [0, W - 1, 0, W]) (hA : ∀ a, A = some a → a.block ≠ b) => one_ok b p A 4 [0, W - 1, 0, W] z hz (by omega) (by simp) (by simp) hs hA)
  have KO2 := Lib.hid (fun (z : World) (p : Nat) (hz : Rd z b p) (hp : p ≤ 20000) (A : Option Addr) (hs : Sl 1 intC z z.heap.size A [1, 2, 3, 4, 5, 0, 6]) (hA : ∀ a, A = some a → a.block ≠ b) => one_ok b p A 7 [1, 2, 3, 4, 5, 0, 6] z hz (by omega) (by simp) (by simp) hs hA)
  have hbw4 : b < w4.heap.size := by have := HR3.out.lt; exact this
  clear hl34
  obtain ⟨W5, hW5⟩ : ∃ z, w4.alloc (.cells #[] 3) = z := ⟨_, rfl⟩
  have b5 : Below w4.heap.size w4 W5 := by rw [← hW5]; exact balloc (Below.refl _ _) _
  have HO5 := Lib.hid (show Ow w4.heap.size 3 1 intC W5 (.slice (some ⟨w4.heap.size, 0, none⟩) 0 0) ([] : List Int) by rw [← hW5]; exact Ow.lit (xs := ([] : List Int)) rfl rfl (Nat.le_refl _) (by decide))
  have HR5 := Lib.hid (HR3.out.on b5)
  have HB5 := Lib.hid (show But b w4 W5 from only_below b5)
  have HW5 := Lib.hid hW5
  clear hW5 b5
  go_upto_region 5 with fail
  rw [HW5.out]
  go_wp2
  go_loopg [9, 10] (W.toNat) (fun g v iv wr => ∃ (cs : List Int) (i : Nat), g = W.toNat - i ∧ iv = .int .i64 i ∧ (i : Int) ≤ W ∧ cs.length ≤ i ∧ Ow w4.heap.size 3 1 intC wr v cs ∧ But b w4 wr ∧ Rd wr b (1 + 17000 + i))
  case atStart => exact ⟨[], 0, by omega, rfl, by omega, by simp, HO5.out, HB5.out, HR5.out⟩
  case round =>
    obtain ⟨cs, i, rfl, rfl, hiW, hcl, how, hb, hR⟩ := hrel
    have HO := Lib.hid how
    have HB := Lib.hid hb
    have HRd := Lib.hid hR
    have hsz := hb.size
    clear how hb hR
    by_cases hlt : (i : Int) < W
    · go_wp2_with fail
      refine (pick_ok b _ 2 wr HRd.out (by omega)).mono ?_
      rintro e w6 ⟨k6, rfl, hk6, hb6, hsz6, hR6⟩
      have HB6 := Lib.hid (HB.out.trans hb6)
      have HO6' := Lib.hid (HO.out.only hb6 (fun j (hj : j = b) => .inl (by omega)))
      have HR6' := Lib.hid hR6
      by_cases hk0 : k6 = 0
      · subst hk0
        have HO6 := Lib.hid (HO6'.out.on (balloc (Below.refl _ _) (.cells #[.int .i64 i] 3)))
        have HR6 := Lib.hid (hR6.on (balloc (Below.refl _ _) (.cells #[.int .i64 i] 3)))
        have HS6 := Lib.hid (Row.sl' (w := w6.alloc (.cells #[.int .i64 i] 3)) (t := 3) (xs := [(i : Int)]) intC_length ((Row.new w6 _ _).of rfl))
        have hsz7 : w4.heap.size ≤ (w6.alloc (.cells #[.int .i64 i] 3)).heap.size := by have := HB6.out.size; simp; omega
        clear hk6 hb6 hsz6 hR6
        go_wp2_with (at_builtin; refine wpList_app rfl (.tmp 29) (.tmp 31) 23 rfl w4.heap.size 3 _ 1 8 intC Tryz.underlying23 zeroIntT rfl (by decide) (by decide) intC_length intC_one _ cs rfl HO6.out (some ⟨w6.heap.size, 0, none⟩) 1 1 [(i : Int)] rfl rfl HS6.out (by simp; omega) hsz7 ?_; intro v' w' hown hgr)
        go_roundg (W.toNat - (i + 1))
        case measure => omega
        case rel =>
          refine ⟨cs ++ [(i : Int)], i + 1, rfl, by go_num, by omega, by simp; omega, hown, ?_, ?_⟩
          · exact (HB6.out.alloc _).grown hgr fun k hk => .inr (HO6.out.ty k hk).1
          · exact (HR6.out.grown hgr fun k hk => by have := (HO6.out.ty k hk).1; omega).mono (by omega)
      · have hk0' : (k6 == 0) = false := by simp [hk0]
        have HK0 := Lib.hid hk0
        clear hk6 hb6 hsz6 hR6
        go_wp2
        go_roundg (W.toNat - (i + 1))
        case measure => omega
        case rel => exact ⟨cs, i + 1, rfl, by go_num, by omega, by omega, HO6'.out, HB6.out, HR6'.out.mono (by omega)⟩
    · have hi3 : i ≤ 3 := by omega
      go_upto_region 10 with fail
      go_cut [9, 35] (fun v t wx => ∃ r : Bool, t = .bool r ∧ Ow w4.heap.size 3 1 intC wx v cs ∧ But b w4 wx ∧ Rd wx b (1 + 17000 + 5))
      case first =>
        go_wp2_with fail
        refine (pick_ok b _ 16 wr HRd.out (by omega)).mono ?_
        rintro e w6 ⟨k6, rfl, hk6, hb6, hsz6, hR6⟩
        have HB6 := Lib.hid (HB.out.trans hb6)
        have HO6' := Lib.hid (HO.out.only hb6 (fun j (hj : j = b) => .inl (by omega)))
        have HR6' := Lib.hid hR6
        clear hk6 hb6 hsz6 hR6
        go_wp2
        go_meet
        exact ⟨_, rfl, HO6'.out, HB6.out, HR6'.out.mono (by omega)⟩
      case rest =>
      obtain ⟨r, rfl, how0, hb0, hR0⟩ := hcut
      obtain ⟨y, hy⟩ : ∃ y, y = wc := ⟨_, rfl⟩
      subst hy
      have HB6 := Lib.hid hb0
      have HO6' := Lib.hid how0
      have HR6' := Lib.hid hR0
      have hy0 := hb0.size
      clear how0 hb0 hR0
      go_upto_if 35 with fail
      go_cut [9] (fun v wx => ∃ (ds : List Int), Ow w4.heap.size 3 1 intC wx v ds ∧ ds.length ≤ 4 ∧ But b w4 wx ∧ Rd wx b (1 + 17000 + 10))
      case first =>
        cases r
        · go_wp2
          go_meet
          exact ⟨cs, HO6'.out, by omega, HB6.out, HR6'.out.mono (by omega)⟩
        · have HO6 := Lib.hid (HO6'.out.on (balloc (Below.refl _ _) (.cells #[.int .i64 0] 3)))
          have HR6 := Lib.hid (HR6'.out.on (balloc (Below.refl _ _) (.cells #[.int .i64 0] 3)))
          have HS6 := Lib.hid (Row.sl' (w := y.alloc (.cells #[.int .i64 0] 3)) (t := 3) (xs := [(0 : Int)]) intC_length ((Row.new y _ _).of rfl))
          have hsz7 : w4.heap.size ≤ (y.alloc (.cells #[.int .i64 0] 3)).heap.size := by simp; omega
          go_wp2_with (at_builtin; refine wpList_app rfl (.tmp 36) (.tmp 37) 23 rfl w4.heap.size 3 _ 1 8 intC Tryz.underlying23 zeroIntT rfl (by decide) (by decide) intC_length intC_one _ cs rfl HO6.out (some ⟨y.heap.size, 0, none⟩) 1 1 [(0 : Int)] rfl rfl HS6.out (by simp; omega) hsz7 ?_; intro v' w' hown hgr)
          go_meet
          exact ⟨cs ++ [0], hown, by simp; omega, (HB6.out.alloc _).grown hgr fun k hk => .inr (HO6.out.ty k hk).1, (HR6.out.grown hgr fun k hk => by have := (HO6.out.ty k hk).1; omega).mono (by omega)⟩
      case rest =>
      obtain ⟨ds, how, hdl, hb, hR⟩ := hcut
      obtain ⟨Ad, cd, rfl, _, _, _⟩ := how.shape intC_length
      obtain ⟨z, hz⟩ : ∃ z, z = wc := ⟨_, rfl⟩
      subst hz
      have HOz := Lib.hid how
      have HBz := Lib.hid hb
      have HRz := Lib.hid hR
      have hzz := hb.size
      clear how hb hR HO HB HRd hsz HB6 HO6' HR6' hy0
      have HRa := Lib.hid (HRz.out.on (balloc (Below.refl _ _) (.cells #[.int .i64 1, .int .i64 2, .int .i64 3, .int .i64 4, .int .i64 5, .int .i64 0, .int .i64 6] 3)))
      have HOa := Lib.hid (HOz.out.on (balloc (Below.refl _ _) (.cells #[.int .i64 1, .int .i64 2, .int .i64 3, .int .i64 4, .int .i64 5, .int .i64 0, .int .i64 6] 3)))
      go_wp2_with fail
      refine (KO2.out _ _ HRa.out (by omega) _ (ints7G z 3) (by rintro a ha; cases ha; show z.heap.size ≠ b; omega)).mono ?_
      rintro e w8 ⟨kind, rfl, _, hb8, _, hR8⟩
      have HB8 := Lib.hid ((HBz.out.trans (only_below (balloc (Below.refl _ _) _))).trans hb8)
      have HO8 := Lib.hid (HOa.out.only hb8 (fun j (hj : j = b) => .inl (by omega)))
      have HR8 := Lib.hid hR8
      clear hb8 hR8
      go_upto_region 13 with fail
      obtain ⟨u, hu⟩ : ∃ u, w8.drew = u := ⟨_, rfl⟩
      have Bu : Hid (But b w4 u) := Lib.hid (hu ▸ HB8.out.drew)
      have Ru : Hid (Rd u b (1 + 17000 + 10 + 1)) := Lib.hid (hu ▸ HR8.out.on (Below.refl _ _).drew)
      have Ou : Hid (Ow w4.heap.size 3 1 intC u (.slice Ad ds.length cd) ds) := Lib.hid (hu ▸ HO8.out.on (Below.refl _ _).drew)
      have Hu := Lib.hid hu
      clear hu
      refine wp_region_held_drew (S := (fun z => z.cell? ⟨w3.heap.size, 0, none⟩ = some (.int .i64 W3) ∧ z.cell? ⟨w3.heap.size, 1, none⟩ = some (.slice A3 svs.length c3))) (by kernel_rfl) ?_ (fun hHeld => ?_)
      · exact BS.out _ HB8.out.drew
      rw [Hu.out] at hHeld ⊢
      refine takeL (i := 0) (v := ?v1) rfl (by kernel_rfl) (by kernel_rfl) (by kernel_rfl) (fun _ _ _ h => h) (Or.inl ⟨by rfl, ?hy1⟩) (by assumption) ?_
      case hy1 => ((intro w' hSw; (try dsimp only at hSw); go_simp) <;> with_reducible rfl)
      try simp only [Act.put, List.setIfInBounds_toArray, List.set_cons_zero, List.set_cons_succ]
      refine takeL (i := 1) (v := ?v2) rfl (by kernel_rfl) (by kernel_rfl) (by kernel_rfl) (fun _ _ _ h => h) (Or.inl ⟨by rfl, ?hy2⟩) (by assumption) ?_
      case hy2 => ((intro w' hSw; (try dsimp only at hSw); go_simp) <;> with_reducible rfl)
      try simp only [Act.put, List.setIfInBounds_toArray, List.set_cons_zero, List.set_cons_succ]
      refine takeL (i := 2) (v := ?v3) rfl (by kernel_rfl) (by kernel_rfl) (by kernel_rfl) (fun _ _ _ h => h) (Or.inl ⟨by rfl, ?hy3⟩) (by assumption) ?_
      case hy3 => ((intro w' hSw; (try dsimp only at hSw); go_simp) <;> with_reducible rfl)
      try simp only [Act.put, List.setIfInBounds_toArray, List.set_cons_zero, List.set_cons_succ]
      refine takeL (i := 3) (v := ?v4) rfl (by kernel_rfl) (by kernel_rfl) (by kernel_rfl) (fun _ _ _ h => h) (Or.inl ⟨by rfl, ?hy4⟩) (by assumption) ?_
      case hy4 => ((intro w' hSw; (try dsimp only at hSw); go_simp) <;> with_reducible rfl)
      try simp only [Act.put, List.setIfInBounds_toArray, List.set_cons_zero, List.set_cons_succ]
      refine takeL (i := 4) (v := ?v5) rfl (by kernel_rfl) (by kernel_rfl) (by kernel_rfl) (fun _ _ _ h => h) (Or.inl ⟨by rfl, ?hy5⟩) (by assumption) ?_
      case hy5 => ((intro w' hSw; (try dsimp only at hSw); go_simp) <;> with_reducible rfl)
      try simp only [Act.put, List.setIfInBounds_toArray, List.set_cons_zero, List.set_cons_succ]
      refine takeL (i := 5) (v := ?v6) rfl (by kernel_rfl) (by kernel_rfl) (by kernel_rfl) (fun _ _ _ h => h) (Or.inl ⟨by rfl, ?hy6⟩) (by assumption) ?_
      case hy6 => ((intro w' hSw; (try dsimp only at hSw); go_simp) <;> with_reducible rfl)
      try simp only [Act.put, List.setIfInBounds_toArray, List.set_cons_zero, List.set_cons_succ]
      refine takeL (i := 6) (v := ?v7) rfl (by kernel_rfl) (by kernel_rfl) (by kernel_rfl) (fun _ _ _ h => h) (Or.inl ⟨by rfl, ?hy7⟩) (by assumption) ?_
      case hy7 => ((intro w' hSw; (try dsimp only at hSw); go_simp) <;> with_reducible rfl)
      try simp only [Act.put, List.setIfInBounds_toArray, List.set_cons_zero, List.set_cons_succ]
      refine wpAnyH_ready (rs := [7]) (by kernel_rfl) (by simp) ?_
      refine readyL rfl (fun K hK => ?_) AllReadyH.nil
      obtain ⟨x1, hx1⟩ : ∃ x, u.alloc (.cells #[.int .i64 0, .int .i64 (W - 1), .int .i64 0, .int .i64 W] 3) = x := ⟨_, rfl⟩
      have hbx1 : Below u.heap.size u x1 := by rw [← hx1]; exact balloc (Below.refl _ _) _
      have hsx1 := ints4G 0 (W - 1) 0 W u 3
      rw [hx1] at hsx1
      have Bx1 : Hid (But b w4 x1) := Lib.hid (Bu.out.trans (only_below hbx1))
      have Rx1 := Lib.hid (Ru.out.on hbx1)
      have Px1 := Lib.hid hsx1
      have NPx1 : u.heap.size ≠ b := by have := Ru.out.lt; omega
      go_simp
      try rw [hx1]
      have Hwx1 := Lib.hid hx1
      clear hx1 hbx1 hsx1
      refine hK.out _ _ ?hS8 (fun hHeld => ?_)
      case hS8 => exact BS.out _ Bx1.out
      clear hK K
      try simp only [Act.put, List.setIfInBounds_toArray, List.set_cons_zero, List.set_cons_succ]
      refine wpAnyH_ready (rs := [8]) (by kernel_rfl) (by simp) ?_
      refine readyL rfl (fun K hK => ?_) AllReadyH.nil
      go_simp
      go_at_call 71
      refine (KO1.out x1 _ Rx1.out (by omega) _ Px1.out (by rintro a ha; cases ha; exact NPx1)).mono ?_
      rintro e x2 ⟨col, rfl, _, hbx2, _, hRx2⟩
      have Bx2 : Hid (But b w4 x2) := Lib.hid (Bx1.out.trans hbx2)
      have Rx2 := Lib.hid hRx2
      have hbx2' := hbx2
      clear hbx2 hRx2
      refine hK.out _ _ ?hS9 (fun hHeld => ?_)
      case hS9 => exact BS.out _ Bx2.out
      clear hK K
      try simp only [Act.put, List.setIfInBounds_toArray, List.set_cons_zero, List.set_cons_succ]
      refine wpAnyH_ready (rs := [9]) (by kernel_rfl) (by simp) ?_
      refine readyL rfl (fun K hK => ?_) AllReadyH.nil
      obtain ⟨a0, a1, f0, f1, l0⟩ := ENDS.out _ Bx2.out
      go_simp
      refine hK.out _ _ ?hS10 (fun hHeld => ?_)
      case hS10 => exact SF.out _ Bx2.out
      clear hK K
      try simp only [Act.put, List.setIfInBounds_toArray, List.set_cons_zero, List.set_cons_succ]
      refine takeL (i := 10) (v := ?v11) rfl (by kernel_rfl) (by kernel_rfl) (by kernel_rfl) (fun _ _ _ h => h) (Or.inl ⟨by rfl, ?hy11⟩) (by assumption) ?_
      case hy11 => ((intro w' hSw; (try dsimp only at hSw); go_simp) <;> with_reducible rfl)
      try simp only [Act.put, List.setIfInBounds_toArray, List.set_cons_zero, List.set_cons_succ]
      refine takeL (i := 11) (v := ?v12) rfl (by kernel_rfl) (by kernel_rfl) (by kernel_rfl) (fun _ _ _ h => h) (Or.inl ⟨by rfl, ?hy12⟩) (by assumption) ?_
      case hy12 => ((intro w' hSw; (try dsimp only at hSw); go_simp) <;> with_reducible rfl)
      try simp only [Act.put, List.setIfInBounds_toArray, List.set_cons_zero, List.set_cons_succ]
      refine takeL (i := 12) (v := ?v13) rfl (by kernel_rfl) (by kernel_rfl) (by kernel_rfl) (fun _ _ _ h => h) (Or.inl ⟨by rfl, ?hy13⟩) (by assumption) ?_
      case hy13 => ((intro w' hSw; (try dsimp only at hSw); go_simp) <;> with_reducible rfl)
      try simp only [Act.put, List.setIfInBounds_toArray, List.set_cons_zero, List.set_cons_succ]
      refine wpAnyH_done (by kernel_rfl) ?_ _
      go_wp2
      refine bodyPost_ret (v := .tuple #[.agg #[.int .i64 W3, .slice A3 svs.length c3], .slice Ad ds.length cd, .int .i64 kind, .int .i64 col]) (by simp [results, Tryz.results28, go_sem, a0, a1, f0, f1, l0]) rfl ?_
      obtain ⟨g1, g2, g3⟩ := FIN.out _ Bx2.out _ _ (((Ou.out.on (show Below u.heap.size u x1 by rw [← Hwx1.out]; exact balloc (Below.refl _ _) _)).only hbx2' (fun j (hj : j = b) => .inl (by omega))))
      exact ⟨W3, _, svs, rows, ds, Ad, cd, kind, col, rfl, g1, (g3.shape intC_length).elim fun _ h => by obtain ⟨_, h1, _, _, h4⟩ := h; cases h1; exact h4.sl, hdl, (g3.shape intC_length).elim fun _ h => by obtain ⟨_, h1, h2, h3, _⟩ := h; cases h1; exact ⟨h2, h3⟩, g2⟩
end Go.Proofs.YtlhonhacehgooaaGreat
