/-
  Contract of DrawNotIn.
-/
import Derived.Test.YtldndapcbgaliaaProg
import Derived.Test.YtldndapcbgaliaaDraJ
import Derived.Test.YtldndapcbgaliaaTof
import Derived.BigQuiet
namespace Go.Proofs.Ytldndapcbgaliaa
open Go.RowKit Go.Qo
set_option linter.unusedVariables false
set_option linter.unusedSimpArgs false

theorem resDNotIn {b b' : Nat} {v0 v1 v2 v3 k0 k1 : Value} (tmps : Array Value) (hp : tmps.getD 2 undef = .pointer (some ⟨b, 0, none⟩)) (hp' : tmps.getD 3 undef = .pointer (some ⟨b', 0, none⟩)) (hk : tmps.getD 4 undef = k0) (hk' : tmps.getD 5 undef = k1) (w : World) (c0 : w.cell? ⟨b, 0, none⟩ = some v0) (c1 : w.cell? ⟨b, 1, none⟩ = some v1) (c2 : w.cell? ⟨b', 0, none⟩ = some v2) (c3 : w.cell? ⟨b', 1, none⟩ = some v3) :
    (results Try.f19 tmps).run Try.prog w = .ok (.tuple #[.agg #[v0, v1], .agg #[v2, v3], k0, k1]) w := by
  simp only [Array.getD_eq_getD_getElem?] at hp hp' hk hk'
  simp [results, Try.results19, go_sem, hp, hp', hk, hk', c0, c1, c2, c3]

set_option maxRecDepth 20000 in
set_option maxHeartbeats 4000000 in
theorem dDrawNotIn_ok (A : Option Addr) (c : Nat) (xs : List Int) (w : World) (hn : xs.length ≤ c) (hc : c ≤ maxLen) (hg : ∀ x ∈ xs, 0 ≤ x ∧ x ≤ 255) (hs : Sl 1 byteC w w.heap.size A xs) :
    Calls Try.prog 19 #[.slice A xs.length c] w fun e w' => ∃ W1 v1 W2 v2 ca cb, e = .returned (.tuple #[.agg #[.int .i64 W1, v1], .agg #[.int .i64 W2, v2], .int .i64 ca, .int .i64 cb]) ∧ DrawnJ w W1 v1 W2 v2 ca cb w' := by
  obtain ⟨W0, hW0⟩ : ∃ z, (w.alloc (.cells #[.int .i64 0, .slice none 0 0] 25)).alloc (.cells #[.int .i64 0, .slice none 0 0] 25) = z := ⟨_, rfl⟩
  have B0 : Below w.heap.size w W0 := by rw [← hW0]; exact balloc (balloc (Below.refl _ _) _) _
  have r1 : Row W0 w.heap.size 25 [.int .i64 0, .slice none 0 0] := by rw [← hW0]; exact Row.first _ _ _ _
  have r2 : Row W0 (w.heap.size + 1) 25 [.int .i64 0, .slice none 0 0] := by rw [← hW0]; exact Row.second _ _ _ _
  have HW := Lib.hid hW0
  have HB0 := Lib.hid (And.intro B0 (And.intro r1 r2))
  have HN := newReader_ok A c xs W0 hn hc hg (hs.on B0)
  obtain ⟨b, hbe⟩ : ∃ b, W0.heap.size = b := ⟨_, rfl⟩
  have hbe' : w.heap.size + 2 ≤ b := by have := r2.lt; omega
  rw [hbe] at HN
  have HN := Lib.hid HN
  have Hbe := Lib.hid hbe
  clear hs hg hc hn hbe B0 r1 r2 hW0
  go_enter Try.func19, Try.ntmps19
  go_upto_region 1 with fail
  rw [HW.out]
  go_wp2_with fail
  refine HN.out.mono ?_
  rintro e w1 ⟨rfl, hb1, hR1⟩
  have hb1 : Below W0.heap.size W0 w1 := by rw [Hbe.out]; exact hb1
  have HT := Lib.hid (joined_ok b 0 w1 hR1 (by omega))
  have H1 := Lib.hid (bch HB0.out.1 hb1)
  have R1 := Lib.hid (And.intro (HB0.out.2.1.on hb1) (HB0.out.2.2.on hb1))
  have hl1 := hR1.lt
  clear hb1 hR1
  go_wp2_with fail
  refine HT.out.mono ?_
  rintro e w2 ⟨W1, v1, svs1, rows1, W2, v2, svs2, rows2, ca, cb, rfl, ha0, ha1, hcb0, hcb1, hd1, hd2, hb2, hR2⟩
  obtain ⟨A1, c1, rfl, _, _, _⟩ := hd1.2.2.2.1.shape svC_length
  obtain ⟨A2, c2, rfl, _, _, _⟩ := hd2.2.2.2.1.shape svC_length
  have r1 := R1.out.1.only hb2 (by omega)
  have r2 := R1.out.2.only hb2 (by omega)
  have hl2 := hR2.lt
  have hz2 := H1.out.size
  have H2 := Lib.hid (show Below w.heap.size w w2 from Only.from_ H1.out rfl hb2 (by intro i hi; omega))
  have hsl2 : svs2.length = rows2.length := hd2.2.2.2.2.1
  obtain ⟨W4, hW4⟩ : ∃ z, (w2.alloc (.cells #[.int .i64 W1, .slice A1 svs1.length c1] 25)).alloc (.cells #[.int .i64 W2, .slice A2 svs2.length c2] 25) = z := ⟨_, rfl⟩
  have hb4 : Below w2.heap.size w2 W4 := by rw [← hW4]; exact balloc (balloc (Below.refl _ _) _) _
  have r3 : Row W4 w2.heap.size 25 [.int .i64 W1, .slice A1 svs1.length c1] := by rw [← hW4]; exact Row.first _ _ _ _
  have r4 : Row W4 (w2.heap.size + 1) 25 [.int .i64 W2, .slice A2 svs2.length c2] := by rw [← hW4]; exact Row.second _ _ _ _
  have HDD := Lib.hid (show DrTab w1.heap.size W4 W1 (.slice A1 svs1.length c1) svs1 rows1 ∧ DrTab w1.heap.size W4 W2 (.slice A2 svs2.length c2) svs2 rows2 from ⟨hd1.on hb4, hd2.on hb4⟩)
  have HR4 := Lib.hid (And.intro (r1.on hb4) (And.intro (r2.on hb4) (And.intro r3 r4)))
  have HP4 := Lib.hid (pick_ok b (0 + 80000) 2 W4 (hR2.on hb4) (by omega))
  have H4 := Lib.hid (bch H2.out hb4)
  have HW4 := Lib.hid hW4
  have HC := Lib.hid (And.intro ha0 (And.intro ha1 (And.intro hcb0 hcb1)))
  have HSL := Lib.hid hsl2
  clear hd1 hd2 hb2 hR2 r1 r2 r3 r4 hb4 hW4 hz2 ha0 ha1 hcb0 hcb1 hsl2
  go_upto_region 3 with fail
  rw [HW4.out]
  go_wp2_with fail
  refine HP4.out.mono ?_
  rintro e w5 ⟨r5, rfl, hr5, hb5, hsz5, hR5⟩
  have hz5 := hb5.size
  have hz4 := H4.out.size
  have H5 := Lib.hid (show Below w.heap.size w w5 from Only.from_ H4.out rfl hb5 (by intro i hi; omega))
  have HR5 := Lib.hid (show Row w5 w.heap.size 25 [.int .i64 0, .slice none 0 0] ∧ Row w5 (w.heap.size + 1) 25 [.int .i64 0, .slice none 0 0] ∧ Row w5 w2.heap.size 25 [.int .i64 W1, .slice A1 svs1.length c1] ∧ Row w5 (w2.heap.size + 1) 25 [.int .i64 W2, .slice A2 svs2.length c2] from
    ⟨HR4.out.1.only hb5 (by omega), HR4.out.2.1.only hb5 (by omega), HR4.out.2.2.1.only hb5 (by omega), HR4.out.2.2.2.only hb5 (by omega)⟩)
  have HD5 := Lib.hid (show DrTab 0 w5 W1 (.slice A1 svs1.length c1) svs1 rows1 ∧ DrTab 0 w5 W2 (.slice A2 svs2.length c2) svs2 rows2 from
    ⟨(HDD.out.1.only hb5 fun k hk => .inl (by omega)).low (Nat.zero_le _), (HDD.out.2.only hb5 fun k hk => .inl (by omega)).low (Nat.zero_le _)⟩)
  have hw2 : w.heap.size + 2 ≤ w2.heap.size := by omega
  have hl25 : w2.heap.size + 1 < w5.heap.size := HR5.out.2.2.2.lt
  clear hb5 hr5 hsz5 hR5
  have FIN : Hid (∀ (z : World) (V2 : Int) (u2 : Value) (s2 : List SV) (o2 : List Row1), Below w.heap.size w z → TyAt z w.heap.size 25 → TyAt z (w.heap.size + 1) 25 → DrTab 0 z W1 (.slice A1 svs1.length c1) svs1 rows1 → DrTab 0 z V2 u2 s2 o2 →
      ∀ (y : World), (y = (((z.setCell ⟨w.heap.size, 0, none⟩ (.int .i64 W1)).setCell ⟨w.heap.size, 1, none⟩ (.slice A1 svs1.length c1)).setCell ⟨w.heap.size + 1, 0, none⟩ (.int .i64 V2)).setCell ⟨w.heap.size + 1, 1, none⟩ u2 ∨ y = (((z.setCell ⟨w.heap.size + 1, 0, none⟩ (.int .i64 V2)).setCell ⟨w.heap.size + 1, 1, none⟩ u2).setCell ⟨w.heap.size, 0, none⟩ (.int .i64 W1)).setCell ⟨w.heap.size, 1, none⟩ (.slice A1 svs1.length c1)) →
        DrawnJ w W1 (.slice A1 svs1.length c1) V2 u2 ca cb y ∧ DrawnJ w W1 (.slice A1 svs1.length c1) V2 u2 ca cb y.drew) := Lib.hid (by
    intro z V2 u2 s2 o2 hb t1 t2 h1 h2 y hy
    have hS : Only (fun i => i = w.heap.size ∨ i = w.heap.size + 1) z y := by
      rcases hy with rfl | rfl
      · exact ((((Only.refl z).set (p := ⟨w.heap.size, 0, none⟩) (.inl (.inl rfl)) _).set (p := ⟨w.heap.size, 1, none⟩) (.inl (.inl rfl)) _).set (p := ⟨w.heap.size + 1, 0, none⟩) (.inl (.inr rfl)) _).set (p := ⟨w.heap.size + 1, 1, none⟩) (.inl (.inr rfl)) _
      · exact ((((Only.refl z).set (p := ⟨w.heap.size + 1, 0, none⟩) (.inl (.inr rfl)) _).set (p := ⟨w.heap.size + 1, 1, none⟩) (.inl (.inr rfl)) _).set (p := ⟨w.heap.size, 0, none⟩) (.inl (.inl rfl)) _).set (p := ⟨w.heap.size, 1, none⟩) (.inl (.inl rfl)) _
    have hk : ∀ k, (k = w.heap.size ∨ k = w.heap.size + 1) → TyAt z k 25 := by rintro k (rfl | rfl); exact t1; exact t2
    have hf : DrawnTT w W1 (.slice A1 svs1.length c1) V2 u2 y := ⟨svs1, rows1, s2, o2, h1.only hS fun k h => .inr (hk k h), h2.only hS fun k h => .inr (hk k h), Only.from_ hb rfl hS (by intro i hi; omega)⟩
    refine ⟨⟨HC.out.1, HC.out.2.1, HC.out.2.2.1, HC.out.2.2.2, hf⟩, ⟨HC.out.1, HC.out.2.1, HC.out.2.2.1, HC.out.2.2.2, ?_⟩⟩
    obtain ⟨a1, a2, a3, a4, g1, g2, g3⟩ := hf
    exact ⟨a1, a2, a3, a4, g1.on (Below.refl _ _).drew, g2.on (Below.refl _ _).drew, g3.drew⟩)
  have x1 : ¬ (w2.heap.size = w.heap.size) := by omega
  have x2 : ¬ (w2.heap.size = w.heap.size + 1) := by omega
  have x3 : ¬ (w2.heap.size + 1 = w.heap.size) := by omega
  have x4 : ¬ (w2.heap.size + 1 = w.heap.size + 1) := by omega
  have x5 : ¬ (w.heap.size = w2.heap.size) := by omega
  have x6 : ¬ (w.heap.size + 1 = w2.heap.size) := by omega
  have x7 : ¬ (w.heap.size = w2.heap.size + 1) := by omega
  have x8 : ¬ (w.heap.size = w2.heap.size) := by omega
  have s0 : w5.cell? ⟨w2.heap.size, 0, none⟩ = some (.int .i64 W1) := HR5.out.2.2.1.cell 0
  have s1 : w5.cell? ⟨w2.heap.size, 1, none⟩ = some (.slice A1 svs1.length c1) := HR5.out.2.2.1.cell 1
  have s2 : w5.cell? ⟨w2.heap.size + 1, 0, none⟩ = some (.int .i64 W2) := HR5.out.2.2.2.cell 0
  have s3 : w5.cell? ⟨w2.heap.size + 1, 1, none⟩ = some (.slice A2 svs2.length c2) := HR5.out.2.2.2.cell 1
  by_cases h0 : r5 = 0
  · subst h0
    obtain ⟨cj, hcj⟩ : ∃ n : Nat, cb = n := ⟨cb.toNat, by have := HC.out.2.2.1; omega⟩
    subst hcj
    have hcj16 : cj ≤ 16 := by have := HC.out.2.2.2; omega
    have hl16 : svs2.length ≤ 16 := by have := HD5.out.2.2.1; have := HSL.out; omega
    go_wp2
    go_loopg [11, 12] svs2.length (fun g v i wr => ∃ (k : Nat) (sv : List SV) (rs : List Row1), k ≤ svs2.length ∧ g = svs2.length - k ∧ i = .int .i64 k ∧ Ow w5.heap.size 41 1 svC wr v sv ∧ RowsT 40 2 valC 0 wr sv rs ∧ rs.length ≤ k ∧ (∀ r ∈ rs, r ∈ rows2) ∧ Below w5.heap.size w5 wr)
    case atStart => exact ⟨0, [], [], by omega, by omega, rfl, Ow.lit (w := w5) (lo := w5.heap.size) (e := 41) (enc := svC) (xs := ([] : List SV)) (cs := #[]) (sz := 1) rfl rfl (Nat.le_refl _) (by decide), RowsT.nil, by simp, by simp, balloc (Below.refl _ _) _⟩
    case round =>
      obtain ⟨k, sv, rs, hk, rfl, rfl, how, hrt, hrs, hmem, hb⟩ := hrel
      obtain ⟨Av, cv, rfl, hcv1, hcv2, hsv⟩ := how.shape svC_length
      have hsl := hrt.1
      have hsvl : sv.length ≤ 16 := by omega
      have HI := Lib.hid (And.intro how (And.intro hrt (And.intro hrs (And.intro hmem hb))))
      have HSV := Lib.hid (And.intro hsl (And.intro hsv (And.intro hcv1 hcv2)))
      have t0 : wr.cell? ⟨w2.heap.size + 1, 0, none⟩ = some (.int .i64 W2) := (HR5.out.2.2.2.on hb).cell 0
      have t1 : wr.cell? ⟨w2.heap.size + 1, 1, none⟩ = some (.slice A2 svs2.length c2) := (HR5.out.2.2.2.on hb).cell 1
      clear how hrt hrs hmem hsl hsv hcv1 hcv2
      by_cases hlt : k < svs2.length
      · obtain ⟨s, hsk⟩ : ∃ s, svs2[k]? = some s := ⟨_, List.getElem?_eq_getElem hlt⟩
        obtain ⟨x, hx⟩ : ∃ x, rows2[k]? = some x := ⟨_, List.getElem?_eq_getElem (by have := HSL.out; omega)⟩
        have hd2 := HD5.out.2.on hb
        obtain ⟨hsn, hsc, hscm, hsT⟩ := hd2.2.2.2.2.2 k s x hsk hx
        obtain ⟨b2, off2, hA2, hB2, hc2⟩ := (DrTab.sl hd2) (by omega)
        subst hA2
        have c2' : wr.cell? ⟨b2, off2 + k, none⟩ = some (.slice s.A x.length s.c) := by
          have := hc2 k s hsk 0 _ rfl
          rw [Nat.mul_one, Nat.add_zero, hsn] at this
          exact this
        have hx16 := hd2.2.2.1 x (List.mem_of_getElem? hx)
        have HX := Lib.hid (And.intro hx (And.intro hsn (And.intro hsc (And.intro hscm hsT))))
        clear hx hsk hsn hsc hscm hsT hc2 hd2 hb
        by_cases hxw : (x.length : Int) = W2
        · by_cases hcw : (cj : Int) < W2
          · have hcx : cj < x.length := by omega
            obtain ⟨b4, off4, hA4, hB4, c4, c5⟩ := Val.at_ HX.out.2.2.2.2.sl hcx
            generalize x[cj] = u at *
            obtain ⟨ul, un⟩ := u
            have c3' := c2'
            rw [hA4] at c3'
            clear c2'
            have HXW := Lib.hid hxw
            have hxw' : ((x.length : Int) == W2) = true := by simp [hxw]
            clear hxw
            cases ul
            · go_wp2
              go_quiet (fail)
              have BA := Lib.hid (balloc (bdrewN (Below.refl wr.heap.size wr) nq) (.cells #[.slice (some ⟨b4, off4, none⟩) x.length s.c] 41))
              have HOx := Lib.hid (HI.out.1.on BA.out)
              have HSx := Lib.hid (Row.sl' (w := (wr.drewN nq).alloc (.cells #[.slice (some ⟨b4, off4, none⟩) x.length s.c] 41)) (t := 41) (xs := [(⟨some ⟨b4, off4, none⟩, x.length, s.c⟩ : SV)]) svC_length ((Row.new (wr.drewN nq) _ _).of rfl))
              have hsz4 : w5.heap.size ≤ ((wr.drewN nq).alloc (.cells #[.slice (some ⟨b4, off4, none⟩) x.length s.c] 41)).heap.size := (bch HI.out.2.2.2.2 BA.out).size
              go_wp2_with (at_builtin; refine wpList_app rfl (.tmp 60) (.tmp 66) 23 rfl w5.heap.size 41 _ 1 24 svC Try.underlying23 zeroRow rfl (by decide) (by decide) svC_length svC_one _ sv rfl HOx.out (some ⟨wr.heap.size, 0, none⟩) 1 1 [(⟨some ⟨b4, off4, none⟩, x.length, s.c⟩ : SV)] rfl rfl HSx.out (by simp <;> omega) hsz4 ?_; intro v4 w4 how4 hgr4; have HW4 := Lib.hid (And.intro how4 hgr4); clear how4 hgr4)
              go_roundg (svs2.length - (k + 1))
              case measure => omega
              case rel =>
                obtain ⟨how4, hgr4⟩ := HW4.out
                obtain ⟨h1, h2, h3, h4, h5⟩ := HX.out
                have hrow : ∀ q, Value.ownBlock _ = some q → w5.heap.size ≤ q ∧ TyAt _ q 41 := fun q hq => ⟨(HOx.out.ty q hq).1, (HOx.out.ty q hq).2.2⟩
                refine ⟨k + 1, sv ++ [⟨some ⟨b4, off4, none⟩, x.length, s.c⟩], rs ++ [x], by omega, rfl, by go_num, how4, ?_, by rw [List.length_append]; have := HI.out.2.2.1; simp; omega, fun r hr => ?_, ?_⟩
                · exact ((HI.out.2.1.on BA.out).grown hgr4 fun q hq => .inr ⟨_, by decide, (hrow q hq).2⟩).snoc rfl h3 h4 (by rw [← hA4]; exact (h5.on BA.out).grown hgr4 fun q hq => .inr ⟨_, by decide, (hrow q hq).2⟩)
                · rcases List.mem_append.1 hr with h | h
                  · exact HI.out.2.2.2.1 r h
                  · simp only [List.mem_singleton] at h; subst h; exact List.mem_of_getElem? h1
                · exact (bch HI.out.2.2.2.2 BA.out).grown hgr4 (bch HI.out.2.2.2.2 BA.out).size fun q hq => (hrow q hq).1
            · go_wp2
              go_quiet (fail)
              go_wp2
              go_roundg (svs2.length - (k + 1))
              case measure => omega
              case rel => exact ⟨k + 1, sv, rs, by omega, rfl, by go_num, HI.out.1.on (bdrewN (Below.refl _ _) _), HI.out.2.1.on (bdrewN (Below.refl _ _) _), by have := HI.out.2.2.1; omega, HI.out.2.2.2.1, bdrewN HI.out.2.2.2.2 _⟩
          · have hxw' : ((x.length : Int) == W2) = true := by simp [hxw]
            have HXW := Lib.hid hxw
            have hcd : decide ((cj : Int) < W2) = false := decide_eq_false hcw
            clear hxw
            go_wp2
            go_quiet (fail)
            go_wp2
            go_roundg (svs2.length - (k + 1))
            case measure => omega
            case rel => exact ⟨k + 1, sv, rs, by omega, rfl, by go_num, HI.out.1.on (bdrewN (Below.refl _ _) _), HI.out.2.1.on (bdrewN (Below.refl _ _) _), by have := HI.out.2.2.1; omega, HI.out.2.2.2.1, bdrewN HI.out.2.2.2.2 _⟩
        · have hxw' : ((x.length : Int) == W2) = false := by rw [beq_eq_false_iff_ne]; exact hxw
          clear hxw
          go_wp2
          go_quiet (fail)
          go_wp2
          go_roundg (svs2.length - (k + 1))
          case measure => omega
          case rel => exact ⟨k + 1, sv, rs, by omega, rfl, by go_num, HI.out.1.on (bdrewN (Below.refl _ _) _), HI.out.2.1.on (bdrewN (Below.refl _ _) _), by have := HI.out.2.2.1; omega, HI.out.2.2.2.1, bdrewN HI.out.2.2.2.2 _⟩
      · clear hb
        have HT1 : ∀ (n : Nat), n = rs.length → Calls Try.prog 62 #[.int .i64 W2, .slice Av n cv] wr (TofRes 0 W2 rs wr) := by
          intro n hnn
          subst hnn
          exact tableOf_ok 0 W2 Av cv sv rs wr (Nat.zero_le _) (by have := HI.out.2.2.1; omega) (fun r hr => by have := HD5.out.2.2.2.1 r (HI.out.2.2.2.1 r hr); omega) HSV.out.2.1.sl HI.out.2.1
        have HT1 := Lib.hid HT1
        go_wp2_with fail
        refine (HT1.out _ HSV.out.1).mono ?_
        rintro e w6 ⟨v6, sv6, out, rfl, hout, how6, hrt6, hb6⟩
        obtain ⟨A6, c6, rfl, _, _, _⟩ := how6.shape svC_length
        have hbw := bch HI.out.2.2.2.2 hb6
        have hout16 : out.length ≤ 16 ∧ ∀ r ∈ out, r.length ≤ 16 := by
          have hl := HI.out.2.2.1
          rw [if_pos (by omega)] at hout
          refine ⟨by rw [hout.perm.length_eq]; omega, fun r hr => HD5.out.2.2.2.1 r (HI.out.2.2.2.1 r (hout.perm.mem_iff.1 hr))⟩
        have r1 := HR5.out.1.on hbw
        have r2 := HR5.out.2.1.on hbw
        have r3 := HR5.out.2.2.1.on hbw
        have r4 := HR5.out.2.2.2.on hbw
        have y0 : w6.cell? ⟨w2.heap.size + 1, 0, none⟩ = some (.int .i64 W2) := r4.cell 0
        have y1 : w6.cell? ⟨w2.heap.size + 1, 1, none⟩ = some (.slice A2 svs2.length c2) := r4.cell 1
        have y2 := r4.frozen 0
        have y3 := r4.frozen 1
        have y4 := r4.lt
        generalize hnn : sv6.length = nn at *
        obtain ⟨Z, hZ⟩ : ∃ z, (w6.setCell ⟨w2.heap.size + 1, 0, none⟩ (.int .i64 W2)).setCell ⟨w2.heap.size + 1, 1, none⟩ (.slice A6 nn c6) = z := ⟨_, rfl⟩
        have hSZ : Only (fun i => i = w2.heap.size + 1) w6 Z := by rw [← hZ]; exact (Only.set (S := fun i => i = w2.heap.size + 1) (p := ⟨w2.heap.size + 1, 0, none⟩) (Only.refl w6) (.inl rfl) (.int .i64 W2)).set (p := ⟨w2.heap.size + 1, 1, none⟩) (.inl rfl) (.slice A6 nn c6)
        have q1 := r1.only hSZ (by omega)
        have q2 := r2.only hSZ (by omega)
        have q3 := r3.only hSZ (by omega)
        have q4 : Row Z (w2.heap.size + 1) 25 [.int .i64 W2, .slice A6 nn c6] := by rw [← hZ]; exact ((r4.set 0 _).set 1 _).of rfl
        have hwZ : Below w.heap.size w Z := Only.from_ (bch H5.out hbw) rfl hSZ (by intro i hi; omega)
        have hdA : DrTab 0 Z W1 (.slice A1 svs1.length c1) svs1 rows1 := (HD5.out.1.on hbw).only hSZ fun k hk => .inr (by subst hk; exact r4.ty)
        have hdB : DrTab 0 Z W2 (.slice A6 nn c6) sv6 out := DrTab.only ⟨HD5.out.2.1, hout16.1, hout16.2, how6.low (Nat.zero_le _), hrt6⟩ hSZ fun k hk => .inr (by subst hk; exact r4.ty)
        have F := FIN.out Z W2 (.slice A6 nn c6) sv6 out hwZ q1.ty q2.ty hdA hdB
        have HF := Lib.hid F
        have HZ := Lib.hid hZ
        have u0 := q1.cell 0
        have u1 := q1.cell 1
        have u2 := q1.frozen 0
        have u3 := q1.frozen 1
        have u4 := q1.lt
        have u5 := q2.cell 0
        have u6 := q2.cell 1
        have u7 := q2.frozen 0
        have u8 := q2.frozen 1
        have u9 := q2.lt
        have g0 : Z.cell? ⟨w2.heap.size, 0, none⟩ = some (.int .i64 W1) := q3.cell 0
        have g1 : Z.cell? ⟨w2.heap.size, 1, none⟩ = some (.slice A1 svs1.length c1) := q3.cell 1
        have g2 : Z.cell? ⟨w2.heap.size + 1, 0, none⟩ = some (.int .i64 W2) := q4.cell 0
        have g3 : Z.cell? ⟨w2.heap.size + 1, 1, none⟩ = some (.slice A6 nn c6) := q4.cell 1
        clear hout how6 hrt6 hb6 hbw hout16 r1 r2 r3 r4 hSZ q1 q2 q3 q4 hwZ hdA hdB F hZ s0 s1 s2 s3 hnn t0 t1
        go_upto_region 11 with fail
        rw [HZ.out]
        clear y0 y1 y2 y3 y4
        go_region
        all_goals (
          go_wp2
          refine bodyPost_ret (v := .tuple #[.agg #[.int .i64 W1, .slice A1 svs1.length c1], .agg #[.int .i64 W2, .slice A6 nn c6], .int .i64 ca, .int .i64 cj]) (by simp [results, Try.results19, go_sem, u0, u1, u2, u3, u4, u5, u6, u7, u8, u9]) rfl ?_
          refine ⟨W1, _, W2, _, ca, cj, rfl, ?_⟩
          have F := HF.out
          first
            | exact (F _ (.inl rfl)).2
            | exact (F _ (.inr rfl)).2
            | exact (F _ (.inl rfl)).1
            | exact (F _ (.inr rfl)).1)
  · have h0' : (r5 == 0) = false := by simp [h0]
    have u0 := HR5.out.1.cell 0
    have u1 := HR5.out.1.cell 1
    have u2 := HR5.out.1.frozen 0
    have u3 := HR5.out.1.frozen 1
    have u4 := HR5.out.1.lt
    have u5 := HR5.out.2.1.cell 0
    have u6 := HR5.out.2.1.cell 1
    have u7 := HR5.out.2.1.frozen 0
    have u8 := HR5.out.2.1.frozen 1
    have u9 := HR5.out.2.1.lt
    go_wp2
    go_region
    all_goals (
      go_wp2
      refine bodyPost_ret (v := .tuple #[.agg #[.int .i64 W1, .slice A1 svs1.length c1], .agg #[.int .i64 W2, .slice A2 svs2.length c2], .int .i64 ca, .int .i64 cb]) (by simp [results, Try.results19, go_sem, u0, u1, u2, u3, u4, u5, u6, u7, u8, u9]) rfl ?_
      refine ⟨W1, _, W2, _, ca, cb, rfl, ?_⟩
      have F := FIN.out w5 W2 (.slice A2 svs2.length c2) svs2 rows2 H5.out HR5.out.1.ty HR5.out.2.1.ty HD5.out.1 HD5.out.2
      first
        | exact (F _ (.inl rfl)).2
        | exact (F _ (.inr rfl)).2
        | exact (F _ (.inl rfl)).1
        | exact (F _ (.inr rfl)).1)
end Go.Proofs.Ytldndapcbgaliaa
