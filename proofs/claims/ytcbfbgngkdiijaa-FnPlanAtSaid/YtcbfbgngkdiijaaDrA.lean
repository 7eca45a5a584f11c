/-
  Contracts: somePath, DrawPlanAt. (Printed by wip/dra.py.)
-/
import Derived.Test.YtcbfbgngkdiijaaProg
import Derived.Test.YtcbfbgngkdiijaaPaW
namespace Go.Proofs.Ytcbfbgngkdiijaa
open Go.RowKit Go.Qo
set_option linter.unusedVariables false
set_option linter.unusedSimpArgs false

def GotSp (b p : Nat) (w : World) (e : Ending) (w' : World) : Prop := ∃ (A : Option Addr) (c : Nat) (ws : List Int), e = .returned (.slice A ws.length c) ∧ ws.length ≤ 3 ∧ (ws.length ≤ c ∧ c ≤ maxLen) ∧ Ow w.heap.size 3 1 intC w' (.slice A ws.length c) ws ∧ But b w w' ∧ Rd w' b p
set_option maxRecDepth 20000 in
set_option maxHeartbeats 2000000 in
theorem somePath_ok (b p : Nat) (w : World) (hR : Rd w b p) (hp : p + 4 ≤ 1099511627776) :
    Calls Try.prog 20 #[.pointer (some ⟨b, 0, none⟩)] w (GotSp b (p + 4) w) := by
  have hlt := hR.lt
  obtain ⟨W1, hW1⟩ : ∃ z, w.alloc (.cells #[] 3) = z := ⟨_, rfl⟩
  have b1 : Below w.heap.size w W1 := by rw [← hW1]; exact balloc (Below.refl _ _) _
  have HO1 := Lib.hid (show Ow w.heap.size 3 1 intC W1 (.slice (some ⟨w.heap.size, 0, none⟩) 0 0) ([] : List Int) by rw [← hW1]; exact Ow.lit (xs := ([] : List Int)) rfl rfl (Nat.le_refl _) (by decide))
  have HR1 := Lib.hid (hR.on b1)
  have HB1 := Lib.hid (show But b w W1 from only_below b1)
  have HW1 := Lib.hid hW1
  clear hR hW1 b1
  go_enter Try.func20, Try.ntmps20
  go_upto_region 2 with fail
  rw [HW1.out]
  go_wp2_with fail
  refine (pick_ok b p 4 W1 HR1.out (by omega)).mono ?_
  rintro e w2 ⟨k2, rfl, hk2, hb2, hsz2, hR2⟩
  have HO2 := Lib.hid (HO1.out.only hb2 (fun i (hi : i = b) => .inl (by omega)))
  have HB2 := Lib.hid (HB1.out.trans hb2)
  have HR2 := Lib.hid hR2
  have hk20 := hk2.1
  have hk21 := hk2.2.1 (by omega)
  obtain ⟨m0, rfl⟩ := Int.eq_ofNat_of_zero_le hk20
  have hm02 : m0 < 4 := by omega
  clear hk2 hb2 hsz2 hR2 hk20 hk21
  go_wp2
  go_loopg [3, 4] m0 (fun g v nv wr => ∃ (ws : List Int) (m : Nat), m = g ∧ nv = .int .i64 m ∧ ws.length + m ≤ 3 ∧ Ow w.heap.size 3 1 intC wr v ws ∧ But b w wr ∧ Rd wr b (p + 1 + ws.length))
  case atStart => exact ⟨[], m0, rfl, rfl, by simp; omega, HO2.out, HB2.out, by simpa using HR2.out⟩
  case round =>
    obtain ⟨ws, m, rfl, rfl, hml, how, hb, hR⟩ := hrel
    have HO := Lib.hid how
    have HB := Lib.hid hb
    have HRd := Lib.hid hR
    have hsz := hb.size
    clear how hb hR
    by_cases hm : 0 < m
    · have hmI : (0 : Int) < (m : Int) := by omega
      have hwl : ws.length ≤ 3 := by omega
      obtain ⟨V, hV⟩ : ∃ z, wr.alloc (.cells #[.int .i64 0, .int .i64 0, .int .i64 0, .int .i64 1, .int .i64 2, .int .i64 (-1)] 3) = z := ⟨_, rfl⟩
      have hvb : Below wr.heap.size wr V := by rw [← hV]; exact balloc (Below.refl _ _) _
      have hbz := HRd.out.lt
      have HOn := Lib.hid (one_ok b (p + 1 + ws.length) (some ⟨wr.heap.size, 0, none⟩) 6 [0, 0, 0, 1, 2, (-1)] V (HRd.out.on hvb) (by omega) (by simp) (by simp) (by rw [← hV]; exact Row.sl' (t := 3) intC_length ((Row.new wr _ _).of rfl)) (by rintro a ha; cases ha; exact (show wr.heap.size ≠ b by omega)))
      have HV := Lib.hid hV
      have HVB := Lib.hid hvb
      clear hV hvb
      go_upto_region 5 with fail
      go_wp2_with (first | (at_builtin; refine wpList_app rfl (.tmp 12) (.tmp 16) 24 rfl w.heap.size 3 _ 1 8 intC Try.underlying24 zeroIntG rfl (by decide) (by decide) intC_length intC_one _ ws rfl HO4.out (some ⟨w4.heap.size, 0, none⟩) 1 1 [k4] rfl rfl HS4.out (by simp; omega) hsz5 ?_; intro v' w' hown hgr) | (rw [HV.out]; refine HOn.out.mono ?_; rintro e w4 ⟨k4, rfl, _, hb4, hsz4, hR4⟩; have HB4 := Lib.hid ((HB.out.below HVB.out).trans hb4); have HO4 := Lib.hid (((HO.out.on HVB.out).only hb4 (fun i (hi : i = b) => .inl (by omega))).on (balloc (Below.refl _ _) (.cells #[.int .i64 k4] 3))); have HR4 := Lib.hid (hR4.on (balloc (Below.refl _ _) (.cells #[.int .i64 k4] 3))); have HS4 := Lib.hid (Row.sl' (w := w4.alloc (.cells #[.int .i64 k4] 3)) (t := 3) (xs := [k4]) intC_length ((Row.new w4 _ _).of rfl)); have hsz5 : w.heap.size ≤ (w4.alloc (.cells #[.int .i64 k4] 3)).heap.size := (by have := HB4.out.size; simp; omega); clear hb4 hsz4 hR4))
      obtain ⟨m, rfl⟩ : ∃ m', m = m' + 1 := ⟨m - 1, by omega⟩
      go_roundg m
      case measure => omega
      case rel =>
        refine ⟨ws ++ [k4], m, rfl, by go_num, by simp; omega, hown, ?_, ?_⟩
        · exact (HB4.out.alloc _).grown hgr fun k hk => .inr (HO4.out.ty k hk).1
        · exact (HR4.out.grown hgr fun k hk => by have := (HO4.out.ty k hk).1; omega).mono (by simp; omega)
    · have hmI : ¬ (0 : Int) < (m : Int) := by omega
      obtain ⟨A9, c9, rfl, h91, h92, -⟩ := HO.out.shape intC_length
      go_wp2
      go_ret
      exact ⟨_, _, ws, rfl, by omega, ⟨h91, h92⟩, HO.out, HB.out, HRd.out.mono (by omega)⟩

theorem pwC_leA : pwC + 4 ≤ 1099511627776 := by decide
set_option maxRecDepth 20000 in
set_option maxHeartbeats 4000000 in
theorem drawPlanAt_ok (A : Option Addr) (c : Nat) (xs : List Int) (w : World) (hn : xs.length ≤ c) (hc : c ≤ maxLen) (hg : ∀ x ∈ xs, 0 ≤ x ∧ x ≤ 255) (hs : Sl 1 byteC w w.heap.size A xs) :
    Calls Try.prog 8 #[.slice A xs.length c] w fun e w' => ∃ f x A' is c', e = .returned (.tuple #[fpV f, .slice A' is.length c']) ∧ PlT (fun k => w.heap.size ≤ k) w' f x ∧ plN x ≤ apD ∧ Sl 1 intC w' w'.heap.size A' is ∧ is.length ≤ 3 ∧ (is.length ≤ c' ∧ c' ≤ maxLen) ∧ Below w.heap.size w w' := by
  obtain ⟨W0, hW0⟩ : ∃ z, w.alloc (.cells #[.int .i64 0, .int .i64 0, .slice none 0 0, .slice none 0 0, .slice none 0 0] 27) = z := ⟨_, rfl⟩
  have b0 : Below w.heap.size w W0 := by rw [← hW0]; exact balloc (Below.refl _ _) _
  have r0 : Row W0 w.heap.size 27 [.int .i64 0, .int .i64 0, .slice none 0 0, .slice none 0 0, .slice none 0 0] := by rw [← hW0]; exact Row.new _ _ _
  have hs0 : W0.heap.size = w.heap.size + 1 := by rw [← hW0]; simp
  obtain ⟨b, hb⟩ : ∃ b, W0.heap.size = b := ⟨_, rfl⟩
  have HN := Lib.hid (newReader_ok A c xs W0 hn hc hg (hs.on b0))
  rw [hb] at HN
  have hbw : w.heap.size + 1 = b := by omega
  have Hb := Lib.hid hb
  have Hr0 := Lib.hid r0
  have HB0 := Lib.hid b0
  have HW0 := Lib.hid hW0
  have Hpw := Lib.hid pwC_leA
  clear hn hc hg hs hW0 b0 r0 hb hs0
  go_enter Try.func8, Try.ntmps8
  go_upto_region 1 with fail
  rw [HW0.out]
  go_wp2_with fail
  refine HN.out.mono ?_
  rintro e w1 ⟨rfl, hb1, hR1⟩
  rw [← Hb.out] at hb1
  have HPW := Lib.hid (planAndWidths_ok b 0 w1 hR1 (by have := Hpw.out; omega))
  have HB1 := Lib.hid (bch HB0.out hb1)
  have Hr1 := Lib.hid (Hr0.out.on hb1)
  have hbl1 := hR1.lt
  clear hb1 hR1
  go_wp2_with fail
  refine HPW.out.mono ?_
  rintro e w2 ⟨pf, px, v2, ws, rfl, hx2, how2, hwl, hwr, hb2, hR2, hpn⟩
  unfold fpV
  obtain ⟨W3, hW3⟩ : ∃ z, w2.alloc (.cells #[.int .i64 pf.kind, .int .i64 pf.table, .slice pf.es.A pf.es.n pf.es.c, .slice pf.cs.A pf.cs.n pf.cs.c, .slice pf.ks.A pf.ks.n pf.ks.c] 27) = z := ⟨_, rfl⟩
  have b3 : Below w2.heap.size w2 W3 := by rw [← hW3]; exact balloc (Below.refl _ _) _
  have r3 : Row W3 w2.heap.size 27 (fpC pf) := by rw [← hW3]; exact (Row.new _ _ _).of rfl
  have hzw := Hr1.out.lt
  have h2w := hb2.size
  have Hr3 := Lib.hid ((Hr1.out.only hb2 (by omega)).on b3)
  have HR3 := Lib.hid (hR2.on b3)
  have HX3 := Lib.hid (hx2.keep b3.size fun k _ hl => b3.block k hl)
  have HP3 := Lib.hid r3
  have HB3 := Lib.hid (Only.from_ HB1.out rfl (hb2.below b3) fun i (hi : i = b) => by omega)
  have HPN := Lib.hid hpn
  have HW3 := Lib.hid hW3
  have ST := Lib.hid (fun (z : World) (hz : But b W3 z) => show z.cell? ⟨w2.heap.size, 0, none⟩ = some (.int .i64 pf.kind) ∧ z.cell? ⟨w2.heap.size, 1, none⟩ = some (.int .i64 pf.table) ∧ z.cell? ⟨w2.heap.size, 2, none⟩ = some (.slice pf.es.A pf.es.n pf.es.c) ∧ z.cell? ⟨w2.heap.size, 3, none⟩ = some (.slice pf.cs.A pf.cs.n pf.cs.c) ∧ z.cell? ⟨w2.heap.size, 4, none⟩ = some (.slice pf.ks.A pf.ks.n pf.ks.c) from by
    have h := HP3.out.only hz (show ¬ w2.heap.size = b by omega)
    exact ⟨h.cell 0, h.cell 1, h.cell 2, h.cell 3, h.cell 4⟩)
  have hlp : w2.heap.size < W3.heap.size := r3.lt
  clear hx2 how2 hwl hwr hb2 hR2 hpn hW3 b3 r3
  go_upto_region 3 with fail
  rw [HW3.out]
  obtain ⟨u, hu⟩ : ∃ u, W3.drew = u := ⟨_, rfl⟩
  have Bu := Lib.hid (show But b W3 u from hu ▸ (Only.refl _).drew)
  have Ru := Lib.hid (show Rd u b (0 + pwC) from hu ▸ HR3.out.on (Below.refl _ _).drew)
  have Hu := Lib.hid hu
  clear hu
  refine wp_region_g 4 (fun z => z.cell? ⟨w2.heap.size, 0, none⟩ = some (.int .i64 pf.kind) ∧ z.cell? ⟨w2.heap.size, 1, none⟩ = some (.int .i64 pf.table) ∧ z.cell? ⟨w2.heap.size, 2, none⟩ = some (.slice pf.es.A pf.es.n pf.es.c) ∧ z.cell? ⟨w2.heap.size, 3, none⟩ = some (.slice pf.cs.A pf.cs.n pf.cs.c) ∧ z.cell? ⟨w2.heap.size, 4, none⟩ = some (.slice pf.ks.A pf.ks.n pf.ks.c)) (by kernel_rfl) ?_ (fun hHeld => ?_)
  · exact ST.out _ (Only.refl _).drew
  rw [Hu.out] at hHeld ⊢
  refine takeG (i := 0) (v := ?v1) rfl (by kernel_rfl) (by kernel_rfl) (by kernel_rfl) (by kernel_rfl) (fun _ _ _ h => h) (Or.inl ⟨by rfl, ?hy1⟩) (by assumption) ?_
  case hy1 => ((intro w' hSw; (try dsimp only at hSw); go_simp) <;> with_reducible rfl)
  try simp only [Act.put, List.setIfInBounds_toArray, List.set_cons_zero, List.set_cons_succ]
  refine takeG (i := 1) (v := ?v2) rfl (by kernel_rfl) (by kernel_rfl) (by kernel_rfl) (by kernel_rfl) (fun _ _ _ h => h) (Or.inl ⟨by rfl, ?hy2⟩) (by assumption) ?_
  case hy2 => ((intro w' hSw; (try dsimp only at hSw); go_simp) <;> with_reducible rfl)
  try simp only [Act.put, List.setIfInBounds_toArray, List.set_cons_zero, List.set_cons_succ]
  refine wpAnyG_ready (rs := [2]) (by kernel_rfl) (by simp) ?_
  refine readyG rfl (fun K hK => ?_) AllReadyG.nil
  go_simp
  go_at_call 20
  refine (somePath_ok b _ u Ru.out (by have := Hpw.out; omega)).mono ?_
  rintro e x1 ⟨A', c', is, rfl, hil, hic, how, hb, hR⟩
  have B1 := Lib.hid (Bu.out.trans hb)
  have HI := Lib.hid (And.intro how (And.intro hil hic))
  clear hb how hR hil hic
  refine hK.out _ _ ?hS3 (fun hHeld => ?_)
  case hS3 => exact fun _ => ST.out _ B1.out
  replace hHeld := hHeld (by decide)
  clear hK K
  try simp only [Act.put, List.setIfInBounds_toArray, List.set_cons_zero, List.set_cons_succ]
  refine wpAnyG_ready (rs := [3]) (by kernel_rfl) (by simp) ?_
  refine readyG rfl (fun K hK => ?_) AllReadyG.nil
  have rr := Hr3.out.only B1.out (show ¬ w.heap.size = b by omega)
  have hlr := rr.lt
  have e0 : x1.cell? ⟨w.heap.size, 0, none⟩ = some (.int .i64 0) := rr.cell 0
  have e1 : x1.cell? ⟨w.heap.size, 1, none⟩ = some (.int .i64 0) := rr.cell 1
  have e2 : x1.cell? ⟨w.heap.size, 2, none⟩ = some (.slice none 0 0) := rr.cell 2
  have e3 : x1.cell? ⟨w.heap.size, 3, none⟩ = some (.slice none 0 0) := rr.cell 3
  have e4 : x1.cell? ⟨w.heap.size, 4, none⟩ = some (.slice none 0 0) := rr.cell 4
  have f0 := rr.frozen 0
  have f1 := rr.frozen 1
  have f2 := rr.frozen 2
  have f3 := rr.frozen 3
  have f4 := rr.frozen 4
  have HRR := Lib.hid rr
  clear rr
  go_simp
  obtain ⟨Z5, hZ5⟩ : ∃ q, (((((x1.setCell ⟨w.heap.size, 0, none⟩ (.int .i64 pf.kind)).setCell ⟨w.heap.size, 1, none⟩ (.int .i64 pf.table)).setCell ⟨w.heap.size, 2, none⟩ (.slice pf.es.A pf.es.n pf.es.c)).setCell ⟨w.heap.size, 3, none⟩ (.slice pf.cs.A pf.cs.n pf.cs.c)).setCell ⟨w.heap.size, 4, none⟩ (.slice pf.ks.A pf.ks.n pf.ks.c)) = q := ⟨_, rfl⟩
  rw [hZ5]
  have rZ : Row Z5 w.heap.size 27 (fpC pf) := by rw [← hZ5]; exact (((((HRR.out.set 0 _).set 1 _).set 2 _).set 3 _).set 4 _).of rfl
  have h5 : Only (fun k => k = w.heap.size) x1 Z5 := by rw [← hZ5]; exact set5 _ _ _ _ _ _ _
  have q0 : Z5.cell? ⟨w.heap.size, 0, none⟩ = some (.int .i64 pf.kind) := rZ.cell 0
  have q1 : Z5.cell? ⟨w.heap.size, 1, none⟩ = some (.int .i64 pf.table) := rZ.cell 1
  have q2 : Z5.cell? ⟨w.heap.size, 2, none⟩ = some (.slice pf.es.A pf.es.n pf.es.c) := rZ.cell 2
  have q3 : Z5.cell? ⟨w.heap.size, 3, none⟩ = some (.slice pf.cs.A pf.cs.n pf.cs.c) := rZ.cell 3
  have q4 : Z5.cell? ⟨w.heap.size, 4, none⟩ = some (.slice pf.ks.A pf.ks.n pf.ks.c) := rZ.cell 4
  have SP : Only (fun k => k = w.heap.size ∨ k = b) W3 Z5 := (B1.out.mono fun k _ hk => .inr hk).step h5 fun i hi => .inl (.inl hi)
  have HZ := Lib.hid (And.intro SP (HI.out.1.only h5 fun i (hi : i = w.heap.size) => .inl (by have := HP3.out.lt; have := Bu.out.size; omega)))
  have SQ : Z5.cell? ⟨w2.heap.size, 0, none⟩ = some (.int .i64 pf.kind) ∧ Z5.cell? ⟨w2.heap.size, 1, none⟩ = some (.int .i64 pf.table) ∧ Z5.cell? ⟨w2.heap.size, 2, none⟩ = some (.slice pf.es.A pf.es.n pf.es.c) ∧ Z5.cell? ⟨w2.heap.size, 3, none⟩ = some (.slice pf.cs.A pf.cs.n pf.cs.c) ∧ Z5.cell? ⟨w2.heap.size, 4, none⟩ = some (.slice pf.ks.A pf.ks.n pf.ks.c) := by
    have h := (HP3.out.only SP (show ¬ (w2.heap.size = w.heap.size ∨ w2.heap.size = b) by omega))
    exact ⟨h.cell 0, h.cell 1, h.cell 2, h.cell 3, h.cell 4⟩
  clear hZ5 rZ h5 SP
  refine hK.out _ _ ?hS4 (fun hHeld => ?_)
  case hS4 => exact fun _ => SQ
  replace hHeld := hHeld (by decide)
  clear hK K
  try simp only [Act.put, List.setIfInBounds_toArray, List.set_cons_zero, List.set_cons_succ]
  refine wpAnyG_ready (rs := [4]) (by kernel_rfl) (by simp) ?_
  refine readyG rfl (fun K hK => ?_) AllReadyG.nil
  go_simp
  refine hK.out _ _ ?hS5 (fun hHeld => ?_)
  case hS5 => exact fun h => absurd rfl h
  clear hK K
  try simp only [Act.put, List.setIfInBounds_toArray, List.set_cons_zero, List.set_cons_succ]
  refine wpAnyG_done (by kernel_rfl) ?_ _
  clear SQ
  go_wp2
  refine bodyPost_ret (v := .tuple #[fpV pf, .slice A' is.length c']) (by simp [results, Try.results8, go_sem, fpV, q0, q1, q2, q3, q4]) rfl ?_
  refine ⟨pf, px, A', is, c', rfl, (HX3.out.keep HZ.out.1.size fun k hk hl => HZ.out.1.block k hl (by omega)).mono fun k _ hk => by omega, HPN.out, ?_, HI.out.2.1, HI.out.2.2, Only.from_ HB3.out rfl HZ.out.1 fun i hi => by omega⟩
  obtain ⟨A9, c9, hv9, _, _, hs9⟩ := HZ.out.2.shape intC_length
  cases hv9
  exact hs9.sl
end Go.Proofs.Ytcbfbgngkdiijaa
