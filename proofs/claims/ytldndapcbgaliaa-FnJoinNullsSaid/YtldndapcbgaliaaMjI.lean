/-
  Contract of mergedRows as a source of rows: the program's.
-/
import Derived.Test.YtldndapcbgaliaaProg
import Derived.Test.YtldndapcbgaliaaMjS
import Derived.Test.YtldndapcbgaliaaColR
import Derived.Test.YtldndapcbgaliaaCon
import Derived.Sort.QuietIn
import Derived.Deep.RegionHeld3
namespace Go.Proofs.Ytldndapcbgaliaa
open Go.RowKit Go.Qo
set_option linter.unusedVariables false
set_option linter.unusedSimpArgs false
attribute [local go_sem] Oper.semAt_some

theorem entersMerged1 : EntersF 114 := enters_of Try.func114 (by kernel_rfl) rfl
set_option maxHeartbeats 1000000 in
theorem mergedRows_ok (W W' ca cb : Int) (v v' : Value) (w : World) :
    Calls Try.prog 79 #[.agg #[.int .i64 W, v], .agg #[.int .i64 W', v'], .int .i64 ca, .int .i64 cb] w fun e w' => e = .returned (.func (.func 114) #[] #[.pointer (some ⟨w.heap.size + 1, 0, none⟩), .pointer (some ⟨w.heap.size + 3, 0, none⟩), .pointer (some ⟨w.heap.size, 0, none⟩), .pointer (some ⟨w.heap.size + 2, 0, none⟩)]) ∧ Below w.heap.size w w' ∧
      Row w' w.heap.size 25 [.int .i64 W, v] ∧ Row w' (w.heap.size + 1) 25 [.int .i64 W', v'] ∧ Row w' (w.heap.size + 2) 3 [.int .i64 ca] ∧ Row w' (w.heap.size + 3) 3 [.int .i64 cb] := by
  go_enter Try.func79, Try.ntmps79
  go_wp2
  go_ret
  refine ⟨rfl, balloc (balloc (balloc (balloc (Below.refl _ _) _) _) _) _, (((Row.new w _ _).alloc _).alloc _).alloc _, ((Row.second w _ _ _).alloc _).alloc _, (Row.third w _ _ _ _).alloc _, ?_⟩
  have h := Row.new (((w.alloc (.cells #[.int .i64 W, v] 25)).alloc (.cells #[.int .i64 W', v'] 25)).alloc (.cells #[.int .i64 ca] 3)) 3 #[.int .i64 cb]
  have e : (((w.alloc (.cells #[.int .i64 W, v] 25)).alloc (.cells #[.int .i64 W', v'] 25)).alloc (.cells #[.int .i64 ca] 3)).heap.size = w.heap.size + 3 := by simp
  rw [e] at h
  exact h.of rfl

theorem keepBelow {w z wr : World} {E : Nat → Prop} (h : Below w.heap.size w z) (k : KeepE w.heap.size E z wr) : Below w.heap.size w wr := Only.from_ h rfl k fun _ hi => hi.1
theorem keepCell {n₀ : Nat} {E : Nat → Prop} {X Y : World} (k : KeepE n₀ E X Y) {b o : Nat} (hb : b < X.heap.size) (hE : E b) : Y.cell? ⟨b, o, none⟩ = X.cell? ⟨b, o, none⟩ := by
  have h := k.block b hb fun h => h.2 hE
  simp only [World.cell?, h]
theorem enterE (z z2 : World) : Fresh (fun _ => False) (fun i => z.heap.size ≤ i ∧ i < z2.heap.size) z z2 := fun i hi => ⟨.inr hi.1, hi.2⟩
theorem stayE {E : Nat → Prop} {X Y : World} (h : ∀ i, E i → i < Y.heap.size) : Fresh E E X Y := fun i hi => ⟨.inl hi, h i hi⟩
/-- A list of numbers in the blocks of E. -/
theorem idxIn {lo hi : Nat} {z : World} {A : Option Addr} {xs : List Int} (h : SlT 3 1 intC lo z A xs) (hz : z.heap.size ≤ hi) {n : Nat} (hn : n < xs.length) : ∃ b o, A = some ⟨b, o, none⟩ ∧ (lo ≤ b ∧ b < hi) ∧ b < z.heap.size ∧ z.cell? ⟨b, o + n, none⟩ = some (.int .i64 xs[n]) := by
  obtain ⟨b, o, hA, h1, h2, _, hc⟩ := h (Nat.lt_of_le_of_lt (Nat.zero_le _) hn)
  have := hc n _ (List.getElem?_eq_getElem hn) 0 _ rfl
  exact ⟨b, o, hA, ⟨h1, by omega⟩, h2, by simpa using this⟩

set_option maxRecDepth 100000 in
set_option maxHeartbeats 8000000 in
theorem mergedIt_ok (W W' : Int) (A A' : Option Addr) (c c' : Nat) (xs ys : List Row1) (ca cb pb pbc pa pac : Nat) (w : World) (hT1 : TabOk W xs) (hT2 : TabOk W' ys) (hca : (ca : Int) < W) (hcb : (cb : Int) < W') (h6 : W + W' ≤ 6)
    (h : Rws w w.heap.size A xs) (h' : Rws w w.heap.size A' ys) (ra : Row w pa 25 [.int .i64 W, .slice A xs.length c]) (rb : Row w pb 25 [.int .i64 W', .slice A' ys.length c']) (rac : Row w pac 3 [.int .i64 ca]) (rbc : Row w pbc 3 [.int .i64 cb]) :
    SeqR Fence.wide 5 Try.prog 114 #[.pointer (some ⟨pb, 0, none⟩), .pointer (some ⟨pbc, 0, none⟩), .pointer (some ⟨pa, 0, none⟩), .pointer (some ⟨pac, 0, none⟩)] (fun x : Rw (W + W') => encSR x.1) (fun x z => SRs (W + W') z x.1) w.heap.size
      (fun ys' => ys'.map (·.1.2) = mjAll xs ys ca cb) (fun pre => pre.map (·.1.2) <+: mjAll xs ys ca cb) (mjAll xs ys ca cb).length w := by
  intro l J Jx z hz hJ hJx hY h0
  have hx4 : xs.length ≤ 400 := hT1.2.2.1
  have hy4 : ys.length ≤ 400 := hT2.2.2.1
  have HRx := Lib.hid (tabRows1 hT1)
  have HRy := Lib.hid (tabRows1 hT2)
  have hW6 : W ≤ 6 := hT1.2.1
  have hW6' : W' ≤ 6 := hT2.2.1
  have hW1' := hT2.1
  have hW1 := hT1.1
  have I2 := Lib.hid (fun (z : World) (hz : Below w.heap.size w z) => implIndexOf_ok W' cb A' c' ys z (by omega) (h'.on hz) true (iff_of_true rfl ⟨hT2, Int.natCast_nonneg _, hcb⟩))
  have I1 := Lib.hid (fun (z : World) (hz : Below w.heap.size w z) => implIndexOf_ok W ca A c xs z (by omega) (h.on hz) true (iff_of_true rfl ⟨hT1, Int.natCast_nonneg _, hca⟩))
  simp only [if_true, Int.toNat_natCast] at I1 I2
  obtain ⟨x, hx⟩ : ∃ x, idxOf xs ca = x := ⟨_, rfl⟩
  obtain ⟨y, hy⟩ : ∃ y, idxOf ys cb = y := ⟨_, rfl⟩
  have hxl : x.length ≤ 400 := by rw [← hx]; have := idxOf_len (rows := xs) (cn := ca); omega
  have hyl : y.length ≤ 400 := by rw [← hy]; have := idxOf_len (rows := ys) (cn := cb); omega
  have HXi := Lib.hid (show ∀ i ∈ x, InR xs.length i ∧ nul xs ca i.toNat = false by rw [← hx]; exact fun i hi => ⟨idxOf_in i hi, idxOf_nul i hi⟩)
  have HYi := Lib.hid (show ∀ i ∈ y, InR ys.length i ∧ nul ys cb i.toNat = false by rw [← hy]; exact fun i hi => ⟨idxOf_in i hi, idxOf_nul i hi⟩)
  obtain ⟨G, hG⟩ : ∃ G, mjAll xs ys ca cb = G := ⟨_, rfl⟩
  have HGr := Lib.hid (show ∀ r ∈ G, RowOk (W + W') r by rw [← hG]; exact mjAll_ok HRx.out HRy.out h6)
  have HG := Lib.hid (show G = mjRows xs ys ca cb x y by rw [← hG, ← hx, ← hy]; rfl)
  rw [hG] at hY ⊢
  rw [hx] at I1
  rw [hy] at I2
  have HH := Lib.hid (And.intro h h')
  have HR := Lib.hid (And.intro ra (And.intro rb (And.intro rac rbc)))
  have HZ := Lib.hid hz
  have HJ := Lib.hid hJ
  have HJx := Lib.hid hJx
  have HY := Lib.hid hY
  have H0 := Lib.hid h0
  have b0 : z.cell? ⟨pb, 0, none⟩ = some (.int .i64 W') := (rb.on hz).cell 0
  have b1 : z.cell? ⟨pb, 1, none⟩ = some (.slice A' ys.length c') := (rb.on hz).cell 1
  have b2 : z.cell? ⟨pbc, 0, none⟩ = some (.int .i64 cb) := (rbc.on hz).cell 0
  clear hT1 hT2 hx hy hG h h' ra rb rac rbc hz hJ hJx hY h0
  show CallsIn _ _ _ _ #[.func (.yield l) #[] #[], .pointer (some ⟨pb, 0, none⟩), .pointer (some ⟨pbc, 0, none⟩), .pointer (some ⟨pa, 0, none⟩), .pointer (some ⟨pac, 0, none⟩)] _ _
  refine callsIn_of_wp Try.func114 rfl trivial ?_ rfl
  simp only [Try.ntmps114, List.size_toArray, List.length_cons, List.length_nil, Nat.reduceAdd, Nat.reduceSub, Array.replicate_succ, Array.replicate_zero, List.push_toArray, List.append_toArray, List.nil_append, List.cons_append]
  gi_wp2_with (refine ⟨trivial, ?_⟩; gi_at_call 24; refine (callsIn_wide.2 (I2.out _ HZ.out)).mono ?_; clear I2; rintro e z1 ⟨v1, rfl, how1, hb1⟩; obtain ⟨AY, cy, rfl, hcy1, hcy2, hsy⟩ := how1.shape intC_length; have HAY := Lib.hid (show AY = none → y = [] ∧ cy = 0 from fun h => by subst h; obtain ⟨q1, _, q2⟩ := Ow.nil_of how1; exact ⟨q1, q2⟩); have HB1 := Lib.hid hb1; have SY1 := Lib.hid hsy; have HZ1 := Lib.hid (bch HZ.out hb1); have a0 : z1.cell? ⟨pa, 0, none⟩ = some (.int .i64 W) := ((HR.out.1.on HZ.out).on hb1).cell 0; have a1 : z1.cell? ⟨pa, 1, none⟩ = some (.slice A xs.length c) := ((HR.out.1.on HZ.out).on hb1).cell 1; have a2 : z1.cell? ⟨pac, 0, none⟩ = some (.int .i64 ca) := ((HR.out.2.2.1.on HZ.out).on hb1).cell 0; clear hb1 how1 hsy b0 b1 b2)
  gi_wp2_with (refine ⟨trivial, ?_⟩; gi_at_call 24; refine (callsIn_wide.2 (I1.out _ HZ1.out)).mono ?_; clear I1; rintro e z2 ⟨v2, rfl, how2, hb2⟩; obtain ⟨AX, cx, rfl, _, hcx2, hsx⟩ := how2.shape intC_length; have HB2 := Lib.hid hb2; have SX2 := Lib.hid hsx; clear hb2 how2 hsx a0 a1 a2)
  obtain ⟨E, hE⟩ : ∃ E : Nat → Prop, (fun i => z.heap.size ≤ i ∧ i < z2.heap.size) = E := ⟨_, rfl⟩
  have hEi : ∀ i, E i ↔ z.heap.size ≤ i ∧ i < z2.heap.size := fun i => by rw [← hE]
  have J2 : J E [] z2 := HJ.out _ E [] z z2 H0.out (only_below (bch HB1.out HB2.out)) (hE ▸ enterE z z2)
  have BZ2 := Lib.hid (show Below w.heap.size w z2 from bch HZ1.out HB2.out)
  have SX := Lib.hid (fun (n : Nat) (hn : n < x.length) => idxIn SX2.out (Nat.le_refl _) hn)
  have SY := Lib.hid (fun (n : Nat) (hn : n < y.length) => idxIn (SY1.out.on HB2.out) (Nat.le_refl _) hn)
  have HE := Lib.hid hEi
  have hz12 : z.heap.size ≤ z1.heap.size := HB1.out.size
  -- J stands where new memory alone is made
  have JB := Lib.hid (fun (pre : List (Rw (W + W'))) (X Y : World) (hj : J E pre X) (hxy : Below X.heap.size X Y) (h2 : z2.heap.size ≤ Y.heap.size) => HJ.out E E pre X Y hj (only_below hxy) (stayE fun i hi => by have := ((HE.out i).1 hi).2; omega))
  clear hE hEi
  have HJ2 := Lib.hid J2
  clear J2
  gi_wp2
  gi_loopw [7, 21] (fun s iv wr => ∃ (n f : Nat) (pre : List (Rw (W + W'))), n ≤ x.length ∧ f ≤ y.length ∧ s = .int .i64 f ∧ iv = .int .i64 n ∧ J E pre wr ∧ KeepE w.heap.size E z2 wr ∧ G = pre.map (·.1.2) ++ mjRows xs ys ca cb (x.drop n) (y.drop f))
    (fun _ iv _ => x.length - (intOf iv).toNat)
  case atStart => exact ⟨0, 0, [], Nat.zero_le _, Nat.zero_le _, rfl, rfl, HJ2.out, Only.refl _, HG.out⟩
  case round =>
    obtain ⟨n, f, pre, hnx, hfy, rfl, rfl, hj, hk, hg⟩ := hrel
    have HQ := Lib.hid (And.intro hj (And.intro hk hg))
    have hbw := keepBelow BZ2.out hk
    have hsz := hk.size
    clear hj hg
    by_cases hlt : n < x.length
    · obtain ⟨gx, ox, hAX, hEx, hgx, ex⟩ := SX.out n hlt
      have hxe := Lib.hid (List.getElem?_eq_getElem hlt)
      have hxi := HXi.out _ (List.getElem_mem hlt)
      generalize x[n] = ii at *
      obtain ⟨i, rfl⟩ := Int.eq_ofNat_of_zero_le hxi.1.1
      have hi1 : i < xs.length := by have := hxi.1.2; omega
      have hin : nul xs ca i = false := by simpa using hxi.2
      obtain ⟨b3, o3, b4, o4, C4, hA, hB3, c3w, hB4, d0w, d1w, hcl, hL6, hCm, s4⟩ := cellAt HH.out.1 HRx.out hca hi1
      rw [hin] at d0w
      subst hAX
      subst hA
      obtain ⟨L, hL⟩ : ∃ L, (rwAt xs (i : Int)).length = L := ⟨_, rfl⟩
      obtain ⟨N, hN⟩ : ∃ N, nAt xs ca (i : Int) = N := ⟨_, rfl⟩
      rw [hL] at c3w hcl hL6
      rw [hN] at d1w
      have HL := Lib.hid (And.intro hL (And.intro hN (And.intro s4 hCm)))
      have e1 : wr.cell? ⟨gx, ox + n, none⟩ = some (.int .i64 (i : Int)) := (keepCell hk hgx ((HE.out _).2 ⟨by omega, by omega⟩)).trans ex
      have a1 : wr.cell? ⟨pa, 1, none⟩ = some (.slice (some ⟨b3, o3, none⟩) xs.length c) := (HR.out.1.on hbw).cell 1
      have c3 := (hbw.cell (p := ⟨b3, _, none⟩) hB3).trans c3w
      have hlt5 : (n : Int) < (x.length : Int) := by omega
      have hi5 : (i : Int) < (xs.length : Int) := by omega
      have hca6 : ca ≤ 6 := by omega
      have hi400 : i ≤ 400 := by omega
      have HC4 := Lib.hid (And.intro d0w d1w)
      clear hxi hin ex c3w d0w d1w s4 hL hN hbw
      gi_wp2
      gi_loopw [7] (fun s wq => ∃ f2 : Nat, f2 ≤ y.length ∧ s = .int .i64 f2 ∧ J E pre wq ∧ KeepE w.heap.size E z2 wq ∧ (y.drop f).dropWhile (ltB xs ys ca cb (i : Int)) = (y.drop f2).dropWhile (ltB xs ys ca cb (i : Int))) (fun s _ => y.length - (intOf s).toNat)
      case atStart => exact ⟨f, hfy, rfl, HQ.out.1, HQ.out.2.1, rfl⟩
      case round =>
        obtain ⟨f2, hf2, rfl, hj2, hk2, hd⟩ := hrel
        have HD := Lib.hid (And.intro hj2 (And.intro hk2 hd))
        have hbw := keepBelow BZ2.out hk2
        have hsz2 := hk2.size
        clear hj2 hd a1 c3 e1
        have d0 := (hbw.cell (p := ⟨b4, _, none⟩) hB4).trans HC4.out.1
        have d1 := (hbw.cell (p := ⟨b4, _, none⟩) hB4).trans HC4.out.2
        have b1 : wr.cell? ⟨pb, 1, none⟩ = some (.slice A' ys.length c') := (HR.out.2.1.on hbw).cell 1
        have b2 : wr.cell? ⟨pbc, 0, none⟩ = some (.int .i64 cb) := (HR.out.2.2.2.on hbw).cell 0
        have a2 : wr.cell? ⟨pac, 0, none⟩ = some (.int .i64 ca) := (HR.out.2.2.1.on hbw).cell 0
        have hcb6 : cb ≤ 6 := by omega
        by_cases hlt2 : f2 < y.length
        · obtain ⟨gy, oy, hAY, hEy, hgy, ey⟩ := SY.out f2 hlt2
          have hye := Lib.hid (List.getElem?_eq_getElem hlt2)
          have hyi := HYi.out _ (List.getElem_mem hlt2)
          generalize y[f2] = jj at *
          obtain ⟨j, rfl⟩ := Int.eq_ofNat_of_zero_le hyi.1.1
          have hj1 : j < ys.length := by have := hyi.1.2; omega
          obtain ⟨b6, o6, b7, o7, C7, hA', hB6, c6w, hB7, d70, d71w, hcl7, hL7, hCm7, s7⟩ := cellAt HH.out.2 HRy.out hcb hj1
          subst hAY
          subst hA'
          obtain ⟨L7, hL7e⟩ : ∃ L, (rwAt ys (j : Int)).length = L := ⟨_, rfl⟩
          obtain ⟨M, hM⟩ : ∃ N, nAt ys cb (j : Int) = N := ⟨_, rfl⟩
          rw [hL7e] at c6w hcl7 hL7
          rw [hM] at d71w
          have HM := Lib.hid hM
          have e2 : wr.cell? ⟨gy, oy + f2, none⟩ = some (.int .i64 (j : Int)) := (keepCell hk2 hgy ((HE.out _).2 ⟨by omega, by omega⟩)).trans ey
          have c6 := (hbw.cell (p := ⟨b6, _, none⟩) hB6).trans c6w
          have d71 := (hbw.cell (p := ⟨b7, _, none⟩) hB7).trans d71w
          have hf5 : (f2 : Int) < (y.length : Int) := by omega
          have hj5 : (j : Int) < (ys.length : Int) := by omega
          have hj400 : j ≤ 400 := by omega
          clear hyi ey c6w d70 d71w s7 hL7e hM hCm7
          by_cases hlm : M < N
          · gi_wp2
            gi_quiet (fail)
            gi_wp2
            go_roundw
            case rel => exact ⟨f2 + 1, by omega, by simp, JB.out _ _ _ HD.out.1 (bdrewN (Below.refl _ _) _) (by simpa using hsz2), HD.out.2.1.below (bdrewN (Below.refl _ _) _), HD.out.2.2.trans (dropW_step hye.out (by unfold ltB; rw [HM.out, HL.out.2.1]; exact decide_eq_true (by omega)))⟩
            case measure => simp [intOf]; omega
          · have HEQ := Lib.hid (HD.out.2.2.trans (dropW_stop hye.out (by unfold ltB; rw [HM.out, HL.out.2.1]; exact decide_eq_false (by omega))))
            gi_wp2
            gi_quiet (fail)
            gi_wp2
            gi_loopw [60] (fun iv wq => ∃ (k : Nat) (pk : List (Rw (W + W'))), k ≤ y.length - f2 ∧ iv = .int .i64 k ∧ J E pk wq ∧ KeepE w.heap.size E z2 wq ∧ G = pk.map (·.1.2) ++ (mjOne xs ys ca cb (i : Int) (y.drop (f2 + k)) ++ mjRows xs ys ca cb (x.drop (n + 1)) (y.drop f2)))
              (fun iv _ => y.length - (intOf iv).toNat)
            case atStart => exact ⟨0, pre, Nat.zero_le _, rfl, JB.out _ _ _ HD.out.1 (bdrewN (Below.refl _ _) _) (by simpa using hsz2), HD.out.2.1.below (bdrewN (Below.refl _ _) _), by rw [Nat.add_zero, HQ.out.2.2, mjRows_cons hxe.out HEQ.out]⟩
            case round =>
              obtain ⟨k, pk, hkl, rfl, hj3, hk3, hg3⟩ := hrel
              have HK := Lib.hid (And.intro hj3 (And.intro hk3 hg3))
              have hbw := keepBelow BZ2.out hk3
              have HBW := Lib.hid hbw
              have hsz3 := hk3.size
              clear hj3 hg3 d0 d1 b1 b2 a2
              by_cases hlt3 : k < y.length - f2
              · have hfk : f2 + k < y.length := by omega
                obtain ⟨gz, oz, hAZ, hEz, hgz, ez⟩ := SY.out (f2 + k) hfk
                cases hAZ
                have hyk := Lib.hid (List.getElem?_eq_getElem hfk)
                have hyi := HYi.out _ (List.getElem_mem hfk)
                generalize y[f2 + k] = jj3 at *
                obtain ⟨j3, rfl⟩ := Int.eq_ofNat_of_zero_le hyi.1.1
                have hj31 : j3 < ys.length := by have := hyi.1.2; omega
                have hjn : nul ys cb j3 = false := by simpa using hyi.2
                obtain ⟨b8, o8, b9, o9, C9, hA8, hB8, c8w, hB9, d90w, d91w, hcl9, hL9, hCm9, s9⟩ := cellAt HH.out.2 HRy.out hcb hj31
                rw [hjn] at d90w
                cases hA8
                obtain ⟨L9, hL9e⟩ : ∃ L, (rwAt ys (j3 : Int)).length = L := ⟨_, rfl⟩
                obtain ⟨M3, hM3⟩ : ∃ N, nAt ys cb (j3 : Int) = N := ⟨_, rfl⟩
                rw [hL9e] at c8w hcl9 hL9
                rw [hM3] at d91w
                have HM3 := Lib.hid hM3
                have e3 : wr.cell? ⟨gy, oy + f2 + k, none⟩ = some (.int .i64 (j3 : Int)) := by rw [Nat.add_assoc]; exact (keepCell hk3 hgz ((HE.out _).2 ⟨by omega, by omega⟩)).trans ez
                have c8 := (hbw.cell (p := ⟨b6, _, none⟩) hB8).trans c8w
                have d90 := (hbw.cell (p := ⟨b9, _, none⟩) hB9).trans d90w
                have d91 := (hbw.cell (p := ⟨b9, _, none⟩) hB9).trans d91w
                have d0 := (hbw.cell (p := ⟨b4, _, none⟩) hB4).trans HC4.out.1
                have d1 := (hbw.cell (p := ⟨b4, _, none⟩) hB4).trans HC4.out.2
                have b1 : wr.cell? ⟨pb, 1, none⟩ = some (.slice (some ⟨b6, o6, none⟩) ys.length c') := (HR.out.2.1.on hbw).cell 1
                have b2 : wr.cell? ⟨pbc, 0, none⟩ = some (.int .i64 cb) := (HR.out.2.2.2.on hbw).cell 0
                have a2 : wr.cell? ⟨pac, 0, none⟩ = some (.int .i64 ca) := (HR.out.2.2.1.on hbw).cell 0
                have hk5 : (k : Int) < ((y.length - f2 : Nat) : Int) := by omega
                have hk6 : (k : Int) < (y.length : Int) - (f2 : Int) := by omega
                have hj35 : (j3 : Int) < (ys.length : Int) := by omega
                have hj3400 : j3 ≤ 400 := by omega
                have hk400 : k ≤ 400 := by omega
                have HS9 := Lib.hid (And.intro s9 (And.intro hL9e hCm9))
                have hgv := eqgVal
                clear hyi hjn ez c8w d90w d91w s9 hL9e hM3 hbw hCm9
                by_cases heq : M3 = N
                · have hne := fun z => neqVal (x := (false, M3)) (y := (false, N)) false (by simp [heq]) z
                  dsimp only at hne
                  obtain ⟨R, hR0⟩ : ∃ R, rwAt xs (i : Int) ++ rwAt ys (j3 : Int) = R := ⟨_, rfl⟩
                  have hRl : R.length = L + L9 := by rw [← hR0, List.length_append, HL.out.1, HS9.out.2.1]
                  have hst : mjOne xs ys ca cb (i : Int) (y.drop (f2 + k)) = R :: mjOne xs ys ca cb (i : Int) (y.drop (f2 + k + 1)) := by
                    rw [mjOne_step hyk.out (by unfold eqB; rw [HM3.out, HL.out.2.1]; exact decide_eq_true heq)]
                    show (rwAt xs (i : Int) ++ rwAt ys (j3 : Int)) :: _ = _
                    rw [hR0]
                  have hGR : G = pk.map (·.1.2) ++ R :: (mjOne xs ys ca cb (i : Int) (y.drop (f2 + k + 1)) ++ mjRows xs ys ca cb (x.drop (n + 1)) (y.drop f2)) := by rw [HK.out.2.2, hst]; rfl
                  have hRok : RowOk (W + W') R := HGr.out R (by rw [hGR]; simp)
                  have hpl : pk.length < G.length := by
                    have := congrArg List.length hGR
                    rw [List.length_append, List.length_map, List.length_cons] at this
                    omega
                  have HRR := Lib.hid (And.intro hRl (And.intro hGR (And.intro hRok hpl)))
                  have HCC := Lib.hid (fun (wd : World) (hd : Below w.heap.size w wd) => show Calls Try.prog 115 #[.slice (some ⟨wd.heap.size, 0, none⟩) 2 2] (wd.alloc (.cells #[.slice (some ⟨b4, o4, none⟩) L C4, .slice (some ⟨b9, o9, none⟩) L9 C9] 41))
                      (fun e w' => ∃ A c, e = .returned (.slice A (L + L9) c) ∧ Ow (wd.alloc (.cells #[.slice (some ⟨b4, o4, none⟩) L C4, .slice (some ⟨b9, o9, none⟩) L9 C9] 41)).heap.size 40 2 valC w' (.slice A (L + L9) c) R ∧ Below (wd.alloc (.cells #[.slice (some ⟨b4, o4, none⟩) L C4, .slice (some ⟨b9, o9, none⟩) L9 C9] 41)).heap.size (wd.alloc (.cells #[.slice (some ⟨b4, o4, none⟩) L C4, .slice (some ⟨b9, o9, none⟩) L9 C9] 41)) w') from by
                    rw [← hR0]
                    exact concatV_ok wd.heap.size 0 2 (some ⟨b4, o4, none⟩) (some ⟨b9, o9, none⟩) L L9 C4 C9 (rwAt xs (i : Int)) (rwAt ys (j3 : Int)) _ HL.out.1.symm HS9.out.2.1.symm (by omega) (by omega) (by simp) ((Row.new wd _ _).cell 0) ((Row.new wd _ _).cell 1) (HL.out.2.2.1.on (balloc hd _)) (HS9.out.1.on (balloc hd _)))
                  clear hRl hst hGR hRok hpl hR0
                  gi_wp2
                  gi_quiet (fail)
                  gi_wp2_with (refine ⟨trivial, ?_⟩; gi_at_call 115; refine (callsIn_wide.2 (HCC.out _ (bdrewN HBW.out _))).mono ?_; rintro e w5 ⟨A5, c5, rfl, how5, hb5⟩; have hb35 := Lib.hid (bch (balloc (bdrewN (Below.refl wr.heap.size wr) _) _) hb5); have hsr : SRs (W + W') w5 (⟨A5, L + L9, c5⟩, R) := (by obtain ⟨A6, c6', e6, h61, h62, h63⟩ := how5.shape valC_length; injection e6 with e7 e8 e9; subst e7; subst e9; exact ⟨HRR.out.2.2.1, HRR.out.1.symm, h61, h62, h63.sl⟩); have hyl := HY.out E pk ⟨(⟨A5, L + L9, c5⟩, R), HRR.out.2.2.1⟩ w5 (JB.out _ _ _ HK.out.1 hb35.out (Nat.le_trans hsz3 hb35.out.size)) hsr HRR.out.2.2.2; change YieldAt _ _ _ l #[.slice A5 (L + L9) c5] w5 _ at hyl; obtain ⟨fn, tmps, assign, body, hy, hRy⟩ := hyl; clear how5 hb5 hsr)
                  refine hRy.mono ?_
                  rintro e w6 (⟨rfl, hJ6, hk6'⟩ | ⟨rfl, hJx6⟩)
                  · have H6 := Lib.hid (And.intro hJ6 hk6')
                    clear hJ6 hk6' d0 d1 d90 d91 b1 b2 a2 c8 e3
                    gi_wp2
                    go_roundw
                    case rel => exact ⟨k + 1, _, by omega, by simp, H6.out.1, (HK.out.2.1.below hb35.out).trans H6.out.2, HRR.out.2.1.trans (by rw [List.map_append, ← Nat.add_assoc]; simp)⟩
                    case measure => simp [intOf]; omega
                  · have H6 := Lib.hid hJx6
                    clear hJx6
                    gi_wp2
                    refine bodyPost_ret (results_none rfl _ _ _) rfl ⟨⟨_, rfl⟩, .inr ⟨_, E, ?_, H6.out⟩⟩
                    refine ⟨mjOne xs ys ca cb (i : Int) (y.drop (f2 + k + 1)) ++ mjRows xs ys ca cb (x.drop (n + 1)) (y.drop f2), ?_⟩
                    rw [List.map_append]
                    exact Eq.trans (by simp) HRR.out.2.1.symm
                · have hne := fun z => neqVal (x := (false, M3)) (y := (false, N)) true (by simp [heq]) z
                  dsimp only at hne
                  have HST := Lib.hid (show G = pk.map (·.1.2) ++ mjRows xs ys ca cb (x.drop (n + 1)) (y.drop f2) by rw [HK.out.2.2, mjOne_stop hyk.out (by unfold eqB; rw [HM3.out, HL.out.2.1]; exact decide_eq_false heq), List.nil_append])
                  gi_wp2
                  gi_quiet (fail)
                  gi_wp2
                  go_roundw
                  case rel => exact ⟨n + 1, f2, pk, by omega, hf2, rfl, by simp, JB.out _ _ _ HK.out.1 (bdrewN (Below.refl _ _) _) (by simpa using hsz3), HK.out.2.1.below (bdrewN (Below.refl _ _) _), HST.out⟩
                  case measure => simp [intOf]; omega
              · have hk5 : ¬ ((k : Int) < ((y.length - f2 : Nat) : Int)) := by omega
                have hk6 : ¬ ((k : Int) < (y.length : Int) - (f2 : Int)) := by omega
                have HST := Lib.hid (show G = pk.map (·.1.2) ++ mjRows xs ys ca cb (x.drop (n + 1)) (y.drop f2) by rw [HK.out.2.2, mjOne_end (by omega), List.nil_append])
                gi_wp2
                go_roundw
                case rel => exact ⟨n + 1, f2, pk, by omega, hf2, rfl, by simp, HK.out.1, HK.out.2.1, HST.out⟩
                case measure => simp [intOf]; omega
        · have hf5 : ¬ ((f2 : Int) < (y.length : Int)) := by omega
          have hd5 : decide ((f2 : Int) < (y.length : Int)) = false := decide_eq_false hf5
          have HEQ := Lib.hid (HD.out.2.2.trans (dropW_end (by omega)))
          have HST := Lib.hid (show G = pre.map (·.1.2) ++ mjRows xs ys ca cb (x.drop (n + 1)) (y.drop f2) by rw [HQ.out.2.2, mjRows_cons hxe.out HEQ.out, mjOne_end (by omega), List.nil_append])
          obtain rfl : f2 = y.length := by omega
          by_cases hcy : cy = y.length
          · subst hcy
            gi_wp2
            gi_quiet (fail)
            gi_wp2
            gi_loopw [60] (fun iv wq => iv = .int .i64 0 ∧ J E pre wq ∧ KeepE w.heap.size E z2 wq) (fun iv _ => 0)
            case atStart => exact ⟨rfl, JB.out _ _ _ HD.out.1 (bdrewN (Below.refl _ _) _) (by simpa using hsz2), HD.out.2.1.below (bdrewN (Below.refl _ _) _)⟩
            case round =>
              obtain ⟨rfl, hj3, hk3⟩ := hrel
              have HK := Lib.hid (And.intro hj3 hk3)
              clear hj3 hk3
              gi_wp2
              go_roundw
              case rel => exact ⟨n + 1, y.length, pre, by omega, Nat.le_refl _, rfl, by simp, HK.out.1, HK.out.2, HST.out⟩
              case measure => simp [intOf]; omega
          · gi_wp2
            gi_quiet (fail)
            gi_wp2
            gi_loopw [60] (fun iv wq => iv = .int .i64 0 ∧ J E pre wq ∧ KeepE w.heap.size E z2 wq) (fun iv _ => 0)
            case atStart => exact ⟨rfl, JB.out _ _ _ HD.out.1 (bdrewN (Below.refl _ _) _) (by simpa using hsz2), HD.out.2.1.below (bdrewN (Below.refl _ _) _)⟩
            case round =>
              obtain ⟨rfl, hj3, hk3⟩ := hrel
              have HK := Lib.hid (And.intro hj3 hk3)
              clear hj3 hk3
              gi_wp2
              go_roundw
              case rel => exact ⟨n + 1, y.length, pre, by omega, Nat.le_refl _, rfl, by simp, HK.out.1, HK.out.2, HST.out⟩
              case measure => simp [intOf]; omega
    · obtain rfl : n = x.length := by omega
      gi_wp2
      go_end0
      refine ⟨⟨_, rfl⟩, .inl ⟨pre, E, ?_, HQ.out.1⟩⟩
      have := HQ.out.2.2
      rw [mjRows_end (Nat.le_refl _), List.append_nil] at this
      exact this.symm
end Go.Proofs.Ytldndapcbgaliaa
