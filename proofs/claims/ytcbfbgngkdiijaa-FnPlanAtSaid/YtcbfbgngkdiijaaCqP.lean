/-
  Contract: (*impl.Plan).copied. (Printed by wip/cqp.py.)
-/
import Derived.Test.YtcbfbgngkdiijaaProg
import Derived.Test.YtcbfbgngkdiijaaTdp
import Derived.Test.YtcbfbgngkdiijaaCqE
import Derived.Test.YtcbfbgngkdiijaaRgG
namespace Go.Proofs.Ytcbfbgngkdiijaa
open Go.RowKit Go.Qo
set_option linter.unusedVariables false
set_option linter.unusedSimpArgs false

theorem zeroPtP : (Try.prog.info? 49).map (fun i => (i.zero, i.size, i.bytes)) = some (some (.pointer none), 1, 8) := by kernel_rfl
def zsP : List Value := [.int .i64 0, .int .i64 0, .slice none 0 0, .slice none 0 0, .slice none 0 0]

set_option maxRecDepth 20000 in
set_option maxHeartbeats 8000000 in
theorem planCopied_ok (b o : Nat) (f : FP) (x : Pl) (w : World) (hf : FpAt w b o f) (hb : b < w.heap.size) (S0 : Nat → Prop) (hx : PlT S0 w f x) (hn : plN x ≤ 1048576) :
    Calls Try.prog 22 #[.pointer (some ⟨b, o, none⟩)] w fun e w' => ∃ f', e = .returned (fpV f') ∧ PlT (fun k => S0 k ∨ w.heap.size ≤ k) w' f' x ∧ Below w.heap.size w w' := by
  obtain ⟨W0, hW0⟩ : ∃ z, w.alloc (.cells #[.int .i64 0, .int .i64 0, .slice none 0 0, .slice none 0 0, .slice none 0 0] 27) = z := ⟨_, rfl⟩
  have b0 : Below w.heap.size w W0 := by rw [← hW0]; exact balloc (Below.refl _ _) _
  have hs0 : W0.heap.size = w.heap.size + 1 := by rw [← hW0]; simp
  have r0 : Row W0 w.heap.size 27 zsP := by rw [← hW0]; exact (Row.new _ _ _).of rfl
  have hk : ∀ j v, w.cell? ⟨b, j, none⟩ = some v → W0.cell? ⟨b, j, none⟩ = some v := fun j v h => (b0.cell (p := ⟨b, j, none⟩) hb).trans h
  have c0 := hk _ _ hf.1
  have c1 := hk _ _ hf.2.1
  have c2 := hk _ _ hf.2.2.1
  have c3 := hk _ _ hf.2.2.2.1
  have c4 := hk _ _ hf.2.2.2.2
  have hbl : b < W0.heap.size := by omega
  obtain ⟨W1, hW1⟩ : ∃ z, W0.alloc (.cells #[.int .i64 f.kind, .int .i64 f.table, .slice f.es.A f.es.n f.es.c, .slice f.cs.A f.cs.n f.cs.c, .slice f.ks.A f.ks.n f.ks.c] 27) = z := ⟨_, rfl⟩
  have b1 : Below W0.heap.size W0 W1 := by rw [← hW1]; exact balloc (Below.refl _ _) _
  have hs1 : W1.heap.size = w.heap.size + 2 := by rw [← hW1]; simp; omega
  have r1 : Row W1 (w.heap.size + 1) 27 (fpC f) := by rw [← hW1, ← hs0]; exact (Row.new _ _ _).of rfl
  obtain ⟨W2, hW2⟩ : ∃ z, W1.alloc (.cells #[.pointer (some ⟨w.heap.size + 1, 0, none⟩)] 49) = z := ⟨_, rfl⟩
  have b2 : Below W1.heap.size W1 W2 := by rw [← hW2]; exact balloc (Below.refl _ _) _
  have T0 : Tdi S0 nodP 27 49 zsP x w W2 (.slice (some ⟨w.heap.size + 2, 0, none⟩) 1 1) [(w.heap.size + 1, 0)] [x] := by
    have hB : Below w.heap.size w W2 := bch (bch b0 b1) b2
    have rr := r1.on b2
    have hh : HdP (Bsd S0 w.heap.size (.slice (some ⟨w.heap.size + 2, 0, none⟩) 1 1)) W2 (w.heap.size + 1) 0 x := by
      refine ⟨f, ⟨rr.cell 0, rr.cell 1, rr.cell 2, rr.cell 3, rr.cell 4⟩, ((hx.mono (T := fun k => S0 k ∧ k < w.heap.size) fun k hl hk => ⟨hk, hl⟩).keep hB.size fun k hk hl => hB.block k hk.2).mono fun k hk hS => ?_⟩
      have h2 : k < w.heap.size := hS.2
      refine ⟨.inl hS.1, by omega, fun e => ?_⟩
      have := Option.some.inj e
      simp at this
      omega
    refine ⟨?_, ⟨rfl, fun i p y hp hy => ?_⟩, ⟨_, rr⟩, hh, (r0.on b1).on b2, hB⟩
    · rw [← hW2, ← hs1]
      exact Ow.lit (xs := [(w.heap.size + 1, 0)]) rfl rfl (by omega) (by unfold maxLen; simp)
    · cases i with
      | succ i => simp at hp
      | zero =>
        simp at hp hy
        subst hp hy
        exact ⟨⟨Nat.le_refl _, _, rr⟩, hh⟩
  have HT0 := Lib.hid T0
  have HW0 := Lib.hid hW0
  have HW1 := Lib.hid hW1
  have HW2 := Lib.hid hW2
  have HS := Lib.hid (And.intro hs0 hs1)
  have HN := Lib.hid hn
  clear hW0 hW1 hW2 T0 b0 b1 b2 r0 r1 hk hf hx hn hs0 hs1
  go_enter Try.func22, Try.ntmps22
  go_upto_region 1 with fail
  rw [HW0.out]
  go_upto_region 2 with fail
  rw [HW1.out]
  go_wp2
  rw [HS.out.1, HS.out.2, HW2.out]
  go_loopg [4] (plsN [x]) (fun g v wr => ∃ (ps : List (Nat × Nat)) (xs : List Pl) (A : Option Addr) (n c : Nat), g = plsN xs ∧ v = .slice A n c ∧ n = ps.length ∧ plsN xs ≤ 1048576 ∧ Tdi S0 nodP 27 49 zsP x w wr (.slice A n c) ps xs)
  case atStart => exact ⟨_, _, _, _, _, rfl, rfl, rfl, by simp only [plsN]; have := HN.out; omega, HT0.out⟩
  case round =>
    obtain ⟨ps, xs, A, n, c, rfl, rfl, hnl, hxs, hT⟩ := hrel
    have HT := Lib.hid hT
    have HXS := Lib.hid hxs
    clear hT hxs
    by_cases h0 : 0 < ps.length
    · obtain ⟨qs, ⟨pb, po⟩, ys, y, rfl, rfl, hql⟩ := HT.out.last h0
      obtain ⟨m, hm⟩ : ∃ m, qs.length = m := ⟨_, rfl⟩
      obtain rfl : n = m + 1 := by rw [hnl, List.length_append, List.length_singleton, hm]
      have HM := Lib.hid hm
      have HQL := Lib.hid hql
      obtain ⟨tb, rfl, -, -, htl, -, -, htc⟩ := HT.out.own.head ptC_length (by simp)
      have tcell : wr.cell? ⟨tb, m, none⟩ = some (.pointer (some ⟨pb, po, none⟩)) := by
        refine htc m _ ?_
        have := flat_get 1 ptC ptC_length (qs ++ [(pb, po)]) m (pb, po) 0 _ (by rw [← hm]; simp) rfl
        simpa using this
      obtain ⟨T1, ⟨hplo, cs, hr⟩, f1, hf1, hy1⟩ := HT.out.pop hm.symm
      have HT1 := Lib.hid T1
      have HP := Lib.hid (And.intro hplo (And.intro hr (And.intro hf1 hy1)))
      have hm40 : m < 1048576 := by
        have h1 := HXS.out
        have h2 := plsN_len (ys ++ [y])
        rw [List.length_append, List.length_singleton] at h2
        omega
      have hw1 : IntKind.i64.wrap ((m : Int) + 1 - 1) = m := by rw [show (m : Int) + 1 - 1 = m by omega]; exact IntWalk.i64_in _ (by omega)
      have hmc : m ≤ c := by
        obtain ⟨A9, c9, hv9, h91, -, -⟩ := HT.out.own.shape ptC_length
        injection hv9 with e1 e2 e3
        rw [List.length_append, List.length_singleton] at h91
        have h5 := HM.out
        omega
      have hgt : (0 : Int) < (m : Int) + 1 := by omega
      have hlt1 : (m : Int) < (m : Int) + 1 := by omega
      have q2 : wr.cell? ⟨pb, po + 2, none⟩ = some (.slice f1.es.A f1.es.n f1.es.c) := hf1.2.2.1
      have hpl := hr.lt
      have hyn : plN y ≤ 1048576 := by
        have h1 := HXS.out
        rw [plsN_append] at h1
        simp only [plsN] at h1
        omega
      have HYN := Lib.hid hyn
      obtain ⟨k1, k2, ⟨k3, k3', k3''⟩, k4, k5, ⟨fs, e1, e2, e3⟩, k7, k8⟩ := hy1.flat
      have HE := Lib.hid (And.intro k3 (And.intro e1 (And.intro e2 e3)))
      have hfl : f1.es.n = fs.length := by omega
      have HFL := Lib.hid hfl
      have hkl : fs.length ≤ 1048576 := by have := hy1.bnd.all.1.1; omega
      have HC := Lib.hid (copiedE_ok f1.es.A f1.es.c fs wr hkl e2.sl)
      rw [← hfl] at HC
      have BS := Lib.hid (show ∀ k, wr.heap.size ≤ k → Bsd S0 w.heap.size (.slice (some ⟨tb, 0, none⟩) m c) k from fun k hk => by
        have h3 := T1.res.lt
        refine ⟨.inr (by omega), by omega, fun e' => ?_⟩
        have h1 := Option.some.inj e'
        simp at h1
        omega)
      clear htc T1 hplo hr hf1 hy1 k1 k2 k3 k3' k3'' k4 k5 e1 e2 e3 k7 k8 hm hql h0 hfl hnl hyn
      go_wp2_with fail
      refine HC.out.mono ?_
      rintro e z ⟨A', c', rfl, hA, hc, hbz⟩
      have TZ := Lib.hid (HT1.out.on hbz)
      have hrz := HP.out.2.1.on hbz
      have hfz : FpAt z pb po f1 := HP.out.2.2.1.keepB (hbz.block pb HP.out.2.1.lt)
      have hyz : PlT (Bsd S0 w.heap.size (.slice (some ⟨tb, 0, none⟩) m c)) z f1 y := HP.out.2.2.2.keep hbz.size fun k _ hl => hbz.block k hl
      have hAz := SlS.of_ow feC_length hA
      obtain ⟨f2, hf2⟩ : ∃ g : FP, (⟨f1.kind, f1.table, ⟨A', f1.es.n, c'⟩, f1.cs, f1.ks⟩ : FP) = g := ⟨_, rfl⟩
      have hKq : ∀ q, PlT (Bsd S0 w.heap.size (.slice (some ⟨tb, 0, none⟩) m c)) z f1 q → PlT (Bsd S0 w.heap.size (.slice (some ⟨tb, 0, none⟩) m c)) z f2 q := fun q hq => by
        rw [← hf2]
        refine plT_es (s := ⟨A', f1.es.n, c'⟩) rfl hc.1 hc.2 (fun fs' hl' hs' => ?_) hq
        have e := sl_one (fun _ _ => feC_inj) feC_length (by rw [hl', HFL.out]) hs'.sl ((HE.out.2.2.1.keep hbz.size fun k _ hl => hbz.block k hl).sl)
        rw [e]
        exact hAz.mono fun k _ hk => BS.out k hk
      have hTE := Tdi.turnP (d := 0) (f' := f2) (u := .slice A' f1.es.n c') (by omega) (by decide) TZ.out HP.out.1 hrz hfz hyz (fun j hj => by rw [← hf2]; match j, hj with | 0, _ => rfl | 1, _ => rfl | 2, h => exact absurd rfl h | 3, _ => rfl | 4, _ => rfl | _ + 5, _ => rfl) (by rw [← hf2]; rfl) hKq
      have hq2 : z.cell? ⟨pb, po + 2, none⟩ = some (.slice f1.es.A f1.es.n f1.es.c) := hfz.2.2.1
      have hfro := hrz.frozen (po + 2)
      have hplz := hrz.lt
      obtain ⟨Zs, hZs⟩ : ∃ u, z.setCell ⟨pb, po + 2, none⟩ (.slice A' f1.es.n c') = u := ⟨_, rfl⟩
      rw [show po + (0 + 2) = po + 2 from rfl, hZs] at hTE
      have HTE := Lib.hid hTE
      have HZ := Lib.hid hZs
      have hes2 : f2.es = ⟨A', f1.es.n, c'⟩ := by rw [← hf2]
      have kq2 : Zs.cell? ⟨pb, po + 2, none⟩ = some (.slice A' f1.es.n c') := by have := hTE.2.1.2.2.1; rw [hes2] at this; exact this
      have hplZ : pb < Zs.heap.size := by rw [← hZs]; simpa [World.setCell] using hplz
      obtain ⟨csZ, hrZ⟩ : ∃ cs', Row Zs pb 27 cs' := by rw [← hZs]; exact rows_set pb (po + 2) _ pb cs hrz
      have HKB := Lib.hid (show 0 < f1.es.n → ∃ kb cs, A' = some ⟨kb, 0, none⟩ ∧ w.heap.size + 1 ≤ kb ∧ Row Zs kb 66 cs from fun h0 => by
        rw [HFL.out] at h0
        obtain ⟨kb, rfl, -, hkb, -, -, -, -⟩ := hA.head feC_length h0
        rcases hA.2 with ⟨h1, _⟩ | ⟨g, cap, cur, hv, hg, hh, _⟩
        · cases h1
        · injection hv with e1 e2 e3
          injection e1 with e1
          injection e1 with e1
          subst e1
          obtain ⟨cs', hr'⟩ := rows_set pb (po + 2) (.slice (some ⟨kb, 0, none⟩) f1.es.n c') kb cur.toList (show Row z kb 66 cur.toList from hh)
          rw [hZs] at hr'
          exact ⟨kb, cs', rfl, by have := HT1.out.res.lt; omega, hr'⟩)
      have HRZ := Lib.hid hrZ
      have BSZ := Lib.hid (show ∀ k, Zs.heap.size ≤ k → Bsd S0 w.heap.size (.slice (some ⟨tb, 0, none⟩) m c) k from fun k hk => BS.out k (by have := hbz.size; rw [← hZs] at hk; simp [World.setCell] at hk; omega))
      clear hA hc hbz hrz hfz hyz hAz hTE hZs hrZ hKq
      go_upto_region 7 with fail
      rw [HZ.out]
      go_wp2
      obtain ⟨ne, hne⟩ : ∃ k, f1.es.n = k := ⟨_, rfl⟩
      rw [hne] at HKB HFL HE kq2 hes2
      rw [hne]
      have HES2 := Lib.hid hes2
      have HNE := Lib.hid (show ne = y.exprs.length from HE.out.1)
      have hne3 : ne ≤ 1048576 := by rw [HFL.out]; exact hkl
      clear hne hq2 q2 tcell hfro hpl hplz HC HZ hkl hf2 hes2 hplZ kq2
      go_loopg [39] ne (fun g iv wr => ∃ (i : Nat), g = ne - i ∧ i ≤ ne ∧ iv = .int .i64 i ∧ Tdi S0 nodP 27 49 zsP x w wr (.slice (some ⟨tb, 0, none⟩) m c) qs ys ∧
        FpAt wr pb po f2 ∧ PlT (Bsd S0 w.heap.size (.slice (some ⟨tb, 0, none⟩) m c)) wr f2 y ∧ (∃ cs, Row wr pb 27 cs) ∧ (0 < ne → ∃ kb cs, A' = some ⟨kb, 0, none⟩ ∧ w.heap.size + 1 ≤ kb ∧ Row wr kb 66 cs) ∧ Zs.heap.size ≤ wr.heap.size)
      case atStart => exact ⟨0, by omega, by omega, rfl, HTE.out.1, HTE.out.2.1, HTE.out.2.2, ⟨_, HRZ.out⟩, HKB.out, Nat.le_refl _⟩
      case round =>
        obtain ⟨i, rfl, hin, rfl, hT2, hf2, hy2, ⟨cs2, hr2⟩, hkb2, hsz2⟩ := hrel
        have k2 : wr.cell? ⟨pb, po + 2, none⟩ = some (.slice A' ne c') := by have := hf2.2.2.1; rw [HES2.out] at this; exact this
        have hl2 := hr2.lt
        have HT2 := Lib.hid hT2
        by_cases hi : i < ne
        · obtain ⟨eb, cs3, rfl, hkl3, hr3⟩ := hkb2 (by omega)
          have H2 := Lib.hid (And.intro hf2 (And.intro hy2 (And.intro hr2 (And.intro hkl3 hr3))))
          have hiI : (i : Int) < (ne : Int) := by omega
          have hi0 : (0 : Int) ≤ (i : Int) := by omega
          have hik : i < y.exprs.length := by have := HNE.out; omega
          obtain ⟨g, hg, hgx⟩ : ∃ g, FeAt wr eb (i * 5) g ∧ ExT (Bsd S0 w.heap.size (.slice (some ⟨tb, 0, none⟩) m c)) wr g y.exprs[i] := by
            obtain ⟨_, _, _, _, _, ⟨fs', e1, e2, e3⟩, _, _⟩ := hy2.flat
            rw [HES2.out] at e2
            have hif : i < fs'.length := by omega
            obtain ⟨b', o', hA', _, hfe⟩ := feAt_of e2.sl hif
            cases hA'
            exact ⟨fs'[i], by simpa using hfe, e3 i _ _ (List.getElem?_eq_getElem hif) (List.getElem?_eq_getElem hik)⟩
          have HG := Lib.hid (And.intro hg hgx)
          have hxn : exN y.exprs[i] ≤ 1048576 := by
            have h1 := HYN.out
            rw [plN_eq] at h1
            have h2 := exsN_mem (List.getElem_mem hik)
            omega
          have HXN := Lib.hid hxn
          have HSZ := Lib.hid hsz2
          have ST := Lib.hid (fun (z : World) (hz : Below wr.heap.size wr z) => show z.cell? ⟨pb, po + 2, none⟩ = some (.slice (some ⟨eb, 0, none⟩) ne c') from (hz.cell (p := ⟨pb, po + 2, none⟩) hl2).trans k2)
          clear hT2 hf2 hy2 hr2 hkb2 hkl3 hr3 hsz2 hg hgx hxn
          go_upto_region 10 with fail
          obtain ⟨u, hu⟩ : ∃ u, wr.drew = u := ⟨_, rfl⟩
          have Bu := Lib.hid (show Below wr.heap.size wr u from hu ▸ (Below.refl _ _).drew)
          have Hu := Lib.hid hu
          have hlu : pb < u.heap.size := by have := Bu.out.size; omega
          clear hu
          refine wp_region_g 13 (fun z => z.cell? ⟨pb, po + 2, none⟩ = some (.slice (some ⟨eb, 0, none⟩) ne c')) (by kernel_rfl) ?_ (fun hHeld => ?_)
          · exact ST.out _ (Below.refl _ _).drew
          rw [Hu.out] at hHeld ⊢
          refine takeG (i := 0) (v := ?v1) rfl (by kernel_rfl) (by kernel_rfl) (by kernel_rfl) (by kernel_rfl) (fun _ _ _ h => h) (Or.inl ⟨by rfl, ?hy1⟩) (by assumption) ?_
          case hy1 => ((intro w' hSw; (try dsimp only at hSw); go_simp) <;> with_reducible rfl)
          try simp only [Act.put, List.setIfInBounds_toArray, List.set_cons_zero, List.set_cons_succ]
          refine takeG (i := 1) (v := ?v2) rfl (by kernel_rfl) (by kernel_rfl) (by kernel_rfl) (by kernel_rfl) (fun _ _ _ h => h) (Or.inl ⟨by rfl, ?hy2⟩) (by assumption) ?_
          case hy2 => ((intro w' hSw; (try dsimp only at hSw); go_simp) <;> with_reducible rfl)
          try simp only [Act.put, List.setIfInBounds_toArray, List.set_cons_zero, List.set_cons_succ]
          refine takeG (i := 2) (v := ?v3) rfl (by kernel_rfl) (by kernel_rfl) (by kernel_rfl) (by kernel_rfl) (fun _ _ _ h => h) (Or.inl ⟨by rfl, ?hy3⟩) (by assumption) ?_
          case hy3 => ((intro w' hSw; (try dsimp only at hSw); go_simp) <;> with_reducible rfl)
          try simp only [Act.put, List.setIfInBounds_toArray, List.set_cons_zero, List.set_cons_succ]
          refine takeG (i := 3) (v := ?v4) rfl (by kernel_rfl) (by kernel_rfl) (by kernel_rfl) (by kernel_rfl) (fun _ _ _ h => h) (Or.inl ⟨by rfl, ?hy4⟩) (by assumption) ?_
          case hy4 => ((intro w' hSw; (try dsimp only at hSw); go_simp) <;> with_reducible rfl)
          try simp only [Act.put, List.setIfInBounds_toArray, List.set_cons_zero, List.set_cons_succ]
          refine takeG (i := 4) (v := ?v5) rfl (by kernel_rfl) (by kernel_rfl) (by kernel_rfl) (by kernel_rfl) (fun _ _ _ h => h) (Or.inl ⟨by rfl, ?hy5⟩) (by assumption) ?_
          case hy5 => ((intro w' hSw; (try dsimp only at hSw); go_simp) <;> with_reducible rfl)
          try simp only [Act.put, List.setIfInBounds_toArray, List.set_cons_zero, List.set_cons_succ]
          refine takeG (i := 5) (v := ?v6) rfl (by kernel_rfl) (by kernel_rfl) (by kernel_rfl) (by kernel_rfl) (fun _ _ _ h => h) (Or.inl ⟨by rfl, ?hy6⟩) (by assumption) ?_
          case hy6 => ((intro w' hSw; (try dsimp only at hSw); go_simp) <;> with_reducible rfl)
          try simp only [Act.put, List.setIfInBounds_toArray, List.set_cons_zero, List.set_cons_succ]
          refine takeG (i := 6) (v := ?v7) rfl (by kernel_rfl) (by kernel_rfl) (by kernel_rfl) (by kernel_rfl) (fun _ _ _ h => h) (Or.inl ⟨by rfl, ?hy7⟩) (by assumption) ?_
          case hy7 => ((intro w' hSw; (try dsimp only at hSw); go_simp) <;> with_reducible rfl)
          try simp only [Act.put, List.setIfInBounds_toArray, List.set_cons_zero, List.set_cons_succ]
          refine takeG (i := 7) (v := ?v8) rfl (by kernel_rfl) (by kernel_rfl) (by kernel_rfl) (by kernel_rfl) (fun _ _ _ h => h) (Or.inl ⟨by rfl, ?hy8⟩) (by assumption) ?_
          case hy8 => ((intro w' hSw; (try dsimp only at hSw); go_simp) <;> with_reducible rfl)
          try simp only [Act.put, List.setIfInBounds_toArray, List.set_cons_zero, List.set_cons_succ]
          refine takeG (i := 8) (v := ?v9) rfl (by kernel_rfl) (by kernel_rfl) (by kernel_rfl) (by kernel_rfl) (fun _ _ _ h => h) (Or.inl ⟨by rfl, ?hy9⟩) (by assumption) ?_
          case hy9 => ((intro w' hSw; (try dsimp only at hSw); go_simp) <;> with_reducible rfl)
          try simp only [Act.put, List.setIfInBounds_toArray, List.set_cons_zero, List.set_cons_succ]
          refine takeG (i := 9) (v := ?v10) rfl (by kernel_rfl) (by kernel_rfl) (by kernel_rfl) (by kernel_rfl) (fun _ _ _ h => h) (Or.inl ⟨by rfl, ?hy10⟩) (by assumption) ?_
          case hy10 => ((intro w' hSw; (try dsimp only at hSw); go_simp) <;> with_reducible rfl)
          try simp only [Act.put, List.setIfInBounds_toArray, List.set_cons_zero, List.set_cons_succ]
          refine takeG (i := 10) (v := ?v11) rfl (by kernel_rfl) (by kernel_rfl) (by kernel_rfl) (by kernel_rfl) (fun _ _ _ h => h) (Or.inl ⟨by rfl, ?hy11⟩) (by assumption) ?_
          case hy11 => ((intro w' hSw; (try dsimp only at hSw); go_simp) <;> with_reducible rfl)
          try simp only [Act.put, List.setIfInBounds_toArray, List.set_cons_zero, List.set_cons_succ]
          refine wpAnyG_ready (rs := [11]) (by kernel_rfl) (by simp) ?_
          refine readyG rfl (fun K hK => ?_) AllReadyG.nil
          go_simp
          go_at_call 41
          refine (exprCopied_ok eb (i * 5) g y.exprs[i] u (HG.out.1.keepB (Bu.out.block eb H2.out.2.2.2.2.lt)) (by have := H2.out.2.2.2.2.lt; have := Bu.out.size; omega) _ (HG.out.2.keep Bu.out.size fun k _ hl => Bu.out.block k hl) HXN.out).mono ?_
          rintro e x1 ⟨g', rfl, hgx, hb⟩
          have B1 := Lib.hid (bch Bu.out hb)
          have hse := hgx.self
          have hs9 := HG.out.2.self
          obtain ⟨gk, gc, gv, gs⟩ := g'
          obtain ⟨rfl, rfl, rfl⟩ : gk = g.kind ∧ gc = g.col ∧ gv = g.val := ⟨hse.1.trans hs9.1.symm, hse.2.1.trans hs9.2.1.symm, hse.2.2.trans hs9.2.2.symm⟩
          have HGX := Lib.hid (hgx.mono (T := Bsd S0 w.heap.size (.slice (some ⟨tb, 0, none⟩) m c)) fun k _ hk => by
            rcases hk with hk | hk
            · exact hk
            · exact BSZ.out k (by have := HSZ.out; have := Bu.out.size; omega))
          have hg1 : FeAt x1 eb (i * 5) g := HG.out.1.keepB (B1.out.block eb H2.out.2.2.2.2.lt)
          have HG1 := Lib.hid hg1
          have hr1 := H2.out.2.2.2.2.on B1.out
          have HR1 := Lib.hid hr1
          have c0 := hg1.1
          have c1 := hg1.2.1
          have c2 := hg1.2.2.1
          have c3 := hg1.2.2.2.1
          have c4 := hg1.2.2.2.2
          have f0 := hr1.frozen (i * 5)
          have f1' := hr1.frozen (i * 5 + 1)
          have f2' := hr1.frozen (i * 5 + 2)
          have f3' := hr1.frozen (i * 5 + 3)
          have f4' := hr1.frozen (i * 5 + 4)
          have hle := hr1.lt
          unfold feV
          clear hb hgx hse hs9 hg1 hr1
          refine hK.out _ _ ?hS12 (fun hHeld => ?_)
          case hS12 => exact fun _ => ST.out _ B1.out
          replace hHeld := hHeld (by decide)
          clear hK K
          try simp only [Act.put, List.setIfInBounds_toArray, List.set_cons_zero, List.set_cons_succ]
          refine takeG (i := 12) (v := ?v13) rfl (by kernel_rfl) (by kernel_rfl) (by kernel_rfl) (by kernel_rfl) (fun _ _ _ h => h) (Or.inl ⟨by rfl, ?hy13⟩) (by assumption) ?_
          case hy13 => ((intro w' hSw; (try dsimp only at hSw); go_simp) <;> with_reducible rfl)
          try simp only [Act.put, List.setIfInBounds_toArray, List.set_cons_zero, List.set_cons_succ]
          refine wpAnyG_ready (rs := [13]) (by kernel_rfl) (by simp) ?_
          refine readyG rfl (fun K hK => ?_) AllReadyG.nil
          go_simp
          obtain ⟨Z5, hZ5⟩ : ∃ q, (((((x1.setCell ⟨eb, i * 5, none⟩ (.int .i64 g.kind)).setCell ⟨eb, i * 5 + 1, none⟩ (.int .i64 g.col)).setCell ⟨eb, i * 5 + 2, none⟩ (.bool g.val.1)).setCell ⟨eb, i * 5 + 3, none⟩ (.int .i64 g.val.2)).setCell ⟨eb, i * 5 + 4, none⟩ (.slice gs.A gs.n gs.c)) = q := ⟨_, rfl⟩
          rw [hZ5]
          have S5 := set5_turn HG1.out HR1.out hZ5
          have TX5 := Tdi.turnX (te := 27) (tx := 66) (g' := ⟨g.kind, g.col, g.val, gs⟩) (by decide) (by decide) (HT2.out.on B1.out) H2.out.2.2.2.1 HR1.out.ty (H2.out.2.2.1.on B1.out) (H2.out.1.keepB (B1.out.block pb H2.out.2.2.1.lt)) (H2.out.2.1.keep B1.out.size fun k _ hl => B1.out.block k hl) HG1.out S5.2.2.1 S5.1 S5.2.1 rfl (fun q hq => by
            have e := exIn_fun _ _ _ hq.in_ (HG.out.2.keep B1.out.size fun k _ hl => B1.out.block k hl).in_
            rw [e]
            exact HGX.out)
          have HX5 := Lib.hid (And.intro TX5 (And.intro S5.2.2.2 S5.1.1))
          clear S5 TX5 hZ5
          refine hK.out _ _ ?hS14 (fun hHeld => ?_)
          case hS14 => exact fun h => absurd rfl h
          clear hK K
          try simp only [Act.put, List.setIfInBounds_toArray, List.set_cons_zero, List.set_cons_succ]
          refine wpAnyG_done (by kernel_rfl) ?_ _
          go_wp2
          go_roundg (ne - (i + 1))
          case measure => omega
          case rel => exact ⟨i + 1, rfl, by omega, by go_num, HX5.out.1.1, HX5.out.1.2.1, HX5.out.1.2.2.1, ⟨_, HX5.out.1.2.2.2⟩, fun _ => by obtain ⟨cs9, h9⟩ := HX5.out.2.1; exact ⟨eb, cs9, rfl, H2.out.2.2.2.1, h9⟩, by have := HSZ.out; have := B1.out.size; have := HX5.out.2.2; omega⟩
        · have hiI : ¬ (i : Int) < (ne : Int) := by omega
          have HF2 := Lib.hid (And.intro hf2 (And.intro hy2 hr2))
          obtain ⟨_, _, _, ⟨p4, _, _⟩, _, _, p7, _⟩ := hy2.flat
          have hcl : y.cols.length ≤ 1048576 := hy2.bnd.all.1.2.1
          have HP4 := Lib.hid (And.intro p4 p7)
          have HCI := Lib.hid (copiedI_ok f2.cs.A f2.cs.c y.cols wr hcl p7.sl)
          rw [← p4] at HCI
          have q3 : wr.cell? ⟨pb, po + 3, none⟩ = some (.slice f2.cs.A f2.cs.n f2.cs.c) := hf2.2.2.2.1
          have BS2 := Lib.hid (show ∀ k, wr.heap.size ≤ k → Bsd S0 w.heap.size (.slice (some ⟨tb, 0, none⟩) m c) k from fun k hk => BSZ.out k (by omega))
          clear hT2 hf2 hy2 hr2 hkb2 hsz2 p4 p7 hcl k2
          go_wp2_with fail
          refine HCI.out.mono ?_
          rintro e z3 ⟨A3, c3, rfl, hA3, hc3, hb3⟩
          have TZ3 := HT2.out.on hb3
          have hr3 := HF2.out.2.2.on hb3
          have hf3 : FpAt z3 pb po f2 := HF2.out.1.keepB (hb3.block pb hl2)
          have hy3 := HF2.out.2.1.keep hb3.size fun k _ hl => hb3.block k hl
          have hAs3 := SlS.of_ow intC_length hA3
          obtain ⟨f3, hf3e⟩ : ∃ g : FP, (⟨f2.kind, f2.table, f2.es, ⟨A3, f2.cs.n, c3⟩, f2.ks⟩ : FP) = g := ⟨_, rfl⟩
          have hK3 : ∀ q, PlT (Bsd S0 w.heap.size (.slice (some ⟨tb, 0, none⟩) m c)) z3 f2 q → PlT (Bsd S0 w.heap.size (.slice (some ⟨tb, 0, none⟩) m c)) z3 f3 q := fun q hq => by
            rw [← hf3e]
            refine plT_cs (s := ⟨A3, f2.cs.n, c3⟩) rfl hc3.1 hc3.2 (fun fs' hl' hs' => ?_) hq
            have e := sl_one intC_inj intC_length (by rw [hl', HP4.out.1]) hs'.sl ((HP4.out.2.keep hb3.size fun k _ hl => hb3.block k hl).sl)
            rw [e]
            exact hAs3.mono fun k _ hk => BS2.out k hk
          have hTE := Tdi.turnP (d := 1) (f' := f3) (u := .slice A3 f2.cs.n c3) (by omega) (by decide) TZ3 HP.out.1 hr3 hf3 hy3 (fun j hj => by rw [← hf3e]; match j, hj with | 0, _ => rfl | 1, _ => rfl | 2, _ => rfl | 3, h => exact absurd rfl h | 4, _ => rfl | _ + 5, _ => rfl) (by rw [← hf3e]; rfl) hK3
          have hq3 : z3.cell? ⟨pb, po + 3, none⟩ = some (.slice f2.cs.A f2.cs.n f2.cs.c) := hf3.2.2.2.1
          have hfro := hr3.frozen (po + 3)
          have hplz := hr3.lt
          obtain ⟨Z3, hZ3⟩ : ∃ u, z3.setCell ⟨pb, po + 3, none⟩ (.slice A3 f2.cs.n c3) = u := ⟨_, rfl⟩
          rw [show po + (1 + 2) = po + 3 from rfl, hZ3] at hTE
          have HTE3 := Lib.hid hTE
          have HZ3 := Lib.hid hZ3
          obtain ⟨csZ3, hrZ3⟩ : ∃ cs', Row Z3 pb 27 cs' := by rw [← hZ3]; exact rows_set pb (po + 3) _ pb _ hr3
          have HRZ3 := Lib.hid hrZ3
          have BS3 := Lib.hid (show ∀ k, Z3.heap.size ≤ k → Bsd S0 w.heap.size (.slice (some ⟨tb, 0, none⟩) m c) k from fun k hk => BS2.out k (by have := hb3.size; rw [← hZ3] at hk; simp [World.setCell] at hk; omega))
          obtain ⟨_, _, _, _, ⟨p5, _, _⟩, _, _, fk, e1, e2, e3⟩ := HTE3.out.2.2.flat
          have hkl4 : y.kids.length ≤ 1048576 := HTE3.out.2.2.bnd.all.1.2.2
          have HK4 := Lib.hid (And.intro p5 (And.intro e1 e2))
          have HCP := Lib.hid (copiedP_ok f3.ks.A f3.ks.c fk Z3 (by omega) e2.sl)
          have hfl4 : f3.ks.n = fk.length := by omega
          rw [← hfl4] at HCP
          have HFL4 := Lib.hid hfl4
          have q4 : Z3.cell? ⟨pb, po + 4, none⟩ = some (.slice f3.ks.A f3.ks.n f3.ks.c) := HTE3.out.2.1.2.2.2.2
          have hl3 := hrZ3.lt
          clear hA3 hc3 hb3 TZ3 hr3 hf3 hy3 hAs3 hK3 hTE hZ3 hrZ3 p5 e1 e2 e3 hf3e hkl4 hfl4
          go_upto_region 13 with fail
          rw [HZ3.out]
          go_wp2_with fail
          refine HCP.out.mono ?_
          rintro e z4 ⟨A4, c4', rfl, hA4, hc4, hb4⟩
          have TZ4 := HTE3.out.1.on hb4
          have hr4 := HRZ3.out.on hb4
          have hf4 : FpAt z4 pb po f3 := HTE3.out.2.1.keepB (hb4.block pb hl3)
          have hy4 := HTE3.out.2.2.keep hb4.size fun k _ hl => hb4.block k hl
          have hAs4 := SlS.of_ow fpC_length hA4
          obtain ⟨f4, hf4e⟩ : ∃ g : FP, (⟨f3.kind, f3.table, f3.es, f3.cs, ⟨A4, f3.ks.n, c4'⟩⟩ : FP) = g := ⟨_, rfl⟩
          have hK4 : ∀ q, PlT (Bsd S0 w.heap.size (.slice (some ⟨tb, 0, none⟩) m c)) z4 f3 q → PlT (Bsd S0 w.heap.size (.slice (some ⟨tb, 0, none⟩) m c)) z4 f4 q := fun q hq => by
            rw [← hf4e]
            refine plT_ks (s := ⟨A4, f3.ks.n, c4'⟩) rfl hc4.1 hc4.2 (fun fs' hl' hs' => ?_) hq
            have e := sl_one (fun _ _ => fpC_inj) fpC_length (by rw [hl', HFL4.out]) hs'.sl ((HK4.out.2.2.keep hb4.size fun k _ hl => hb4.block k hl).sl)
            rw [e]
            exact hAs4.mono fun k _ hk => BS3.out k hk
          have hTE := Tdi.turnP (d := 2) (f' := f4) (u := .slice A4 f3.ks.n c4') (by omega) (by decide) TZ4 HP.out.1 hr4 hf4 hy4 (fun j hj => by rw [← hf4e]; match j, hj with | 0, _ => rfl | 1, _ => rfl | 2, _ => rfl | 3, _ => rfl | 4, h => exact absurd rfl h | _ + 5, _ => rfl) (by rw [← hf4e]; rfl) hK4
          have hq4 : z4.cell? ⟨pb, po + 4, none⟩ = some (.slice f3.ks.A f3.ks.n f3.ks.c) := hf4.2.2.2.2
          have hfro := hr4.frozen (po + 4)
          have hplz := hr4.lt
          obtain ⟨Z4, hZ4⟩ : ∃ u, z4.setCell ⟨pb, po + 4, none⟩ (.slice A4 f3.ks.n c4') = u := ⟨_, rfl⟩
          rw [show po + (2 + 2) = po + 4 from rfl, hZ4] at hTE
          have HTE4 := Lib.hid hTE
          have HZ4 := Lib.hid hZ4
          obtain ⟨csZ4, hrZ4⟩ : ∃ cs', Row Z4 pb 27 cs' := by rw [← hZ4]; exact rows_set pb (po + 4) _ pb _ hr4
          have HRZ4 := Lib.hid hrZ4
          have hks4 : f4.ks = ⟨A4, f3.ks.n, c4'⟩ := by rw [← hf4e]
          have HKB4 := Lib.hid (show 0 < f3.ks.n → ∃ kb cs, A4 = some ⟨kb, 0, none⟩ ∧ w.heap.size + 1 ≤ kb ∧ Row Z4 kb 27 cs from fun h0 => by
            rw [HFL4.out] at h0
            obtain ⟨kb, rfl, -, hkb, -, -, -, -⟩ := hA4.head fpC_length h0
            rcases hA4.2 with ⟨h1, _⟩ | ⟨g, cap, cur, hv, hg, hh, _⟩
            · cases h1
            · injection hv with e1 e2 e3
              injection e1 with e1
              injection e1 with e1
              subst e1
              obtain ⟨cs', hr'⟩ := rows_set pb (po + 4) (.slice (some ⟨kb, 0, none⟩) f3.ks.n c4') kb cur.toList (show Row z4 kb 27 cur.toList from hh)
              rw [hZ4] at hr'
              exact ⟨kb, cs', rfl, by have := HTE3.out.1.res.lt; omega, hr'⟩)
          have hkk : Z4.cell? ⟨pb, po + 4, none⟩ = some (.slice A4 f3.ks.n c4') := by have := hTE.2.1.2.2.2.2; rw [hks4] at this; exact this
          have hl4 := hrZ4.lt
          clear hA4 hc4 hb4 TZ4 hr4 hf4 hy4 hAs4 hK4 hTE hZ4 hrZ4 hf4e
          go_upto_region 14 with fail
          rw [HZ4.out]
          go_wp2
          obtain ⟨nk, hnk⟩ : ∃ k, f3.ks.n = k := ⟨_, rfl⟩
          rw [hnk] at HKB4 HFL4 HK4 hks4
          rw [hnk]
          have HKS4 := Lib.hid hks4
          have HNK := Lib.hid (show nk = y.kids.length from HK4.out.1)
          have hnk3 : nk ≤ 1048576 := by rw [HNK.out]; exact HTE4.out.2.2.bnd.all.1.2.2
          clear hnk hq3 q3 hq4 q4 hfro hplz HCP HZ4 hkk hks4 hl2 hl3 hl4 HZ3 HCI
          go_loopg [4, 77] nk (fun g v jv wr => ∃ (j : Nat) (ps : List (Nat × Nat)) (A2 : Option Addr) (n2 c2 : Nat), g = nk - j ∧ j ≤ nk ∧ v = .slice A2 n2 c2 ∧ jv = .int .i64 j ∧ n2 = ps.length ∧ Tdi S0 nodP 27 49 zsP x w wr (.slice A2 n2 c2) ps (ys ++ y.kids.take j) ∧
            FpAt wr pb po f4 ∧ PlT (Bsd S0 w.heap.size (.slice A2 n2 c2)) wr f4 y ∧ (∃ cs, Row wr pb 27 cs) ∧ (0 < nk → ∃ kb cs, A4 = some ⟨kb, 0, none⟩ ∧ w.heap.size + 1 ≤ kb ∧ Row wr kb 27 cs))
          case atStart => exact ⟨0, qs, _, _, _, by omega, by omega, rfl, rfl, HM.out.symm, by simpa using HTE4.out.1, HTE4.out.2.1, HTE4.out.2.2, ⟨_, HRZ4.out⟩, HKB4.out⟩
          case round =>
            obtain ⟨j, ps, A2, n2, c2, rfl, hjn, rfl, rfl, hn2, hT2, hf2, hy2, ⟨cs2, hr2⟩, hkb2⟩ := hrel
            have k4 : wr.cell? ⟨pb, po + 4, none⟩ = some (.slice A4 nk c4') := by have := hf2.2.2.2.2; rw [HKS4.out] at this; exact this
            have hl2 := hr2.lt
            have HT2 := Lib.hid hT2
            by_cases hj : j < nk
            · obtain ⟨kb, cs3, rfl, hkl3, hr3⟩ := hkb2 (by omega)
              have H2 := Lib.hid (And.intro hf2 (And.intro hy2 (And.intro hr2 (And.intro hkl3 hr3))))
              have HN2 := Lib.hid hn2
              have hjI : (j : Int) < (nk : Int) := by omega
              have hj0 : (0 : Int) ≤ (j : Int) := by omega
              obtain ⟨U, hU⟩ : ∃ u, wr.alloc (.cells #[.pointer (some ⟨kb, j * 5, none⟩)] 49) = u := ⟨_, rfl⟩
              have bU : Below wr.heap.size wr U := by rw [← hU]; exact balloc (Below.refl _ _) _
              have TU := Lib.hid (HT2.out.on bU)
              have HSL := Lib.hid (show Sl 1 ptC U U.heap.size (some ⟨wr.heap.size, 0, none⟩) [(kb, j * 5)] by rw [← hU]; exact Row.sl' (t := 49) ptC_length ((Row.new wr _ _).of rfl))
              have HBU := Lib.hid bU
              have HU := Lib.hid hU
              clear hT2 hf2 hy2 hr2 hkb2 hkl3 hr3 bU hU hn2
              have hjk : j < y.kids.length := by have := HNK.out; omega
              have hpl2 : ps.length ≤ 2097152 := by
                have h1 := HT2.out.pend.1
                have h2 := HXS.out
                have h3 := plsN_len (ys ++ y.kids.take j)
                have h4 : plsN (ys ++ y.kids.take j) ≤ plsN (ys ++ [y]) := by
                  rw [plsN_append, plsN_append]
                  simp only [plsN]
                  rw [plN_eq]
                  have h5 : plsN y.kids = plsN (y.kids.take j) + plsN (y.kids.drop j) := by rw [← plsN_append, List.take_append_drop]
                  omega
                omega
              have HPL2 := Lib.hid hpl2
              have hszU := HBU.out.size
              clear hpl2
              go_upto_region 17 with fail
              go_wp2_with (at_builtin; rw [HU.out]; refine wpList_app2 rfl (.tmp 80) (.tmp 87) 69 rfl (w.heap.size + 2) 49 _ 1 8 ptC Try.underlying69 zeroPtP rfl (by decide) (by decide) ptC_length ptC_one (.slice A2 n2 c2) ps rfl TU.out.own (some ⟨wr.heap.size, 0, none⟩) 1 1 [(kb, j * 5)] rfl rfl HSL.out (by simp only [List.length_singleton]; have := HPL2.out; omega) (by have := TU.out.below.size; have h2 := TU.out.outR; obtain ⟨_, h3⟩ := h2; have h4 := h3.lt; have := HBU.out.size; have h6 := HT2.out.own.ty; omega) ?_; intro v' w' how hgr hob; obtain ⟨A3, c3, hv3, h31, h32, -⟩ := how.shape ptC_length; have hk9 := TU.out.kidP (by decide) (H2.out.1.keepB (HBU.out.block pb H2.out.2.2.1.lt)) HKS4.out (H2.out.2.1.keep HBU.out.size fun k _ hl => HBU.out.block k hl) (H2.out.2.2.1.on HBU.out) H2.out.2.2.2.1 (H2.out.2.2.2.2.on HBU.out) hjk how hgr hob; have hln : (ps ++ [(kb, j * 5)]).length = ps.length + 1 := (by simp); rw [hln] at hv3; subst hv3; have HK9 := Lib.hid hk9; clear hk9 how hgr hob h31 h32)
              go_roundg (nk - (j + 1))
              case measure => omega
              case rel => exact ⟨j + 1, _, _, _, _, rfl, by omega, rfl, by go_num, by simp, HK9.out.1, HK9.out.2.1, HK9.out.2.2.1, HK9.out.2.2.2.1, fun _ => by obtain ⟨cs9, h9⟩ := HK9.out.2.2.2.2; exact ⟨kb, cs9, rfl, H2.out.2.2.2.1, h9⟩⟩
            · have HN2 := Lib.hid hn2
              clear hn2
              have hjI : ¬ (j : Int) < (nk : Int) := by omega
              have hjn2 : j = nk := by omega
              have HT3 := Lib.hid (show Tdi S0 nodP 27 49 zsP x w wr (.slice A2 n2 c2) ps (ys ++ y.kids) by
                have h1 := HT2.out
                rw [hjn2, HNK.out, List.take_length] at h1
                exact h1)
              clear hT2 hf2 hy2 hr2 hkb2 k4 hl2 hjn2
              go_wp2
              go_roundg (plsN (ys ++ y.kids))
              case measure =>
                rw [plsN_append, plsN_append]
                simp only [plsN]
                rw [plN_eq]
                omega
              case rel => exact ⟨ps, _, _, _, _, rfl, rfl, HN2.out, by
                have h2 := HXS.out
                rw [plsN_append] at h2
                simp only [plsN] at h2
                rw [plN_eq] at h2
                rw [plsN_append]
                omega, HT3.out⟩
    · obtain rfl : n = 0 := by omega
      obtain ⟨cs, hro⟩ := HT.out.outR
      obtain ⟨fo, hfo, hxo⟩ := HT.out.out
      have c0 : wr.cell? ⟨w.heap.size + 1, 0, none⟩ = some (.int .i64 fo.kind) := by simpa using hfo.1
      have c1 : wr.cell? ⟨w.heap.size + 1, 1, none⟩ = some (.int .i64 fo.table) := by simpa using hfo.2.1
      have c2 : wr.cell? ⟨w.heap.size + 1, 2, none⟩ = some (.slice fo.es.A fo.es.n fo.es.c) := by simpa using hfo.2.2.1
      have c3 : wr.cell? ⟨w.heap.size + 1, 3, none⟩ = some (.slice fo.cs.A fo.cs.n fo.cs.c) := by simpa using hfo.2.2.2.1
      have c4 : wr.cell? ⟨w.heap.size + 1, 4, none⟩ = some (.slice fo.ks.A fo.ks.n fo.ks.c) := by simpa using hfo.2.2.2.2
      have hlo := hro.lt
      have e0 := HT.out.res.cell 0
      have e1 := HT.out.res.cell 1
      have e2 := HT.out.res.cell 2
      have e3 := HT.out.res.cell 3
      have e4 := HT.out.res.cell 4
      unfold zsP at e0 e1 e2 e3 e4
      have f0 := HT.out.res.frozen 0
      have f1 := HT.out.res.frozen 1
      have f2 := HT.out.res.frozen 2
      have f3 := HT.out.res.frozen 3
      have f4 := HT.out.res.frozen 4
      have hlr := HT.out.res.lt
      have HXO := Lib.hid hxo
      clear hfo hxo hro h0 hnl
      go_wp2
      refine bodyPost_ret (v := fpV fo) (by simp [results, Try.results22, go_sem, fpV, e0, e1, e2, e3, e4]) rfl ?_
      have h5 := set5 wr w.heap.size (.int .i64 fo.kind) (.int .i64 fo.table) (.slice fo.es.A fo.es.n fo.es.c) (.slice fo.cs.A fo.cs.n fo.cs.c) (.slice fo.ks.A fo.ks.n fo.ks.c)
      have hX := (HXO.out.keep h5.size fun k hk hl => h5.block k hl hk.2.1).mono (T := fun k => S0 k ∨ w.heap.size ≤ k) fun k _ hk => hk.1
      exact ⟨fo, rfl, hX, Only.from_ HT.out.below rfl h5 fun i (hi : i = w.heap.size) => by omega⟩
end Go.Proofs.Ytcbfbgngkdiijaa
