/-
  Contract of selected: the rows of a table that a function wants.
-/
import Derived.Test.YtldndapcbgaliaaProg
import Derived.Test.YtldndapcbgaliaaUni
namespace Go.Proofs.Ytldndapcbgaliaa
open Go.RowKit Go.Qo
set_option linter.unusedVariables false
set_option linter.unusedSimpArgs false
attribute [local go_sem] Oper.semAt_some

theorem filter_take_succ (P : Row1 → Bool) (ps : List SRw) (k : Nat) (p : SRw) (hp : ps[k]? = some p) : (ps.take (k + 1)).filter (fun p => P p.2) = (ps.take k).filter (fun p => P p.2) ++ if P p.2 then [p] else [] := by
  rw [List.take_add_one, hp, List.filter_append]
  congr 1
  by_cases h : P p.2 = true
  · simp [h]
  · simp [h]
set_option maxRecDepth 100000 in
set_option maxHeartbeats 2000000 in
theorem selectedIt_ok (W : Int) (pb fb : Nat) (A : Option Addr) (c : Nat) (ps : List SRw) (P : Row1 → Bool) (gf : Nat) (bd lb : Array Value) (w : World) (hn : ps.length ≤ 1048576) (eg : ∀ args w, (callFunc gf args).run Try.prog w = .ok (.enter gf args) w)
    (hRa : Row w pb 25 [.int .i64 W, .slice A ps.length c]) (hRf : Row w fb 74 [.func (.func gf) bd lb]) (hA : Sl 1 svC w w.heap.size A (ps.map (·.1))) (hS : ∀ p ∈ ps, SRs W w p)
    (hP : ∀ p ∈ ps, ∀ z, Below w.heap.size w z → Calls Try.prog gf (bd.push (.slice p.1.A p.1.n p.1.c) ++ lb) z fun e w' => e = .returned (.bool (P p.2)) ∧ Below z.heap.size z w') :
    SeqStopsK Fence.wide 5 Try.prog 111 #[.pointer (some ⟨pb, 0, none⟩), .pointer (some ⟨fb, 0, none⟩)] (fun x : Src W w => #[encSR x.1]) (KpC w.heap.size)
      (fun xs => xs.map (·.1) = ps.filter (fun p => P p.2)) (fun pre => pre.map (·.1) <+: ps.filter (fun p => P p.2)) ps.length w := by
  intro l J Jx z hz hJ hJx hY h0
  have a0 : z.cell? ⟨pb, 1, none⟩ = some (.slice A ps.length c) := (hRa.on hz).cell 1
  have HA := Lib.hid hA
  have HS := Lib.hid hS
  have HY := Lib.hid hY
  have HZ := Lib.hid hz
  have HPP := Lib.hid hP
  have HF := Lib.hid (fun (z : World) (hz : Below w.heap.size w z) => show z.cell? ⟨fb, 0, none⟩ = some (.func (.func gf) bd lb) from (hRf.on hz).cell 0)
  have HJ := Lib.hid hJ
  clear hA hS hY hz hRa hRf hP hJ
  show CallsIn _ _ _ _ #[.func (.yield l) #[] #[], .pointer (some ⟨pb, 0, none⟩), .pointer (some ⟨fb, 0, none⟩)] _ _
  refine callsIn_of_wp Try.func111 rfl trivial ?_ rfl
  simp only [Try.ntmps111, List.size_toArray, List.length_cons, List.length_nil, Nat.reduceAdd, Nat.reduceSub, Array.replicate_succ, Array.replicate_zero, List.push_toArray, List.append_toArray, List.nil_append, List.cons_append]
  gi_wp2
  gi_loopw [9] (fun i wr => ∃ (k : Nat) (pre : List (Src W w)), k ≤ ps.length ∧ i = .int .i64 k ∧ pre.map (·.1) = (ps.take k).filter (fun p => P p.2) ∧ J pre wr ∧ Below w.heap.size w wr ∧ z.heap.size ≤ wr.heap.size)
    (fun i _ => ps.length - (intOf i).toNat)
  case atStart => exact ⟨0, [], Nat.zero_le _, rfl, rfl, h0, HZ.out, Nat.le_refl _⟩
  case round =>
    obtain ⟨k, pre, hk, rfl, hpre, hJs, hb, hzz⟩ := hrel
    by_cases hlt : k < ps.length
    · obtain ⟨p, hp⟩ : ∃ p, ps[k]? = some p := ⟨_, List.getElem?_eq_getElem hlt⟩
      have hps := HS.out p (List.mem_of_getElem? hp)
      obtain ⟨b, off, hAA, hB, hc⟩ := HA.out (by rw [List.length_map]; omega)
      subst hAA
      have c2 : wr.cell? ⟨b, off + k, none⟩ = some (.slice p.1.A p.1.n p.1.c) := by
        rw [hb.cell (p := ⟨b, _, none⟩) hB]
        have := hc k p.1 (by rw [List.getElem?_map, hp]; rfl) 0 _ rfl
        rwa [Nat.mul_one, Nat.add_zero] at this
      have c3 := HF.out wr hb
      have hlen : pre.length < ps.length := by
        have := congrArg List.length hpre
        have h2 := List.length_filter_le (fun p : SRw => P p.2) (ps.take k)
        rw [List.length_map] at this
        rw [List.length_take] at h2
        omega
      have HPk := Lib.hid (HPP.out p (List.mem_of_getElem? hp) wr hb)
      have HP := Lib.hid (And.intro hp (And.intro hpre (And.intro hJs (And.intro hb (And.intro hlen hzz)))))
      clear hp hpre hc hlen hb hJs hzz
      gi_wp2_with fail
      refine ⟨trivial, ?_⟩
      refine (callsIn_wide.2 HPk.out).mono ?_
      rintro e w1 ⟨rfl, hb1⟩
      obtain ⟨t, ht⟩ : ∃ t, P p.2 = t := ⟨_, rfl⟩
      rw [ht]
      have hj1 : J pre w1 := Go.Qo.AbidesFrom.below HJ.out HP.out.2.2.1 hb1
      have H1 := Lib.hid (And.intro hj1 (And.intro hb1 ht))
      clear hj1 hb1 ht
      cases t
      · gi_wp2
        refine ⟨fun f h => (by cases h), ?_⟩
        gi_wp2
        go_roundw
        case rel =>
          refine ⟨k + 1, pre, by omega, by simp, ?_, H1.out.1, bch HP.out.2.2.2.1 H1.out.2.1, Nat.le_trans HP.out.2.2.2.2.2 H1.out.2.1.size⟩
          rw [HP.out.2.1, filter_take_succ P ps k p HP.out.1, H1.out.2.2]
          simp
        case measure => simp [intOf]; omega
      · have hyl := HY.out pre ⟨p, hps⟩ w1 H1.out.1 HP.out.2.2.2.2.1
        change YieldAt _ _ _ l #[.slice p.1.A p.1.n p.1.c] w1 _ at hyl
        obtain ⟨fn, tmps, assign, body, hy, hR⟩ := hyl
        gi_wp2
        refine hR.mono ?_
        have hsn : (pre ++ [(⟨p, hps⟩ : Src W w)]).map (·.1) = (ps.take (k + 1)).filter (fun p => P p.2) := by
          rw [List.map_append, HP.out.2.1, filter_take_succ P ps k p HP.out.1, H1.out.2.2]
          rfl
        have HSN := Lib.hid hsn
        clear hsn
        rintro e W3 (⟨rfl, hJ3, hk3⟩ | ⟨rfl, hJx3⟩)
        · have H3 := Lib.hid (And.intro hJ3 hk3)
          clear hJ3 hk3
          gi_wp2
          go_roundw
          case rel =>
            have hbw := bch HP.out.2.2.2.1 H1.out.2.1
            exact ⟨k + 1, _, by omega, by simp, HSN.out, H3.out.1, hbw.trans (H3.out.2.belowN hbw.size), Nat.le_trans HP.out.2.2.2.2.2 (Nat.le_trans H1.out.2.1.size H3.out.2.size)⟩
          case measure => simp [intOf]; omega
        · have H3 := Lib.hid hJx3
          clear hJx3
          gi_wp2
          refine bodyPost_ret (results_none rfl _ _ _) rfl ?_
          refine ⟨⟨_, rfl⟩, .inr ⟨_, ?_, H3.out⟩⟩
          rw [HSN.out]
          have hpf := (List.take_prefix (k + 1) ps).filter (fun p : SRw => P p.2)
          exact hpf
    · obtain rfl : k = ps.length := by omega
      gi_wp2
      go_end0
      exact ⟨⟨_, rfl⟩, .inl ⟨pre, by rw [hpre, List.take_length], hJs⟩⟩
theorem entersSelected1 : EntersF 111 := enters_of Try.func111 (by kernel_rfl) rfl
theorem resSelected {b : Nat} {v0 v1 : Value} (tmps : Array Value) (hp : tmps.getD 4 undef = .pointer (some ⟨b, 0, none⟩)) (w : World) (c0 : w.cell? ⟨b, 0, none⟩ = some v0) (c1 : w.cell? ⟨b, 1, none⟩ = some v1) :
    (results Try.f64 tmps).run Try.prog w = .ok (.agg #[v0, v1]) w := by
  simp only [Array.getD_eq_getD_getElem?] at hp
  simp [results, Try.results64, go_sem, hp, c0, c1]

set_option maxRecDepth 20000 in
set_option maxHeartbeats 2000000 in
theorem selected_ok (W : Int) (A : Option Addr) (c : Nat) (xs : List Row1) (P : Row1 → Bool) (gf : Nat) (bd lb : Array Value) (w : World) (eg : ∀ args w, (callFunc gf args).run Try.prog w = .ok (.enter gf args) w) (hT : TabOk W xs) (h : Rws w w.heap.size A xs)
    (hP : ∀ (A' : Option Addr) (c' : Nat) (r : Row1), RowOk W r → ∀ z, Below w.heap.size w z → Sl 2 valC z z.heap.size A' r → Calls Try.prog gf (bd.push (.slice A' r.length c') ++ lb) z fun e w' => e = .returned (.bool (P r)) ∧ Below z.heap.size z w') :
    Calls Try.prog 64 #[.agg #[.int .i64 W, .slice A xs.length c], .func (.func gf) bd lb] w (ColRes W (xs.filter P) w) := by
  have hx4 : xs.length ≤ 400 := hT.2.2.1
  obtain ⟨W0, hW0⟩ : ∃ z, ((w.alloc (.cells #[.int .i64 W, .slice A xs.length c] 25)).alloc (.cells #[.func (.func gf) bd lb] 74)).alloc (.cells #[.int .i64 0, .slice none 0 0] 25) = z := ⟨_, rfl⟩
  have B0 : Below w.heap.size w W0 := by rw [← hW0]; exact balloc (balloc (balloc (Below.refl _ _) _) _) _
  have r0 : Row W0 w.heap.size 25 [.int .i64 W, .slice A xs.length c] := by rw [← hW0]; exact ((Row.new _ _ _).alloc _).alloc _
  have r1 : Row W0 (w.heap.size + 1) 74 [.func (.func gf) bd lb] := by rw [← hW0]; exact (Row.second _ _ _ _).alloc _
  have r2 : Row W0 (w.heap.size + 2) 25 [.int .i64 0, .slice none 0 0] := by rw [← hW0]; exact Row.third _ _ _ _ _
  obtain ⟨svs, hl, hv, hin⟩ := h.on B0
  obtain ⟨ps, hp1, hp2, hps⟩ := psOf (W := W) hl (tabRows1 hT) hin
  have hpl : ps.length = xs.length := by rw [← hp2, List.length_map]
  have hit := selectedIt_ok W w.heap.size (w.heap.size + 1) A c ps P gf bd lb W0 (by omega) eg (by rw [hpl]; exact r0) r1 (by rw [hp1]; exact hv) hps
    (fun p hp z hz => by
      have hs := hps p hp
      have := hP p.1.A p.1.c p.2 hs.1 z (bch B0 hz) (hs.2.2.2.2.on hz)
      rw [← hs.2.1] at this
      exact this)
  have HC := collect_ok W ps.length 111 #[.pointer (some ⟨w.heap.size, 0, none⟩), .pointer (some ⟨w.heap.size + 1, 0, none⟩)] (ps.filter fun p => P p.2) W0 entersSelected1 hit
  have hfm : (ps.filter fun p => P p.2).map (·.2) = xs.filter P := by rw [← hp2, List.filter_map]; rfl
  rw [hfm] at HC
  have HC := Lib.hid HC
  have HW := Lib.hid hW0
  have HR := Lib.hid (And.intro B0 r2)
  have a0 : W0.cell? ⟨w.heap.size, 0, none⟩ = some (.int .i64 W) := r0.cell 0
  clear hfm hit hpl hp1 hp2 hps hl hv hin hT h hP B0 r0 r1 r2 hW0
  go_enter Try.func64, Try.ntmps64
  go_upto_region 1 with fail
  rw [HW.out]
  go_wp2_with fail
  refine HC.out.mono ?_
  rintro e w2 ⟨v, cp, rfl, hcp, how, hcc, hb2⟩
  have r2 := HR.out.2.on hb2
  have e0 : w2.cell? ⟨w.heap.size + 2, 0, none⟩ = some (.int .i64 0) := r2.cell 0
  have e1 : w2.cell? ⟨w.heap.size + 2, 1, none⟩ = some (.slice none 0 0) := r2.cell 1
  have f0 := r2.frozen 0
  have f1 := r2.frozen 1
  have l2 := r2.lt
  obtain ⟨A2, c2, rfl, _, _, _⟩ := how.shape svC_length
  generalize (cp.map (·.1)).length = nn at how ⊢
  have H2 := Lib.hid (And.intro hcp (And.intro how (And.intro hcc (And.intro hb2 r2))))
  clear hcp how hcc hb2 r2
  go_wp2
  refine bodyPost_ret (resSelected (b := w.heap.size + 2) _ rfl _ (v0 := .int .i64 W) (v1 := .slice A2 nn c2) (by simp [go_sem, e0, e1, l2]) (by simp [go_sem, e0, e1, l2])) rfl ?_
  obtain ⟨hcp, how, hcc, hb2, r2⟩ := H2.out
  have hS0 := (Only.set (S := fun i => i = w.heap.size + 2) (p := ⟨w.heap.size + 2, 0, none⟩) (Only.refl w2) (.inl rfl) (.int .i64 W)).set (p := ⟨w.heap.size + 2, 1, none⟩) (.inl rfl) (.slice A2 nn c2)
  exact ⟨_, cp, rfl, hcp, (how.only hS0 fun k hk => .inr ⟨25, by decide, by subst hk; exact r2.ty⟩).low HR.out.1.size, (hcc.only hS0 fun k hk => .inr ⟨25, by decide, by subst hk; exact r2.ty⟩).low HR.out.1.size, ((bch HR.out.1 hb2).setCell (p := ⟨w.heap.size + 2, 0, none⟩) (by simp) _).setCell (p := ⟨w.heap.size + 2, 1, none⟩) (by simp) _⟩
end Go.Proofs.Ytldndapcbgaliaa
