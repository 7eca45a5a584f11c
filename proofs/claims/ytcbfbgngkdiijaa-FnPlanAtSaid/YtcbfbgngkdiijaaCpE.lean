/-
  Contract: a copy of an expression in memory of its own (copyExpr). (Printed by wip/cpe.py.)
-/
import Derived.Test.YtcbfbgngkdiijaaProg
import Derived.Test.YtcbfbgngkdiijaaGeE
namespace Go.Proofs.Ytcbfbgngkdiijaa
open Go.RowKit Go.Qo
set_option linter.unusedVariables false
set_option linter.unusedSimpArgs false

def CopE (x : Ex) : Prop := ∀ (f : FE) (w : World), ExB x → ExIn w w.heap.size f x →
  Calls Try.prog 45 #[feV f] w fun e w' => ∃ f', e = .returned (feV f') ∧ ExT (fun k => w.heap.size ≤ k) w' f' x ∧ Below w.heap.size w w'

set_option maxRecDepth 20000 in
set_option maxHeartbeats 4000000 in
theorem copyExpr_ok : ∀ x : Ex, CopE x := Ex.ind fun x ih f w hB h => by
  obtain ⟨a1, a2, a3, a4, a5, a6⟩ := h.flat
  have hkl := hB.len
  obtain ⟨W1, hW1⟩ : ∃ z, (w.alloc (.cells #[.int .i64 x.kind, .int .i64 x.col, .bool x.val.1, .int .i64 x.val.2, .slice f.sv.A x.kids.length f.sv.c] 66)).alloc (.cells #[.int .i64 0, .int .i64 0, .bool false, .int .i64 0, .slice none 0 0] 66) = z := ⟨_, rfl⟩
  have B1 : Below w.heap.size w W1 := by rw [← hW1]; exact balloc (balloc (Below.refl _ _) _) _
  have r1 : Row W1 w.heap.size 66 [.int .i64 x.kind, .int .i64 x.col, .bool x.val.1, .int .i64 x.val.2, .slice f.sv.A x.kids.length f.sv.c] := by rw [← hW1]; exact Row.first _ _ _ _
  have r2 : Row W1 (w.heap.size + 1) 66 [.int .i64 0, .int .i64 0, .bool false, .int .i64 0, .slice none 0 0] := by rw [← hW1]; exact Row.second _ _ _ _
  have hs1 : W1.heap.size = w.heap.size + 2 := by rw [← hW1]; simp
  obtain ⟨ob, hob⟩ : ∃ n, W1.heap.size = n := ⟨_, rfl⟩
  obtain ⟨W2, hW2⟩ : ∃ z, W1.alloc (.cells #[.int .i64 x.kind, .int .i64 x.col, .bool x.val.1, .int .i64 x.val.2, .slice none 0 0] 66) = z := ⟨_, rfl⟩
  have B2 : Below W1.heap.size W1 W2 := by rw [← hW2]; exact balloc (Below.refl _ _) _
  have r3 : Row W2 ob 66 [.int .i64 x.kind, .int .i64 x.col, .bool x.val.1, .int .i64 x.val.2, .slice none 0 0] := by rw [← hW2, ← hob]; exact Row.new _ _ _
  have hob1 : w.heap.size + 1 < ob := by omega
  have hob2 : ob < w.heap.size + 3 := by omega
  have HK := Lib.hid (fun (i : Nat) (hi : i < x.kids.length) => h.kid hi)
  have IH := Lib.hid ih
  have HBd := Lib.hid hB
  have HW1 := Lib.hid hW1
  have HW2 := Lib.hid hW2
  have HB1 := Lib.hid B1
  have HB2 := Lib.hid (bch B1 B2)
  have Hr1 := Lib.hid (r1.on B2)
  have Hr2 := Lib.hid (r2.on B2)
  have Hr3 := Lib.hid r3
  have Hob := Lib.hid hob
  have Hnum := Lib.hid (And.intro hob1 hob2)
  have c0 : W1.cell? ⟨w.heap.size, 0, none⟩ = some (.int .i64 x.kind) := r1.cell 0
  have c1 : W1.cell? ⟨w.heap.size, 1, none⟩ = some (.int .i64 x.col) := r1.cell 1
  have c2 : W1.cell? ⟨w.heap.size, 2, none⟩ = some (.bool x.val.1) := r1.cell 2
  have c3 : W1.cell? ⟨w.heap.size, 3, none⟩ = some (.int .i64 x.val.2) := r1.cell 3
  have hl1 := r1.lt
  unfold feV
  rw [a1, a2, a3, a4]
  clear h ih hB a1 a2 a3 a4 a5 a6 B1 B2 r1 r2 r3 hW1 hW2 hs1 hob
  go_enter Try.func45, Try.ntmps45
  go_upto_region 1 with fail
  rw [HW1.out]
  go_wp2
  rw [HW2.out, Hob.out]
  clear c0 c1 c2 c3 hl1
  go_loopg [4] x.kids.length (fun g iv wr => ∃ (i : Nat) (A : Option Addr) (c : Nat), i ≤ x.kids.length ∧ g = x.kids.length - i ∧ iv = .int .i64 i ∧ Kds (w.heap.size + 3) wr (.slice A i c) (x.kids.take i) ∧ Row wr ob 66 [.int .i64 x.kind, .int .i64 x.col, .bool x.val.1, .int .i64 x.val.2, .slice A i c] ∧ Row wr (w.heap.size + 1) 66 [.int .i64 0, .int .i64 0, .bool false, .int .i64 0, .slice none 0 0] ∧ Row wr w.heap.size 66 [.int .i64 x.kind, .int .i64 x.col, .bool x.val.1, .int .i64 x.val.2, .slice f.sv.A x.kids.length f.sv.c] ∧ Below w.heap.size w wr)
  case atStart => exact ⟨0, none, 0, by omega, by omega, rfl, by simpa using Kds.nil, Hr3.out, Hr2.out, Hr1.out, HB2.out⟩
  case round =>
    obtain ⟨i, A, c, hi, rfl, rfl, hkds, hrow, hrow0, hrowe, hb⟩ := hrel
    have HKd := Lib.hid hkds
    have Hrow := Lib.hid hrow
    have Hrow0 := Lib.hid hrow0
    have Hrowe := Lib.hid hrowe
    have HB := Lib.hid hb
    have hlo := hrow.lt
    have hle := hrowe.lt
    have k4 : wr.cell? ⟨w.heap.size, 4, none⟩ = some (.slice f.sv.A x.kids.length f.sv.c) := hrowe.cell 4
    clear hkds hrow hrow0 hrowe hb
    by_cases hlt : i < x.kids.length
    · have hltI : (i : Int) < (x.kids.length : Int) := by omega
      go_wp2
      obtain ⟨b1, o1, g, hA, hBl, ⟨d0, d1, d2, d3, d4⟩, hg⟩ := HK.out i hlt
      have hHA := Lib.hid hA
      rw [hA] at k4
      have SB := Lib.hid (fun (z : World) (hz : Below wr.heap.size wr z) => show z.cell? ⟨ob, 4, none⟩ = some (.slice A i c) ∧ z.cell? ⟨w.heap.size, 4, none⟩ = some (.slice (some ⟨b1, o1, none⟩) x.kids.length f.sv.c) ∧ z.cell? ⟨b1, o1 + i * 5, none⟩ = some (.int .i64 g.kind) ∧ z.cell? ⟨b1, o1 + i * 5 + 1, none⟩ = some (.int .i64 g.col) ∧ z.cell? ⟨b1, o1 + i * 5 + 2, none⟩ = some (.bool g.val.1) ∧ z.cell? ⟨b1, o1 + i * 5 + 3, none⟩ = some (.int .i64 g.val.2) ∧ z.cell? ⟨b1, o1 + i * 5 + 4, none⟩ = some (.slice g.sv.A g.sv.n g.sv.c) from
        ⟨(Hrow.out.on hz).cell 4, (hz.cell (p := ⟨_, _, none⟩) hle).trans k4, ((bch HB.out hz).cell (p := ⟨_, _, none⟩) hBl).trans d0, ((bch HB.out hz).cell (p := ⟨_, _, none⟩) hBl).trans d1, ((bch HB.out hz).cell (p := ⟨_, _, none⟩) hBl).trans d2, ((bch HB.out hz).cell (p := ⟨_, _, none⟩) hBl).trans d3, ((bch HB.out hz).cell (p := ⟨_, _, none⟩) hBl).trans d4⟩)
      have HX := Lib.hid (fun (z : World) (hz : Below wr.heap.size wr z) => IH.out _ (List.getElem_mem hlt) g z (HBd.out.kid (List.getElem_mem hlt)) (hg.on (bch HB.out hz)))
      unfold feV at HX
      obtain ⟨u, hu⟩ : ∃ u, wr.drew = u := ⟨_, rfl⟩
      have Bu := Lib.hid (show Below wr.heap.size wr u from hu ▸ (Below.refl _ _).drew)
      have Hu := Lib.hid hu
      clear hu hg d0 d1 d2 d3 d4 k4 hA
      refine wp_region_g 11 (fun z => z.cell? ⟨ob, 4, none⟩ = some (.slice A i c) ∧ z.cell? ⟨w.heap.size, 4, none⟩ = some (.slice (some ⟨b1, o1, none⟩) x.kids.length f.sv.c) ∧ z.cell? ⟨b1, o1 + i * 5, none⟩ = some (.int .i64 g.kind) ∧ z.cell? ⟨b1, o1 + i * 5 + 1, none⟩ = some (.int .i64 g.col) ∧ z.cell? ⟨b1, o1 + i * 5 + 2, none⟩ = some (.bool g.val.1) ∧ z.cell? ⟨b1, o1 + i * 5 + 3, none⟩ = some (.int .i64 g.val.2) ∧ z.cell? ⟨b1, o1 + i * 5 + 4, none⟩ = some (.slice g.sv.A g.sv.n g.sv.c)) (by kernel_rfl) ?_ (fun hHeld => ?_)
      · exact SB.out _ (Below.refl _ _).drew
      rw [Hu.out] at hHeld ⊢
      refine takeG (i := 0) (v := ?v1) rfl (by kernel_rfl) (by kernel_rfl) (by kernel_rfl) (by kernel_rfl) (fun _ _ _ h => h) (Or.inl ⟨by rfl, ?hy1⟩) (by assumption) ?_
      case hy1 => ((intro w' hSw; (try dsimp only at hSw); go_simp) <;> with_reducible rfl)
      try simp only [Act.put, List.setIfInBounds_toArray, List.set_cons_zero, List.set_cons_succ]
      refine takeG (i := 1) (v := ?v2) rfl (by kernel_rfl) (by kernel_rfl) (by kernel_rfl) (by kernel_rfl) (fun _ _ _ h => h) (Or.inl ⟨by rfl, ?hy2⟩) (by assumption) ?_
      case hy2 => ((intro w' hSw; (try dsimp only at hSw); go_simp) <;> with_reducible rfl)
      try simp only [Act.put, List.setIfInBounds_toArray, List.set_cons_zero, List.set_cons_succ]
      refine takeG (i := 2) (v := ?v3) rfl (by kernel_rfl) (by kernel_rfl) (by kernel_rfl) (by kernel_rfl) (fun _ _ _ h => h) (Or.inl ⟨by rfl, ?hy3⟩) (by assumption) ?_
      case hy3 => ((intro w' hSw; (try dsimp only at hSw); go_simp) <;> with_reducible rfl)
      try simp only [Act.put, List.setIfInBounds_toArray, List.set_cons_zero, List.set_cons_succ]
      refine takeG (i := 3) (v := ?v4) rfl (by kernel_rfl) (by kernel_rfl) (by kernel_rfl) (by kernel_rfl) (fun _ _ _ h => h) (Or.inl ⟨by rfl, ?hy4⟩) (by assumption) ?_
      case hy4 => ((intro w' hSw; (try dsimp only at hSw); go_simp) <;> with_reducible rfl)
      try simp only [Act.put, List.setIfInBounds_toArray, List.set_cons_zero, List.set_cons_succ]
      refine takeG (i := 4) (v := ?v5) rfl (by kernel_rfl) (by kernel_rfl) (by kernel_rfl) (by kernel_rfl) (fun _ _ _ h => h) (Or.inl ⟨by rfl, ?hy5⟩) (by assumption) ?_
      case hy5 => ((intro w' hSw; (try dsimp only at hSw); go_simp) <;> with_reducible rfl)
      try simp only [Act.put, List.setIfInBounds_toArray, List.set_cons_zero, List.set_cons_succ]
      refine takeG (i := 5) (v := ?v6) rfl (by kernel_rfl) (by kernel_rfl) (by kernel_rfl) (by kernel_rfl) (fun _ _ _ h => h) (Or.inl ⟨by rfl, ?hy6⟩) (by assumption) ?_
      case hy6 => ((intro w' hSw; (try dsimp only at hSw); go_simp) <;> with_reducible rfl)
      try simp only [Act.put, List.setIfInBounds_toArray, List.set_cons_zero, List.set_cons_succ]
      refine takeG (i := 6) (v := ?v7) rfl (by kernel_rfl) (by kernel_rfl) (by kernel_rfl) (by kernel_rfl) (fun _ _ _ h => h) (Or.inl ⟨by rfl, ?hy7⟩) (by assumption) ?_
      case hy7 => ((intro w' hSw; (try dsimp only at hSw); go_simp) <;> with_reducible rfl)
      try simp only [Act.put, List.setIfInBounds_toArray, List.set_cons_zero, List.set_cons_succ]
      refine wpAnyG_ready (rs := [7]) (by kernel_rfl) (by simp) ?_
      refine readyG rfl (fun K hK => ?_) AllReadyG.nil
      go_simp
      go_at_call 45
      refine (HX.out u Bu.out).mono ?_
      rintro e u1 ⟨f', rfl, hx, hb1⟩
      have B1 := Lib.hid (bch Bu.out hb1)
      have X1 := Lib.hid hx
      have hz0 := Bu.out.size
      have hz1 := hb1.size
      clear hb1 hx
      refine hK.out _ _ ?hS8 (fun hHeld => ?_)
      case hS8 => exact fun _ => SB.out _ B1.out
      replace hHeld := hHeld (by decide)
      clear hK K
      try simp only [Act.put, List.setIfInBounds_toArray, List.set_cons_zero, List.set_cons_succ]
      refine wpAnyG_ready (rs := [8]) (by kernel_rfl) (by simp) ?_
      refine readyG rfl (fun K hK => ?_) AllReadyG.nil
      obtain ⟨u2, hu2⟩ : ∃ z, u1.alloc (.cells #[.int .i64 f'.kind, .int .i64 f'.col, .bool f'.val.1, .int .i64 f'.val.2, .slice f'.sv.A f'.sv.n f'.sv.c] 66) = z := ⟨_, rfl⟩
      have hb2 : Below u1.heap.size u1 u2 := by rw [← hu2]; exact balloc (Below.refl _ _) _
      have hz2 : u2.heap.size = u1.heap.size + 1 := by rw [← hu2]; simp
      have S2 := Lib.hid (show Sl 5 feC u2 u2.heap.size (some ⟨u1.heap.size, 0, none⟩) [f'] by rw [← hu2]; exact Row.sl' (t := 66) feC_length ((Row.new u1 _ _).of rfl))
      have B2 := Lib.hid (bch B1.out hb2)
      have X2 := Lib.hid (X1.out.keep hb2.size fun k _ hl => hb2.block k hl)
      go_simp
      try rw [hu2]
      have Hu2 := Lib.hid hu2
      clear hu2 hb2
      refine hK.out _ _ ?hS9 (fun hHeld => ?_)
      case hS9 => exact fun _ => SB.out _ B2.out
      replace hHeld := hHeld (by decide)
      clear hK K
      try simp only [Act.put, List.setIfInBounds_toArray, List.set_cons_zero, List.set_cons_succ]
      refine wpAnyG_ready (rs := [9]) (by kernel_rfl) (by simp) ?_
      refine readyG rfl (fun K hK => ?_) AllReadyG.nil
      have hti : (x.kids.take i).length = i := by rw [List.length_take]; omega
      obtain ⟨fs, hfl, how, hfx⟩ := HKd.out.only (only_below (S := fun _ => False) B2.out) (fun i hi => hi.elim)
      have hfli : fs.length = i := hfl.trans hti
      obtain ⟨fs0, hfl0, how0, _⟩ := HKd.out
      have X3 := Lib.hid (X2.out.mono (T := fun k => w.heap.size + 3 ≤ k ∧ (Value.slice A i c).ownBlock ≠ some k) fun k hk1 hk => by
        refine ⟨by omega, fun e => ?_⟩
        have := (how0.ty k e).2.1
        omega)
      refine step_app2 rfl (.tmp 20) (.tmp 27) 23 rfl (w.heap.size + 3) 66 _ 5 56 feC Try.underlying23 zeroExT rfl (by decide) (by decide) feC_length feC_one _ fs rfl how (some ⟨u1.heap.size, 0, none⟩) 1 1 [f'] rfl rfl S2.out (by simp; omega) (by omega) ?_
      intro v' u3 hown hgr hob3
      have K3 := Kds.snoc hfl (fun i g y hg hy => hfx i g y hg hy) X3.out hown hgr hob3
      have e3 : x.kids.take i ++ [x.kids[i]] = x.kids.take (i + 1) := by rw [List.take_add_one, List.getElem?_eq_getElem hlt]; rfl
      rw [e3] at K3
      obtain ⟨A3, c3, hv3, hc31, hc32⟩ := K3.shape
      have hti3 : (x.kids.take (i + 1)).length = i + 1 := by rw [List.length_take]; omega
      rw [hti3] at hv3 hc31
      subst hv3
      have hgo : ∀ k, (Value.slice A i c).ownBlock = some k → w.heap.size + 3 ≤ k := fun k hk => (how.ty k hk).1
      have hgb : ∀ k, k < w.heap.size + 3 → k < u2.heap.size → u3.heap[k]? = u2.heap[k]? := fun k hk hl => hgr.block k hl fun e => by have := hgo k e.symm; omega
      have rr := Hrow.out.on B2.out
      have rr0 := Hrow0.out.on B2.out
      have rre := Hrowe.out.on B2.out
      have r3 := rr.keep (hgb ob (by omega) rr.lt)
      have r03 := Lib.hid (rr0.keep (hgb (w.heap.size + 1) (by omega) rr0.lt))
      have re3 := rre.keep (hgb w.heap.size (by omega) rre.lt)
      have Hre3 := Lib.hid re3
      have C3 : u3.cell? ⟨ob, 4, none⟩ = some (.slice A i c) := r3.cell 4
      have F3 := r3.frozen 4
      have B3 := Lib.hid ((bch HB.out B2.out).grown hgr (by have := (bch HB.out B2.out).size; omega) fun k hk => by have := hgo k hk; omega)
      have Hr3' := Lib.hid r3
      have K3' := Lib.hid K3
      have hl3 := r3.lt
      have SBz := SB.out _ B2.out
      have hkeep : ∀ (z o : Nat), z < w.heap.size + 3 → z < u2.heap.size → u3.cell? ⟨z, o, none⟩ = u2.cell? ⟨z, o, none⟩ := fun z o hz hl => World.cell?_of_block (w := u2) (a := ⟨z, o, none⟩) (hgb z hz hl)
      have hw2 : w.heap.size < u2.heap.size := by omega
      have hb12 : b1 < u2.heap.size := by omega
      clear K3 hown hgr hgo rr r3 rr0 rre how hfx e3 hti hti3
      refine hK.out _ _ ?hS10 (fun hHeld => ?_)
      case hS10 => exact fun _ => ⟨C3, (hkeep _ _ (by omega) hw2).trans SBz.2.1, (hkeep _ _ (by omega) hb12).trans SBz.2.2.1, (hkeep _ _ (by omega) hb12).trans SBz.2.2.2.1, (hkeep _ _ (by omega) hb12).trans SBz.2.2.2.2.1, (hkeep _ _ (by omega) hb12).trans SBz.2.2.2.2.2.1, (hkeep _ _ (by omega) hb12).trans SBz.2.2.2.2.2.2⟩
      replace hHeld := hHeld (by decide)
      clear hK K
      try simp only [Act.put, List.setIfInBounds_toArray, List.set_cons_zero, List.set_cons_succ]
      refine takeG (i := 10) (v := ?v11) rfl (by kernel_rfl) (by kernel_rfl) (by kernel_rfl) (by kernel_rfl) (fun _ _ _ h => h) (Or.inl ⟨by rfl, ?hy11⟩) (by assumption) ?_
      case hy11 => ((intro w' hSw; (try dsimp only at hSw); go_simp) <;> with_reducible rfl)
      try simp only [Act.put, List.setIfInBounds_toArray, List.set_cons_zero, List.set_cons_succ]
      refine wpAnyG_ready (rs := [11]) (by kernel_rfl) (by simp) ?_
      refine readyG rfl (fun K hK => ?_) AllReadyG.nil
      go_simp
      refine hK.out _ _ ?hS12 (fun hHeld => ?_)
      case hS12 => exact fun h => absurd rfl h
      clear hK K
      try simp only [Act.put, List.setIfInBounds_toArray, List.set_cons_zero, List.set_cons_succ]
      refine wpAnyG_done (by kernel_rfl) ?_ _
      go_wp2
      go_roundg (x.kids.length - (i + 1))
      case measure => omega
      case rel =>
        obtain ⟨hob1, hob2⟩ := Hnum.out
        have hso := Only.set (S := fun k => k = ob) (p := ⟨ob, 4, none⟩) (Only.refl u3) (.inl rfl) (.slice A3 (i + 1) c3)
        have k4 := K3'.out.only hso (fun j (hj : j = ob) => show j < w.heap.size + 3 by omega)
        exact ⟨i + 1, A3, c3, by omega, by omega, by go_num, k4, Hr3'.out.set 4 _, r03.out.only hso (show ¬ w.heap.size + 1 = ob by omega), Hre3.out.only hso (show ¬ w.heap.size = ob by omega), Only.from_ B3.out rfl hso fun j (hj : j = ob) => by omega⟩
    · have hie : i = x.kids.length := by omega
      have Hie := Lib.hid hie
      have hr := Hrow.out
      have hr0 := Hrow0.out
      have a0 := hr.cell 0
      have a1 := hr.cell 1
      have a2 := hr.cell 2
      have a3 := hr.cell 3
      have a4 := hr.cell 4
      have hl0 := hr0.lt
      have c0 := hr0.cell 0
      have c1 := hr0.cell 1
      have c2 := hr0.cell 2
      have c3 := hr0.cell 3
      have c4' := hr0.cell 4
      have f0 := hr0.frozen 0
      have f1 := hr0.frozen 1
      have f2 := hr0.frozen 2
      have f3 := hr0.frozen 3
      have f4 := hr0.frozen 4
      have hltI : ¬ (i : Int) < (x.kids.length : Int) := by omega
      clear hr hr0 hie
      go_wp2
      refine bodyPost_ret (v := feV ⟨x.kind, x.col, x.val, ⟨A, i, c⟩⟩) (by simp [results, Try.results45, go_sem, feV, c0, c1, c2, c3, c4']) rfl ⟨_, rfl, ?_, ?_⟩
      · have hs := set5 wr (w.heap.size + 1) (.int .i64 x.kind) (.int .i64 x.col) (.bool x.val.1) (.int .i64 x.val.2) (.slice A i c)
        obtain ⟨A', c', hv, hc1, hc2⟩ := HKd.out.shape
        have hti : (x.kids.take i).length = i := by rw [List.length_take]; omega
        rw [hti] at hv hc1
        cases hv
        have he := HKd.out.exs
        rw [List.take_of_length_le (by have := Hie.out; omega)] at he
        have hm := ExT.make (k := x.kind) (c := x.col) (v := x.val) (he.mono fun k _ hk => show w.heap.size + 1 < k by omega) Hie.out hc1 hc2 hkl
        have hx' : Ex.mk x.kind x.col x.val x.kids = x := by cases x; rfl
        rw [hx'] at hm
        exact (hm.keep hs.size fun k hk hl => hs.block k hl (by omega)).mono fun k _ hk => by omega
      · exact Only.from_ HB.out rfl (set5 wr (w.heap.size + 1) _ _ _ _ _) fun i hi => by have hi : i = w.heap.size + 1 := hi; omega
end Go.Proofs.Ytcbfbgngkdiijaa
