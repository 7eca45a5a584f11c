/-
  Contract: a copy of a plan in memory of its own (copyPlan). (Printed by wip/cpp.py.)
-/
import Derived.Test.YtcbfbgngkdiijaaProg
import Derived.Test.YtcbfbgngkdiijaaCpE
import Derived.Test.YtcbfbgngkdiijaaGeP
import Derived.Deep.DeepCutAuto
import Derived.Deep.CutBlock
namespace Go.Proofs.Ytcbfbgngkdiijaa
open Go.RowKit Go.Qo
set_option linter.unusedVariables false
set_option linter.unusedSimpArgs false

def CopP (p : Pl) : Prop := ∀ (f : FP) (w : World), PlB p → PlIn w w.heap.size f p →
  Calls Try.prog 24 #[fpV f] w fun e w' => ∃ f', e = .returned (fpV f') ∧ PlT (fun k => w.heap.size ≤ k) w' f' p ∧ Below w.heap.size w w'

set_option maxRecDepth 20000 in
set_option maxHeartbeats 8000000 in
theorem copyPlan_ok : ∀ p : Pl, CopP p := Pl.ind fun p ih f w hB h => by
  obtain ⟨a1, a2, ⟨a3, a3', a3''⟩, ⟨a4, a4', a4''⟩, ⟨a5, a5', a5''⟩, a6, a7⟩ := h.flat
  obtain ⟨⟨hxl, hcl, hkl⟩, hBe, hBk⟩ := hB.all
  obtain ⟨W1, hW1⟩ : ∃ z, (w.alloc (.cells #[.int .i64 p.kind, .int .i64 p.table, .slice f.es.A p.exprs.length f.es.c, .slice f.cs.A p.cols.length f.cs.c, .slice f.ks.A p.kids.length f.ks.c] 27)).alloc (.cells #[.int .i64 0, .int .i64 0, .slice none 0 0, .slice none 0 0, .slice none 0 0] 27) = z := ⟨_, rfl⟩
  have B1 : Below w.heap.size w W1 := by rw [← hW1]; exact balloc (balloc (Below.refl _ _) _) _
  have r1 : Row W1 w.heap.size 27 [.int .i64 p.kind, .int .i64 p.table, .slice f.es.A p.exprs.length f.es.c, .slice f.cs.A p.cols.length f.cs.c, .slice f.ks.A p.kids.length f.ks.c] := by rw [← hW1]; exact Row.first _ _ _ _
  have r2 : Row W1 (w.heap.size + 1) 27 [.int .i64 0, .int .i64 0, .slice none 0 0, .slice none 0 0, .slice none 0 0] := by rw [← hW1]; exact Row.second _ _ _ _
  have hs1 : W1.heap.size = w.heap.size + 2 := by rw [← hW1]; simp
  have HK := Lib.hid (fun (i : Nat) (hi : i < p.kids.length) => h.kid hi)
  have HE := Lib.hid (fun (i : Nat) (hi : i < p.exprs.length) => a6.at_ hi)
  have HC := Lib.hid (fun (z : World) (hz : Below w.heap.size w z) => a7.on hz)
  have IH := Lib.hid ih
  have HBe := Lib.hid hBe
  have HBk := Lib.hid hBk
  have HW1 := Lib.hid hW1
  have HB1 := Lib.hid B1
  have Hr1 := Lib.hid r1
  have Hr2 := Lib.hid r2
  have Hs1 := Lib.hid hs1
  have BX := Lib.hid (fun (z : World) (hz : Below W1.heap.size W1 z) => show z.cell? ⟨w.heap.size, 0, none⟩ = some (.int .i64 p.kind) ∧ z.cell? ⟨w.heap.size, 1, none⟩ = some (.int .i64 p.table) ∧ z.cell? ⟨w.heap.size, 3, none⟩ = some (.slice f.cs.A p.cols.length f.cs.c) from ⟨(r1.on hz).cell 0, (r1.on hz).cell 1, (r1.on hz).cell 3⟩)
  unfold fpV
  rw [a1, a2, a3, a4, a5]
  clear h ih hB hBe hBk a1 a2 a3 a4 a5 a3' a3'' a4' a4'' a5' a5'' a6 a7 B1 r1 r2 hW1 hs1
  go_enter Try.func24, Try.ntmps24
  go_upto_region 1 with fail
  rw [HW1.out]
  go_cut [3] (fun s3 wx => ∃ (ob : Nat) (A : Option Addr) (c : Nat), s3 = .pointer (some ⟨ob, 0, none⟩) ∧ w.heap.size + 1 < ob ∧ p.cols.length ≤ c ∧ c ≤ maxLen ∧ SlS (fun k => w.heap.size + 1 < k ∧ k ≠ ob) 1 intC wx A p.cols ∧ Row wx ob 27 [.int .i64 p.kind, .int .i64 p.table, .slice none 0 0, .slice A p.cols.length c, .slice none 0 0] ∧ Row wx (w.heap.size + 1) 27 [.int .i64 0, .int .i64 0, .slice none 0 0, .slice none 0 0, .slice none 0 0] ∧ Row wx w.heap.size 27 [.int .i64 p.kind, .int .i64 p.table, .slice f.es.A p.exprs.length f.es.c, .slice f.cs.A p.cols.length f.cs.c, .slice f.ks.A p.kids.length f.ks.c] ∧ Below w.heap.size w wx)
  case first =>
    obtain ⟨u, hu⟩ : ∃ u, W1.drew = u := ⟨_, rfl⟩
    have Bu := Lib.hid (show Below W1.heap.size W1 u from hu ▸ (Below.refl _ _).drew)
    have Hu := Lib.hid hu
    clear hu
    refine wp_region_g 10 (fun z => z.cell? ⟨w.heap.size, 0, none⟩ = some (.int .i64 p.kind) ∧ z.cell? ⟨w.heap.size, 1, none⟩ = some (.int .i64 p.table) ∧ z.cell? ⟨w.heap.size, 3, none⟩ = some (.slice f.cs.A p.cols.length f.cs.c)) (by kernel_rfl) ?_ (fun hHeld => ?_)
    · exact BX.out _ (Below.refl _ _).drew
    rw [Hu.out] at hHeld ⊢
    refine takeG (i := 0) (v := ?v1) rfl (by kernel_rfl) (by kernel_rfl) (by kernel_rfl) (by kernel_rfl) (fun _ _ _ h => h) (Or.inl ⟨by rfl, ?hy1⟩) (by assumption) ?_
    case hy1 => ((intro w' hSw; (try dsimp only at hSw); go_simp) <;> with_reducible rfl)
    try simp only [Act.put, List.setIfInBounds_toArray, List.set_cons_zero, List.set_cons_succ]
    refine takeG (i := 1) (v := ?v2) rfl (by kernel_rfl) (by kernel_rfl) (by kernel_rfl) (by kernel_rfl) (fun _ _ _ h => h) (Or.inl ⟨by rfl, ?hy2⟩) (by assumption) ?_
    case hy2 => ((intro w' hSw; (try dsimp only at hSw); go_simp) <;> with_reducible rfl)
    try simp only [Act.put, List.setIfInBounds_toArray, List.set_cons_zero, List.set_cons_succ]
    refine takeG (i := 2) (v := ?v3) rfl (by kernel_rfl) (by kernel_rfl) (by kernel_rfl) (by kernel_rfl) (fun _ _ _ h => h) (Or.inl ⟨by rfl, ?hy3⟩) (by assumption) ?_
    case hy3 => ((intro w' hSw; (try dsimp only at hSw); go_simp) <;> with_reducible rfl)
    try simp only [Act.put, List.setIfInBounds_toArray, List.set_cons_zero, List.set_cons_succ]
    refine takeG (i := 3) (v := ?v4) rfl (by kernel_rfl) (by kernel_rfl) (by kernel_rfl) (by kernel_rfl) (fun _ _ _ h => h) (Or.inl ⟨by rfl, ?hy4⟩) (by assumption) ?_
    case hy4 => ((intro w' hSw; (try dsimp only at hSw); go_simp) <;> with_reducible rfl)
    try simp only [Act.put, List.setIfInBounds_toArray, List.set_cons_zero, List.set_cons_succ]
    refine takeG (i := 5) (v := ?v5) rfl (by kernel_rfl) (by kernel_rfl) (by kernel_rfl) (by kernel_rfl) (fun _ _ _ h => h) (Or.inl ⟨by rfl, ?hy5⟩) (by assumption) ?_
    case hy5 => ((intro w' hSw; (try dsimp only at hSw); go_simp) <;> with_reducible rfl)
    try simp only [Act.put, List.setIfInBounds_toArray, List.set_cons_zero, List.set_cons_succ]
    refine takeG (i := 6) (v := ?v6) rfl (by kernel_rfl) (by kernel_rfl) (by kernel_rfl) (by kernel_rfl) (fun _ _ _ h => h) (Or.inl ⟨by rfl, ?hy6⟩) (by assumption) ?_
    case hy6 => ((intro w' hSw; (try dsimp only at hSw); go_simp) <;> with_reducible rfl)
    try simp only [Act.put, List.setIfInBounds_toArray, List.set_cons_zero, List.set_cons_succ]
    refine wpAnyG_ready (rs := [4, 9]) (by kernel_rfl) (by simp) ?_
    refine readyG rfl (fun K hK => ?_) (readyG rfl (fun K hK => ?_) AllReadyG.nil)
    · skip
      obtain ⟨x1, hx1⟩ : ∃ y, u.alloc (.cells #[] 3) = y := ⟨_, rfl⟩
      have hb : Below u.heap.size u x1 := by rw [← hx1]; exact balloc (Below.refl _ _) _
      have Bx1 := Lib.hid (bch Bu.out hb)
      have Ox1 := Lib.hid (show Ow (w.heap.size + 2) 3 1 intC x1 (.slice (some ⟨u.heap.size, 0, none⟩) 0 0) ([] : List Int) by rw [← hx1]; exact Ow.lit (xs := ([] : List Int)) rfl rfl (by have := Bu.out.size; have := Hs1.out; omega) (by decide))
      go_simp
      try rw [hx1]
      have Hx1 := Lib.hid hx1
      clear hx1 hb
      refine hK.out _ _ ?hS7 (fun hHeld => ?_)
      case hS7 => exact fun _ => BX.out _ Bx1.out
      replace hHeld := hHeld (by decide)
      clear hK K
      try simp only [Act.put, List.setIfInBounds_toArray, List.set_cons_zero, List.set_cons_succ]
      refine wpAnyG_ready (rs := [7, 9]) (by kernel_rfl) (by simp) ?_
      refine readyG rfl (fun K hK => ?_) (readyG rfl (fun K hK => ?_) AllReadyG.nil)
      · skip
        refine step_app2 rfl (.tmp 10) (.tmp 12) 24 rfl (w.heap.size + 2) 3 _ 1 8 intC Try.underlying24 zeroIntG rfl (by decide) (by decide) intC_length intC_one _ ([] : List Int) rfl Ox1.out f.cs.A p.cols.length f.cs.c p.cols rfl rfl (HC.out x1 (bch HB1.out Bx1.out)) (by simp; omega) (by have := Bx1.out.size; have := Hs1.out; omega) ?_
        intro v' x2 hown hgr hob3
        rw [List.nil_append] at hown
        obtain ⟨A, c, rfl, hcc, hcm, _⟩ := hown.shape intC_length
        have hgo : ∀ k, (Value.slice (some ⟨u.heap.size, 0, none⟩) 0 0).ownBlock = some k → w.heap.size + 2 ≤ k := fun k hk => (Ox1.out.ty k hk).1
        have Bx2 := Lib.hid (Bx1.out.grown hgr (by have := Bx1.out.size; omega) fun k hk => by have := hgo k hk; have := Hs1.out; omega)
        have Ox2 := Lib.hid hown
        clear hown hgr hgo hob3
        refine hK.out _ _ ?hS8 (fun hHeld => ?_)
        case hS8 => exact fun _ => BX.out _ Bx2.out
        replace hHeld := hHeld (by decide)
        clear hK K
        try simp only [Act.put, List.setIfInBounds_toArray, List.set_cons_zero, List.set_cons_succ]
        refine takeG (i := 8) (v := ?v9) rfl (by kernel_rfl) (by kernel_rfl) (by kernel_rfl) (by kernel_rfl) (fun _ _ _ h => h) (Or.inl ⟨by rfl, ?hy9⟩) (by assumption) ?_
        case hy9 => ((intro w' hSw; (try dsimp only at hSw); go_simp) <;> with_reducible rfl)
        try simp only [Act.put, List.setIfInBounds_toArray, List.set_cons_zero, List.set_cons_succ]
        refine wpAnyG_ready (rs := [9]) (by kernel_rfl) (by simp) ?_
        refine readyG rfl (fun K hK => ?_) AllReadyG.nil
        obtain ⟨x3, hx3⟩ : ∃ y, x2.alloc (.cells #[.int .i64 0, .int .i64 0, .slice none 0 0, .slice none 0 0, .slice none 0 0] 27) = y := ⟨_, rfl⟩
        have hb : Below x2.heap.size x2 x3 := by rw [← hx3]; exact balloc (Below.refl _ _) _
        have Bx3 := Lib.hid (bch Bx2.out hb)
        have Qx3 := Lib.hid (show Row x3 x2.heap.size 27 [.int .i64 0, .int .i64 0, .slice none 0 0, .slice none 0 0, .slice none 0 0] by rw [← hx3]; exact Row.new _ _ _)
        have HNob := Lib.hid (show w.heap.size + 1 < x2.heap.size by have := Bx2.out.size; have := Hs1.out; omega)
        have Ox3 := Lib.hid (Ox2.out.on hb)
        have Nv : ∀ k, (Value.slice A p.cols.length c).ownBlock = some k → k ≠ x2.heap.size := fun k hk => by have := (Ox2.out.ty k hk).2.1; omega
        go_simp
        try rw [hx3]
        have Hx3 := Lib.hid hx3
        clear hx3 hb
        refine hK.out _ _ ?hS10 (fun hHeld => ?_)
        case hS10 => exact fun _ => BX.out _ Bx3.out
        replace hHeld := hHeld (by decide)
        clear hK K
        try simp only [Act.put, List.setIfInBounds_toArray, List.set_cons_zero, List.set_cons_succ]
        refine wpAnyG_ready (rs := [10]) (by kernel_rfl) (by simp) ?_
        refine readyG rfl (fun K hK => ?_) AllReadyG.nil
        have hl := Qx3.out.lt
        have q0 := Qx3.out.cell 0
        have f0 := Qx3.out.frozen 0
        have q1 := Qx3.out.cell 1
        have f1 := Qx3.out.frozen 1
        have q2 := Qx3.out.cell 2
        have f2 := Qx3.out.frozen 2
        have q3 := Qx3.out.cell 3
        have f3 := Qx3.out.frozen 3
        have q4 := Qx3.out.cell 4
        have f4 := Qx3.out.frozen 4
        go_simp
        refine hK.out _ _ ?hS11 (fun hHeld => ?_)
        case hS11 => exact fun h => absurd rfl h
        clear hK K
        try simp only [Act.put, List.setIfInBounds_toArray, List.set_cons_zero, List.set_cons_succ]
        refine wpAnyG_done (by kernel_rfl) ?_ _
        go_wp2
        go_meet
        have Nob := HNob.out
        have hs := set5 x3 (x2.heap.size) (.int .i64 p.kind) (.int .i64 p.table) (.slice none 0 0) (.slice A p.cols.length c) (.slice none 0 0)
        have hcs := (SlS.of_ow intC_length Ox3.out)
        refine ⟨x2.heap.size, A, c, rfl, Nob, hcc, hcm, ?_, ((((Qx3.out.set 0 _).set 1 _).set 2 _).set 3 _).set 4 _, (Hr2.out.on Bx3.out).only hs (show ¬ w.heap.size + 1 = x2.heap.size by omega), (Hr1.out.on Bx3.out).only hs (show ¬ w.heap.size = x2.heap.size by omega), Only.from_ (bch HB1.out Bx3.out) rfl hs fun j (hj : j = x2.heap.size) => by omega⟩
        intro h0
        obtain ⟨g, off, hA, hg1, hg2, hcell⟩ := hcs h0
        subst hA
        obtain ⟨g', hv'⟩ : ∃ g', (Value.slice (some ⟨g, off, none⟩) p.cols.length c).ownBlock = some g' := ⟨g, rfl⟩
        have hgn : g ≠ x2.heap.size := Nv g rfl
        exact ⟨g, off, rfl, ⟨by omega, hgn⟩, by have := hs.size; omega, fun i x hx j u hu => (World.cell?_of_block (w := x3) (a := ⟨g, _, none⟩) (hs.block g hg2 hgn)).trans (hcell i x hx j u hu)⟩
      · skip
        obtain ⟨x2, hx2⟩ : ∃ y, x1.alloc (.cells #[.int .i64 0, .int .i64 0, .slice none 0 0, .slice none 0 0, .slice none 0 0] 27) = y := ⟨_, rfl⟩
        have hb : Below x1.heap.size x1 x2 := by rw [← hx2]; exact balloc (Below.refl _ _) _
        have Bx2 := Lib.hid (bch Bx1.out hb)
        have Qx2 := Lib.hid (show Row x2 x1.heap.size 27 [.int .i64 0, .int .i64 0, .slice none 0 0, .slice none 0 0, .slice none 0 0] by rw [← hx2]; exact Row.new _ _ _)
        have HNob := Lib.hid (show w.heap.size + 1 < x1.heap.size by have := Bx1.out.size; have := Hs1.out; omega)
        have Ox2 := Lib.hid (Ox1.out.on hb)
        have Ng : u.heap.size ≠ x1.heap.size := by have := (Ox1.out.ty (u.heap.size) rfl).2.1; omega
        go_simp
        try rw [hx2]
        have Hx2 := Lib.hid hx2
        clear hx2 hb
        refine hK.out _ _ ?hS12 (fun hHeld => ?_)
        case hS12 => exact fun _ => BX.out _ Bx2.out
        replace hHeld := hHeld (by decide)
        clear hK K
        try simp only [Act.put, List.setIfInBounds_toArray, List.set_cons_zero, List.set_cons_succ]
        refine wpAnyG_ready (rs := [7]) (by kernel_rfl) (by simp) ?_
        refine readyG rfl (fun K hK => ?_) AllReadyG.nil
        refine step_app2 rfl (.tmp 10) (.tmp 12) 24 rfl (w.heap.size + 2) 3 _ 1 8 intC Try.underlying24 zeroIntG rfl (by decide) (by decide) intC_length intC_one _ ([] : List Int) rfl Ox2.out f.cs.A p.cols.length f.cs.c p.cols rfl rfl (HC.out x2 (bch HB1.out Bx2.out)) (by simp; omega) (by have := Bx2.out.size; have := Hs1.out; omega) ?_
        intro v' x3 hown hgr hob3
        rw [List.nil_append] at hown
        obtain ⟨A, c, rfl, hcc, hcm, _⟩ := hown.shape intC_length
        have hgo : ∀ k, (Value.slice (some ⟨u.heap.size, 0, none⟩) 0 0).ownBlock = some k → w.heap.size + 2 ≤ k := fun k hk => (Ox2.out.ty k hk).1
        have Bx3 := Lib.hid (Bx2.out.grown hgr (by have := Bx2.out.size; omega) fun k hk => by have := hgo k hk; have := Hs1.out; omega)
        have Ox3 := Lib.hid hown
        have Qx3 := Lib.hid (Qx2.out.keep (hgr.block _ Qx2.out.lt fun e => Ng (Option.some.inj e).symm))
        have Nv : ∀ k, (Value.slice A p.cols.length c).ownBlock = some k → k ≠ x1.heap.size := fun k hk => by
          rcases hob3 with e | e
          · have e1 : some u.heap.size = some k := e.symm.trans hk
            rw [← Option.some.inj e1]; exact Ng
          · have e1 : some x2.heap.size = some k := e.symm.trans hk
            rw [← Option.some.inj e1]; have := Qx2.out.lt; omega
        clear hown hgr hgo hob3
        refine hK.out _ _ ?hS13 (fun hHeld => ?_)
        case hS13 => exact fun _ => BX.out _ Bx3.out
        replace hHeld := hHeld (by decide)
        clear hK K
        try simp only [Act.put, List.setIfInBounds_toArray, List.set_cons_zero, List.set_cons_succ]
        refine takeG (i := 8) (v := ?v14) rfl (by kernel_rfl) (by kernel_rfl) (by kernel_rfl) (by kernel_rfl) (fun _ _ _ h => h) (Or.inl ⟨by rfl, ?hy14⟩) (by assumption) ?_
        case hy14 => ((intro w' hSw; (try dsimp only at hSw); go_simp) <;> with_reducible rfl)
        try simp only [Act.put, List.setIfInBounds_toArray, List.set_cons_zero, List.set_cons_succ]
        refine wpAnyG_ready (rs := [10]) (by kernel_rfl) (by simp) ?_
        refine readyG rfl (fun K hK => ?_) AllReadyG.nil
        have hl := Qx3.out.lt
        have q0 := Qx3.out.cell 0
        have f0 := Qx3.out.frozen 0
        have q1 := Qx3.out.cell 1
        have f1 := Qx3.out.frozen 1
        have q2 := Qx3.out.cell 2
        have f2 := Qx3.out.frozen 2
        have q3 := Qx3.out.cell 3
        have f3 := Qx3.out.frozen 3
        have q4 := Qx3.out.cell 4
        have f4 := Qx3.out.frozen 4
        go_simp
        refine hK.out _ _ ?hS15 (fun hHeld => ?_)
        case hS15 => exact fun h => absurd rfl h
        clear hK K
        try simp only [Act.put, List.setIfInBounds_toArray, List.set_cons_zero, List.set_cons_succ]
        refine wpAnyG_done (by kernel_rfl) ?_ _
        go_wp2
        go_meet
        have Nob := HNob.out
        have hs := set5 x3 (x1.heap.size) (.int .i64 p.kind) (.int .i64 p.table) (.slice none 0 0) (.slice A p.cols.length c) (.slice none 0 0)
        have hcs := (SlS.of_ow intC_length Ox3.out)
        refine ⟨x1.heap.size, A, c, rfl, Nob, hcc, hcm, ?_, ((((Qx3.out.set 0 _).set 1 _).set 2 _).set 3 _).set 4 _, (Hr2.out.on Bx3.out).only hs (show ¬ w.heap.size + 1 = x1.heap.size by omega), (Hr1.out.on Bx3.out).only hs (show ¬ w.heap.size = x1.heap.size by omega), Only.from_ (bch HB1.out Bx3.out) rfl hs fun j (hj : j = x1.heap.size) => by omega⟩
        intro h0
        obtain ⟨g, off, hA, hg1, hg2, hcell⟩ := hcs h0
        subst hA
        obtain ⟨g', hv'⟩ : ∃ g', (Value.slice (some ⟨g, off, none⟩) p.cols.length c).ownBlock = some g' := ⟨g, rfl⟩
        have hgn : g ≠ x1.heap.size := Nv g rfl
        exact ⟨g, off, rfl, ⟨by omega, hgn⟩, by have := hs.size; omega, fun i x hx j u hu => (World.cell?_of_block (w := x3) (a := ⟨g, _, none⟩) (hs.block g hg2 hgn)).trans (hcell i x hx j u hu)⟩
    · skip
      obtain ⟨x1, hx1⟩ : ∃ y, u.alloc (.cells #[.int .i64 0, .int .i64 0, .slice none 0 0, .slice none 0 0, .slice none 0 0] 27) = y := ⟨_, rfl⟩
      have hb : Below u.heap.size u x1 := by rw [← hx1]; exact balloc (Below.refl _ _) _
      have Bx1 := Lib.hid (bch Bu.out hb)
      have Qx1 := Lib.hid (show Row x1 u.heap.size 27 [.int .i64 0, .int .i64 0, .slice none 0 0, .slice none 0 0, .slice none 0 0] by rw [← hx1]; exact Row.new _ _ _)
      have HNob := Lib.hid (show w.heap.size + 1 < u.heap.size by have := Bu.out.size; have := Hs1.out; omega)
      go_simp
      try rw [hx1]
      have Hx1 := Lib.hid hx1
      clear hx1 hb
      refine hK.out _ _ ?hS16 (fun hHeld => ?_)
      case hS16 => exact fun _ => BX.out _ Bx1.out
      replace hHeld := hHeld (by decide)
      clear hK K
      try simp only [Act.put, List.setIfInBounds_toArray, List.set_cons_zero, List.set_cons_succ]
      refine wpAnyG_ready (rs := [4]) (by kernel_rfl) (by simp) ?_
      refine readyG rfl (fun K hK => ?_) AllReadyG.nil
      obtain ⟨x2, hx2⟩ : ∃ y, x1.alloc (.cells #[] 3) = y := ⟨_, rfl⟩
      have hb : Below x1.heap.size x1 x2 := by rw [← hx2]; exact balloc (Below.refl _ _) _
      have Bx2 := Lib.hid (bch Bx1.out hb)
      have Ox2 := Lib.hid (show Ow (w.heap.size + 2) 3 1 intC x2 (.slice (some ⟨x1.heap.size, 0, none⟩) 0 0) ([] : List Int) by rw [← hx2]; exact Ow.lit (xs := ([] : List Int)) rfl rfl (by have := Bx1.out.size; have := Hs1.out; omega) (by decide))
      have Qx2 := Lib.hid (Qx1.out.on hb)
      have Ng : x1.heap.size ≠ u.heap.size := by have := Qx1.out.lt; omega
      go_simp
      try rw [hx2]
      have Hx2 := Lib.hid hx2
      clear hx2 hb
      refine hK.out _ _ ?hS17 (fun hHeld => ?_)
      case hS17 => exact fun _ => BX.out _ Bx2.out
      replace hHeld := hHeld (by decide)
      clear hK K
      try simp only [Act.put, List.setIfInBounds_toArray, List.set_cons_zero, List.set_cons_succ]
      refine wpAnyG_ready (rs := [7]) (by kernel_rfl) (by simp) ?_
      refine readyG rfl (fun K hK => ?_) AllReadyG.nil
      refine step_app2 rfl (.tmp 10) (.tmp 12) 24 rfl (w.heap.size + 2) 3 _ 1 8 intC Try.underlying24 zeroIntG rfl (by decide) (by decide) intC_length intC_one _ ([] : List Int) rfl Ox2.out f.cs.A p.cols.length f.cs.c p.cols rfl rfl (HC.out x2 (bch HB1.out Bx2.out)) (by simp; omega) (by have := Bx2.out.size; have := Hs1.out; omega) ?_
      intro v' x3 hown hgr hob3
      rw [List.nil_append] at hown
      obtain ⟨A, c, rfl, hcc, hcm, _⟩ := hown.shape intC_length
      have hgo : ∀ k, (Value.slice (some ⟨x1.heap.size, 0, none⟩) 0 0).ownBlock = some k → w.heap.size + 2 ≤ k := fun k hk => (Ox2.out.ty k hk).1
      have Bx3 := Lib.hid (Bx2.out.grown hgr (by have := Bx2.out.size; omega) fun k hk => by have := hgo k hk; have := Hs1.out; omega)
      have Ox3 := Lib.hid hown
      have Qx3 := Lib.hid (Qx2.out.keep (hgr.block _ Qx2.out.lt fun e => Ng (Option.some.inj e).symm))
      have Nv : ∀ k, (Value.slice A p.cols.length c).ownBlock = some k → k ≠ u.heap.size := fun k hk => by
        rcases hob3 with e | e
        · have e1 : some x1.heap.size = some k := e.symm.trans hk
          rw [← Option.some.inj e1]; exact Ng
        · have e1 : some x2.heap.size = some k := e.symm.trans hk
          rw [← Option.some.inj e1]; have := Qx2.out.lt; omega
      clear hown hgr hgo hob3
      refine hK.out _ _ ?hS18 (fun hHeld => ?_)
      case hS18 => exact fun _ => BX.out _ Bx3.out
      replace hHeld := hHeld (by decide)
      clear hK K
      try simp only [Act.put, List.setIfInBounds_toArray, List.set_cons_zero, List.set_cons_succ]
      refine takeG (i := 8) (v := ?v19) rfl (by kernel_rfl) (by kernel_rfl) (by kernel_rfl) (by kernel_rfl) (fun _ _ _ h => h) (Or.inl ⟨by rfl, ?hy19⟩) (by assumption) ?_
      case hy19 => ((intro w' hSw; (try dsimp only at hSw); go_simp) <;> with_reducible rfl)
      try simp only [Act.put, List.setIfInBounds_toArray, List.set_cons_zero, List.set_cons_succ]
      refine wpAnyG_ready (rs := [10]) (by kernel_rfl) (by simp) ?_
      refine readyG rfl (fun K hK => ?_) AllReadyG.nil
      have hl := Qx3.out.lt
      have q0 := Qx3.out.cell 0
      have f0 := Qx3.out.frozen 0
      have q1 := Qx3.out.cell 1
      have f1 := Qx3.out.frozen 1
      have q2 := Qx3.out.cell 2
      have f2 := Qx3.out.frozen 2
      have q3 := Qx3.out.cell 3
      have f3 := Qx3.out.frozen 3
      have q4 := Qx3.out.cell 4
      have f4 := Qx3.out.frozen 4
      go_simp
      refine hK.out _ _ ?hS20 (fun hHeld => ?_)
      case hS20 => exact fun h => absurd rfl h
      clear hK K
      try simp only [Act.put, List.setIfInBounds_toArray, List.set_cons_zero, List.set_cons_succ]
      refine wpAnyG_done (by kernel_rfl) ?_ _
      go_wp2
      go_meet
      have Nob := HNob.out
      have hs := set5 x3 (u.heap.size) (.int .i64 p.kind) (.int .i64 p.table) (.slice none 0 0) (.slice A p.cols.length c) (.slice none 0 0)
      have hcs := (SlS.of_ow intC_length Ox3.out)
      refine ⟨u.heap.size, A, c, rfl, Nob, hcc, hcm, ?_, ((((Qx3.out.set 0 _).set 1 _).set 2 _).set 3 _).set 4 _, (Hr2.out.on Bx3.out).only hs (show ¬ w.heap.size + 1 = u.heap.size by omega), (Hr1.out.on Bx3.out).only hs (show ¬ w.heap.size = u.heap.size by omega), Only.from_ (bch HB1.out Bx3.out) rfl hs fun j (hj : j = u.heap.size) => by omega⟩
      intro h0
      obtain ⟨g, off, hA, hg1, hg2, hcell⟩ := hcs h0
      subst hA
      obtain ⟨g', hv'⟩ : ∃ g', (Value.slice (some ⟨g, off, none⟩) p.cols.length c).ownBlock = some g' := ⟨g, rfl⟩
      have hgn : g ≠ u.heap.size := Nv g rfl
      exact ⟨g, off, rfl, ⟨by omega, hgn⟩, by have := hs.size; omega, fun i x hx j u hu => (World.cell?_of_block (w := x3) (a := ⟨g, _, none⟩) (hs.block g hg2 hgn)).trans (hcell i x hx j u hu)⟩
  case rest =>
    obtain ⟨ob, A, c, rfl, hob1, hcc, hcm, hcs, hrow, hrow0, hrowp, hb⟩ := hcut
    have hobs := hrow.lt
    have HCc := Lib.hid (And.intro hcc (And.intro hcm hcs))
    have Hrow := Lib.hid hrow
    have Hrow0 := Lib.hid hrow0
    have Hrowp := Lib.hid hrowp
    have HBw := Lib.hid hb
    obtain ⟨L, hL⟩ : ∃ n, wc.heap.size = n := ⟨_, rfl⟩
    have HL := Lib.hid hL
    rw [hL] at hobs
    have Hn := Lib.hid (And.intro hob1 hobs)
    clear hcc hcm hcs hrow hrow0 hrowp hb hL
    go_upto_block 0 with fail
    go_cut [] (fun wx => ∃ (A1 : Option Addr) (c1 : Nat), p.exprs.length ≤ c1 ∧ c1 ≤ maxLen ∧ L ≤ wx.heap.size ∧ ExsT (fun k => L ≤ k) wx A1 p.exprs ∧ SlS (fun k => w.heap.size + 1 < k ∧ k ≠ ob ∧ k < L) 1 intC wx A p.cols ∧ Row wx ob 27 [.int .i64 p.kind, .int .i64 p.table, .slice A1 p.exprs.length c1, .slice A p.cols.length c, .slice none 0 0] ∧ Row wx (w.heap.size + 1) 27 [.int .i64 0, .int .i64 0, .slice none 0 0, .slice none 0 0, .slice none 0 0] ∧ Row wx w.heap.size 27 [.int .i64 p.kind, .int .i64 p.table, .slice f.es.A p.exprs.length f.es.c, .slice f.cs.A p.cols.length f.cs.c, .slice f.ks.A p.kids.length f.ks.c] ∧ Below w.heap.size w wx)
    case first =>
      go_wp2_with fail
      go_loopg [4] p.exprs.length (fun g iv wr => ∃ (i : Nat) (Ak : Option Addr) (ck : Nat), i ≤ p.exprs.length ∧ g = p.exprs.length - i ∧ iv = .int .i64 i ∧ Kds L wr (.slice Ak i ck) (p.exprs.take i) ∧ SlS (fun k => w.heap.size + 1 < k ∧ k ≠ ob ∧ k < L) 1 intC wr A p.cols ∧ Row wr ob 27 [.int .i64 p.kind, .int .i64 p.table, .slice Ak i ck, .slice A p.cols.length c, .slice none 0 0] ∧ Row wr (w.heap.size + 1) 27 [.int .i64 0, .int .i64 0, .slice none 0 0, .slice none 0 0, .slice none 0 0] ∧ Row wr w.heap.size 27 [.int .i64 p.kind, .int .i64 p.table, .slice f.es.A p.exprs.length f.es.c, .slice f.cs.A p.cols.length f.cs.c, .slice f.ks.A p.kids.length f.ks.c] ∧ Below w.heap.size w wr ∧ L ≤ wr.heap.size)
      case atStart => exact ⟨0, none, 0, by omega, by omega, rfl, by simpa using Kds.nil, HCc.out.2.2.mono fun k hk h => ⟨h.1, h.2, by have := HL.out; omega⟩, Hrow.out, Hrow0.out, Hrowp.out, HBw.out, by have := HL.out; omega⟩
      case round =>
        obtain ⟨i, Ak, ck, hi, rfl, rfl, hkds, hcs, hrow, hrow0, hrowp, hb, hLw⟩ := hrel
        have HKd := Lib.hid hkds
        have HCr := Lib.hid hcs
        have Hrow := Lib.hid hrow
        have Hrow0 := Lib.hid hrow0
        have Hrowp := Lib.hid hrowp
        have HB := Lib.hid hb
        obtain ⟨hob1, hobs⟩ := Hn.out
        have hlo := hrow.lt
        have hlp := hrowp.lt
        have kc : wr.cell? ⟨w.heap.size, 2, none⟩ = some (.slice f.es.A p.exprs.length f.es.c) := hrowp.cell 2
        clear hkds hcs hrow hrow0 hrowp hb
        by_cases hlt : i < p.exprs.length
        · have hltI : (i : Int) < (p.exprs.length : Int) := by omega
          go_wp2
          obtain ⟨b1, o1, g, hA, hBl, ⟨d0, d1, d2, d3, d4⟩, hg⟩ := HE.out i hlt
          rw [hA] at kc
          have SB := Lib.hid (fun (z : World) (hz : Below wr.heap.size wr z) => show z.cell? ⟨ob, 2, none⟩ = some (.slice Ak i ck) ∧ z.cell? ⟨w.heap.size, 2, none⟩ = some (.slice (some ⟨b1, o1, none⟩) p.exprs.length f.es.c) ∧ z.cell? ⟨b1, o1 + i * 5, none⟩ = some (.int .i64 g.kind) ∧ z.cell? ⟨b1, o1 + i * 5 + 1, none⟩ = some (.int .i64 g.col) ∧ z.cell? ⟨b1, o1 + i * 5 + 2, none⟩ = some (.bool g.val.1) ∧ z.cell? ⟨b1, o1 + i * 5 + 3, none⟩ = some (.int .i64 g.val.2) ∧ z.cell? ⟨b1, o1 + i * 5 + 4, none⟩ = some (.slice g.sv.A g.sv.n g.sv.c) from
            ⟨(Hrow.out.on hz).cell 2, (hz.cell (p := ⟨_, _, none⟩) hlp).trans kc, ((bch HB.out hz).cell (p := ⟨_, _, none⟩) hBl).trans d0, ((bch HB.out hz).cell (p := ⟨_, _, none⟩) hBl).trans d1, ((bch HB.out hz).cell (p := ⟨_, _, none⟩) hBl).trans d2, ((bch HB.out hz).cell (p := ⟨_, _, none⟩) hBl).trans d3, ((bch HB.out hz).cell (p := ⟨_, _, none⟩) hBl).trans d4⟩)
          have HX := Lib.hid (fun (z : World) (hz : Below wr.heap.size wr z) => copyExpr_ok p.exprs[i] g z (HBe.out _ (List.getElem_mem hlt)) (hg.on (bch HB.out hz)))
          unfold feV at HX
          obtain ⟨u, hu⟩ : ∃ u, wr.drew = u := ⟨_, rfl⟩
          have Bu := Lib.hid (show Below wr.heap.size wr u from hu ▸ (Below.refl _ _).drew)
          have Hu := Lib.hid hu
          clear hu hg d0 d1 d2 d3 d4 kc hA
          refine wp_region_g 11 (fun z => z.cell? ⟨ob, 2, none⟩ = some (.slice Ak i ck) ∧ z.cell? ⟨w.heap.size, 2, none⟩ = some (.slice (some ⟨b1, o1, none⟩) p.exprs.length f.es.c) ∧ z.cell? ⟨b1, o1 + i * 5, none⟩ = some (.int .i64 g.kind) ∧ z.cell? ⟨b1, o1 + i * 5 + 1, none⟩ = some (.int .i64 g.col) ∧ z.cell? ⟨b1, o1 + i * 5 + 2, none⟩ = some (.bool g.val.1) ∧ z.cell? ⟨b1, o1 + i * 5 + 3, none⟩ = some (.int .i64 g.val.2) ∧ z.cell? ⟨b1, o1 + i * 5 + 4, none⟩ = some (.slice g.sv.A g.sv.n g.sv.c)) (by kernel_rfl) ?_ (fun hHeld => ?_)
          · exact SB.out _ (Below.refl _ _).drew
          rw [Hu.out] at hHeld ⊢
          refine takeG (i := 0) (v := ?v21) rfl (by kernel_rfl) (by kernel_rfl) (by kernel_rfl) (by kernel_rfl) (fun _ _ _ h => h) (Or.inl ⟨by rfl, ?hy21⟩) (by assumption) ?_
          case hy21 => ((intro w' hSw; (try dsimp only at hSw); go_simp) <;> with_reducible rfl)
          try simp only [Act.put, List.setIfInBounds_toArray, List.set_cons_zero, List.set_cons_succ]
          refine takeG (i := 1) (v := ?v22) rfl (by kernel_rfl) (by kernel_rfl) (by kernel_rfl) (by kernel_rfl) (fun _ _ _ h => h) (Or.inl ⟨by rfl, ?hy22⟩) (by assumption) ?_
          case hy22 => ((intro w' hSw; (try dsimp only at hSw); go_simp) <;> with_reducible rfl)
          try simp only [Act.put, List.setIfInBounds_toArray, List.set_cons_zero, List.set_cons_succ]
          refine takeG (i := 2) (v := ?v23) rfl (by kernel_rfl) (by kernel_rfl) (by kernel_rfl) (by kernel_rfl) (fun _ _ _ h => h) (Or.inl ⟨by rfl, ?hy23⟩) (by assumption) ?_
          case hy23 => ((intro w' hSw; (try dsimp only at hSw); go_simp) <;> with_reducible rfl)
          try simp only [Act.put, List.setIfInBounds_toArray, List.set_cons_zero, List.set_cons_succ]
          refine takeG (i := 3) (v := ?v24) rfl (by kernel_rfl) (by kernel_rfl) (by kernel_rfl) (by kernel_rfl) (fun _ _ _ h => h) (Or.inl ⟨by rfl, ?hy24⟩) (by assumption) ?_
          case hy24 => ((intro w' hSw; (try dsimp only at hSw); go_simp) <;> with_reducible rfl)
          try simp only [Act.put, List.setIfInBounds_toArray, List.set_cons_zero, List.set_cons_succ]
          refine takeG (i := 4) (v := ?v25) rfl (by kernel_rfl) (by kernel_rfl) (by kernel_rfl) (by kernel_rfl) (fun _ _ _ h => h) (Or.inl ⟨by rfl, ?hy25⟩) (by assumption) ?_
          case hy25 => ((intro w' hSw; (try dsimp only at hSw); go_simp) <;> with_reducible rfl)
          try simp only [Act.put, List.setIfInBounds_toArray, List.set_cons_zero, List.set_cons_succ]
          refine takeG (i := 5) (v := ?v26) rfl (by kernel_rfl) (by kernel_rfl) (by kernel_rfl) (by kernel_rfl) (fun _ _ _ h => h) (Or.inl ⟨by rfl, ?hy26⟩) (by assumption) ?_
          case hy26 => ((intro w' hSw; (try dsimp only at hSw); go_simp) <;> with_reducible rfl)
          try simp only [Act.put, List.setIfInBounds_toArray, List.set_cons_zero, List.set_cons_succ]
          refine takeG (i := 6) (v := ?v27) rfl (by kernel_rfl) (by kernel_rfl) (by kernel_rfl) (by kernel_rfl) (fun _ _ _ h => h) (Or.inl ⟨by rfl, ?hy27⟩) (by assumption) ?_
          case hy27 => ((intro w' hSw; (try dsimp only at hSw); go_simp) <;> with_reducible rfl)
          try simp only [Act.put, List.setIfInBounds_toArray, List.set_cons_zero, List.set_cons_succ]
          refine wpAnyG_ready (rs := [7]) (by kernel_rfl) (by simp) ?_
          refine readyG rfl (fun K hK => ?_) AllReadyG.nil
          go_simp
          go_at_call 45
          refine (HX.out u Bu.out).mono ?_
          rintro e u1 ⟨f', rfl, hx, hb1⟩
          have B1 := Lib.hid (bch Bu.out hb1)
          have X1 := Lib.hid hx
          have hz0 := Bu.out.size
          have hz1 := hb1.size
          clear hb1 hx
          refine hK.out _ _ ?hS28 (fun hHeld => ?_)
          case hS28 => exact fun _ => SB.out _ B1.out
          replace hHeld := hHeld (by decide)
          clear hK K
          try simp only [Act.put, List.setIfInBounds_toArray, List.set_cons_zero, List.set_cons_succ]
          refine wpAnyG_ready (rs := [8]) (by kernel_rfl) (by simp) ?_
          refine readyG rfl (fun K hK => ?_) AllReadyG.nil
          obtain ⟨u2, hu2⟩ : ∃ z, u1.alloc (.cells #[.int .i64 f'.kind, .int .i64 f'.col, .bool f'.val.1, .int .i64 f'.val.2, .slice f'.sv.A f'.sv.n f'.sv.c] 66) = z := ⟨_, rfl⟩
          have hb2 : Below u1.heap.size u1 u2 := by rw [← hu2]; exact balloc (Below.refl _ _) _
          have hz2 : u2.heap.size = u1.heap.size + 1 := by rw [← hu2]; simp
          have S2 := Lib.hid (show Sl 5 feC u2 u2.heap.size (some ⟨u1.heap.size, 0, none⟩) [f'] by rw [← hu2]; exact Row.sl' (t := 66) feC_length ((Row.new u1 _ _).of rfl))
          have B2 := Lib.hid (bch B1.out hb2)
          have X2 := Lib.hid (X1.out.keep hb2.size fun k _ hl => hb2.block k hl)
          go_simp
          try rw [hu2]
          have Hu2 := Lib.hid hu2
          clear hu2 hb2
          refine hK.out _ _ ?hS29 (fun hHeld => ?_)
          case hS29 => exact fun _ => SB.out _ B2.out
          replace hHeld := hHeld (by decide)
          clear hK K
          try simp only [Act.put, List.setIfInBounds_toArray, List.set_cons_zero, List.set_cons_succ]
          refine wpAnyG_ready (rs := [9]) (by kernel_rfl) (by simp) ?_
          refine readyG rfl (fun K hK => ?_) AllReadyG.nil
          have hti : (p.exprs.take i).length = i := by rw [List.length_take]; omega
          obtain ⟨fs, hfl, how, hfx⟩ := HKd.out.only (only_below (S := fun _ => False) B2.out) (fun i hi => hi.elim)
          have hfli : fs.length = i := hfl.trans hti
          obtain ⟨fs0, hfl0, how0, _⟩ := HKd.out
          have X3 := Lib.hid (X2.out.mono (T := fun k => L ≤ k ∧ (Value.slice Ak i ck).ownBlock ≠ some k) fun k hk1 hk => by
            refine ⟨by omega, fun e => ?_⟩
            have := (how0.ty k e).2.1
            omega)
          refine step_app2 rfl (.tmp 23) (.tmp 30) 23 rfl L 66 _ 5 56 feC Try.underlying23 zeroExT rfl (by decide) (by decide) feC_length feC_one _ fs rfl how (some ⟨u1.heap.size, 0, none⟩) 1 1 [f'] rfl rfl S2.out (by simp; omega) (by omega) ?_
          intro v' u3 hown hgr hob3
          have K3 := Kds.snoc hfl (fun i g y hg hy => hfx i g y hg hy) X3.out hown hgr hob3
          have e3 : p.exprs.take i ++ [p.exprs[i]] = p.exprs.take (i + 1) := by rw [List.take_add_one, List.getElem?_eq_getElem hlt]; rfl
          rw [e3] at K3
          obtain ⟨A3, c3, hv3, hc31, hc32⟩ := K3.shape
          have hti3 : (p.exprs.take (i + 1)).length = i + 1 := by rw [List.length_take]; omega
          rw [hti3] at hv3 hc31
          subst hv3
          have hgo : ∀ k, (Value.slice Ak i ck).ownBlock = some k → L ≤ k := fun k hk => (how.ty k hk).1
          have hgb : ∀ k, k < L → k < u2.heap.size → u3.heap[k]? = u2.heap[k]? := fun k hk hl => hgr.block k hl fun e => by have := hgo k e.symm; omega
          have rr := Hrow.out.on B2.out
          have rr0 := Hrow0.out.on B2.out
          have rre := Hrowp.out.on B2.out
          have r3 := rr.keep (hgb ob (by omega) rr.lt)
          have r03 := Lib.hid (rr0.keep (hgb (w.heap.size + 1) (by omega) rr0.lt))
          have re3 := Lib.hid (rre.keep (hgb w.heap.size (by omega) rre.lt))
          have HC3 := Lib.hid ((HCr.out.keep B2.out.size fun k _ hl => B2.out.block k hl).keep hgr.size fun k hk hl => hgb k (by omega) hl)
          have C3 : u3.cell? ⟨ob, 2, none⟩ = some (.slice Ak i ck) := r3.cell 2
          have F3 := r3.frozen 2
          have B3 := Lib.hid ((bch HB.out B2.out).grown hgr (by have := (bch HB.out B2.out).size; omega) fun k hk => by have := hgo k hk; omega)
          have Hr3' := Lib.hid r3
          have K3' := Lib.hid K3
          have hl3 := r3.lt
          have hL3 : L ≤ u3.heap.size := by have := hgr.size; omega
          have SBz := SB.out _ B2.out
          have hkeep : ∀ (z o : Nat), z < L → z < u2.heap.size → u3.cell? ⟨z, o, none⟩ = u2.cell? ⟨z, o, none⟩ := fun z o hz hl => World.cell?_of_block (w := u2) (a := ⟨z, o, none⟩) (hgb z hz hl)
          have hw2 : w.heap.size < u2.heap.size := by omega
          have hb12 : b1 < u2.heap.size := by omega
          clear K3 hown hgr hgo rr r3 rr0 rre how hfx e3 hti hti3
          refine hK.out _ _ ?hS30 (fun hHeld => ?_)
          case hS30 => exact fun _ => ⟨C3, (hkeep _ _ (by omega) hw2).trans SBz.2.1, (hkeep _ _ (by omega) hb12).trans SBz.2.2.1, (hkeep _ _ (by omega) hb12).trans SBz.2.2.2.1, (hkeep _ _ (by omega) hb12).trans SBz.2.2.2.2.1, (hkeep _ _ (by omega) hb12).trans SBz.2.2.2.2.2.1, (hkeep _ _ (by omega) hb12).trans SBz.2.2.2.2.2.2⟩
          replace hHeld := hHeld (by decide)
          clear hK K
          try simp only [Act.put, List.setIfInBounds_toArray, List.set_cons_zero, List.set_cons_succ]
          refine takeG (i := 10) (v := ?v31) rfl (by kernel_rfl) (by kernel_rfl) (by kernel_rfl) (by kernel_rfl) (fun _ _ _ h => h) (Or.inl ⟨by rfl, ?hy31⟩) (by assumption) ?_
          case hy31 => ((intro w' hSw; (try dsimp only at hSw); go_simp) <;> with_reducible rfl)
          try simp only [Act.put, List.setIfInBounds_toArray, List.set_cons_zero, List.set_cons_succ]
          refine wpAnyG_ready (rs := [11]) (by kernel_rfl) (by simp) ?_
          refine readyG rfl (fun K hK => ?_) AllReadyG.nil
          go_simp
          refine hK.out _ _ ?hS32 (fun hHeld => ?_)
          case hS32 => exact fun h => absurd rfl h
          clear hK K
          try simp only [Act.put, List.setIfInBounds_toArray, List.set_cons_zero, List.set_cons_succ]
          refine wpAnyG_done (by kernel_rfl) ?_ _
          go_wp2
          go_roundg (p.exprs.length - (i + 1))
          case measure => omega
          case rel =>
            obtain ⟨hob1, hobs⟩ := Hn.out
            have hso := Only.set (S := fun k => k = ob) (p := ⟨ob, 2, none⟩) (Only.refl u3) (.inl rfl) (.slice A3 (i + 1) c3)
            have k4 := K3'.out.only hso (fun j (hj : j = ob) => show j < L by omega)
            exact ⟨i + 1, A3, c3, by omega, by omega, by go_num, k4, HC3.out.keep hso.size (fun k hk hl => hso.block k hl hk.2.1), Hr3'.out.set 2 _, r03.out.only hso (show ¬ w.heap.size + 1 = ob by omega), re3.out.only hso (show ¬ w.heap.size = ob by omega), Only.from_ B3.out rfl hso (fun j (hj : j = ob) => by omega), by have := hso.size; omega⟩
        · have hie : i = p.exprs.length := by omega
          have Hie := Lib.hid hie
          have hltI : ¬ (i : Int) < (p.exprs.length : Int) := by omega
          clear hie
          go_wp2
          go_meet
          obtain ⟨A', c', hv, hc1, hc2⟩ := HKd.out.shape
          have hti : (p.exprs.take i).length = i := by rw [List.length_take]; omega
          rw [hti] at hv hc1
          cases hv
          have he := HKd.out.exs
          have hie := Hie.out
          subst hie
          rw [List.take_of_length_le (Nat.le_refl _)] at he
          exact ⟨_, _, hc1, hc2, hLw, he, HCr.out, Hrow.out, Hrow0.out, Hrowp.out, HB.out⟩
    case rest =>
      obtain ⟨A1, c1, hc1, hc1m, hLs, hes, hcs, hrow, hrow0, hrowp, hb⟩ := hcut
      rename_i wx0
      have HEs := Lib.hid (And.intro hc1 (And.intro hc1m hes))
      have HCs := Lib.hid hcs
      have Hrow := Lib.hid hrow
      have Hrow0 := Lib.hid hrow0
      have Hrowp := Lib.hid hrowp
      have HBw := Lib.hid hb
      clear hc1 hc1m hes hcs hrow hrow0 hrowp hb
      obtain ⟨L2, hL2⟩ : ∃ n, wc.heap.size = n := ⟨_, rfl⟩
      have HL2 := Lib.hid hL2
      have hLL : L ≤ L2 := by omega
      have Hn2 := Lib.hid hLL
      clear hL2
      go_wp2
      go_loopg [5] p.kids.length (fun g iv wr => ∃ (i : Nat) (Ak : Option Addr) (ck : Nat), i ≤ p.kids.length ∧ g = p.kids.length - i ∧ iv = .int .i64 i ∧ KdsP L2 wr (.slice Ak i ck) (p.kids.take i) ∧ SlS (fun k => w.heap.size + 1 < k ∧ k ≠ ob ∧ k < L) 1 intC wr A p.cols ∧ Row wr ob 27 [.int .i64 p.kind, .int .i64 p.table, .slice A1 p.exprs.length c1, .slice A p.cols.length c, .slice Ak i ck] ∧ Row wr (w.heap.size + 1) 27 [.int .i64 0, .int .i64 0, .slice none 0 0, .slice none 0 0, .slice none 0 0] ∧ Row wr w.heap.size 27 [.int .i64 p.kind, .int .i64 p.table, .slice f.es.A p.exprs.length f.es.c, .slice f.cs.A p.cols.length f.cs.c, .slice f.ks.A p.kids.length f.ks.c] ∧ Below w.heap.size w wr ∧ L2 ≤ wr.heap.size ∧ ExsT (fun k => L ≤ k ∧ k < L2) wr A1 p.exprs)
      case atStart => exact ⟨0, none, 0, by omega, by omega, rfl, by simpa using KdsP.nil, HCs.out, Hrow.out, Hrow0.out, Hrowp.out, HBw.out, by have := HL2.out; omega, HEs.out.2.2.mono fun k hk h => ⟨h, by have := HL2.out; omega⟩⟩
      case round =>
        obtain ⟨i, Ak, ck, hi, rfl, rfl, hkds, hcs, hrow, hrow0, hrowp, hb, hLw, hes⟩ := hrel
        have HKd := Lib.hid hkds
        have HCr := Lib.hid hcs
        have HEr := Lib.hid hes
        have Hrow := Lib.hid hrow
        have Hrow0 := Lib.hid hrow0
        have Hrowp := Lib.hid hrowp
        have HB := Lib.hid hb
        obtain ⟨hob1, hobs⟩ := Hn.out
        have hlo := hrow.lt
        have hlp := hrowp.lt
        have kc : wr.cell? ⟨w.heap.size, 4, none⟩ = some (.slice f.ks.A p.kids.length f.ks.c) := hrowp.cell 4
        clear hkds hcs hrow hrow0 hrowp hb hes
        by_cases hlt : i < p.kids.length
        · have hltI : (i : Int) < (p.kids.length : Int) := by omega
          go_wp2
          obtain ⟨b1, o1, g, hA, hBl, ⟨d0, d1, d2, d3, d4⟩, hg⟩ := HK.out i hlt
          rw [hA] at kc
          have SB := Lib.hid (fun (z : World) (hz : Below wr.heap.size wr z) => show z.cell? ⟨ob, 4, none⟩ = some (.slice Ak i ck) ∧ z.cell? ⟨w.heap.size, 4, none⟩ = some (.slice (some ⟨b1, o1, none⟩) p.kids.length f.ks.c) ∧ z.cell? ⟨b1, o1 + i * 5, none⟩ = some (.int .i64 g.kind) ∧ z.cell? ⟨b1, o1 + i * 5 + 1, none⟩ = some (.int .i64 g.table) ∧ z.cell? ⟨b1, o1 + i * 5 + 2, none⟩ = some (.slice g.es.A g.es.n g.es.c) ∧ z.cell? ⟨b1, o1 + i * 5 + 3, none⟩ = some (.slice g.cs.A g.cs.n g.cs.c) ∧ z.cell? ⟨b1, o1 + i * 5 + 4, none⟩ = some (.slice g.ks.A g.ks.n g.ks.c) from
            ⟨(Hrow.out.on hz).cell 4, (hz.cell (p := ⟨_, _, none⟩) hlp).trans kc, ((bch HB.out hz).cell (p := ⟨_, _, none⟩) hBl).trans d0, ((bch HB.out hz).cell (p := ⟨_, _, none⟩) hBl).trans d1, ((bch HB.out hz).cell (p := ⟨_, _, none⟩) hBl).trans d2, ((bch HB.out hz).cell (p := ⟨_, _, none⟩) hBl).trans d3, ((bch HB.out hz).cell (p := ⟨_, _, none⟩) hBl).trans d4⟩)
          have HX := Lib.hid (fun (z : World) (hz : Below wr.heap.size wr z) => IH.out _ (List.getElem_mem hlt) g z (HBk.out _ (List.getElem_mem hlt)) (hg.on (bch HB.out hz)))
          unfold fpV at HX
          obtain ⟨u, hu⟩ : ∃ u, wr.drew = u := ⟨_, rfl⟩
          have Bu := Lib.hid (show Below wr.heap.size wr u from hu ▸ (Below.refl _ _).drew)
          have Hu := Lib.hid hu
          clear hu hg d0 d1 d2 d3 d4 kc hA
          refine wp_region_g 11 (fun z => z.cell? ⟨ob, 4, none⟩ = some (.slice Ak i ck) ∧ z.cell? ⟨w.heap.size, 4, none⟩ = some (.slice (some ⟨b1, o1, none⟩) p.kids.length f.ks.c) ∧ z.cell? ⟨b1, o1 + i * 5, none⟩ = some (.int .i64 g.kind) ∧ z.cell? ⟨b1, o1 + i * 5 + 1, none⟩ = some (.int .i64 g.table) ∧ z.cell? ⟨b1, o1 + i * 5 + 2, none⟩ = some (.slice g.es.A g.es.n g.es.c) ∧ z.cell? ⟨b1, o1 + i * 5 + 3, none⟩ = some (.slice g.cs.A g.cs.n g.cs.c) ∧ z.cell? ⟨b1, o1 + i * 5 + 4, none⟩ = some (.slice g.ks.A g.ks.n g.ks.c)) (by kernel_rfl) ?_ (fun hHeld => ?_)
          · exact SB.out _ (Below.refl _ _).drew
          rw [Hu.out] at hHeld ⊢
          refine takeG (i := 0) (v := ?v33) rfl (by kernel_rfl) (by kernel_rfl) (by kernel_rfl) (by kernel_rfl) (fun _ _ _ h => h) (Or.inl ⟨by rfl, ?hy33⟩) (by assumption) ?_
          case hy33 => ((intro w' hSw; (try dsimp only at hSw); go_simp) <;> with_reducible rfl)
          try simp only [Act.put, List.setIfInBounds_toArray, List.set_cons_zero, List.set_cons_succ]
          refine takeG (i := 1) (v := ?v34) rfl (by kernel_rfl) (by kernel_rfl) (by kernel_rfl) (by kernel_rfl) (fun _ _ _ h => h) (Or.inl ⟨by rfl, ?hy34⟩) (by assumption) ?_
          case hy34 => ((intro w' hSw; (try dsimp only at hSw); go_simp) <;> with_reducible rfl)
          try simp only [Act.put, List.setIfInBounds_toArray, List.set_cons_zero, List.set_cons_succ]
          refine takeG (i := 2) (v := ?v35) rfl (by kernel_rfl) (by kernel_rfl) (by kernel_rfl) (by kernel_rfl) (fun _ _ _ h => h) (Or.inl ⟨by rfl, ?hy35⟩) (by assumption) ?_
          case hy35 => ((intro w' hSw; (try dsimp only at hSw); go_simp) <;> with_reducible rfl)
          try simp only [Act.put, List.setIfInBounds_toArray, List.set_cons_zero, List.set_cons_succ]
          refine takeG (i := 3) (v := ?v36) rfl (by kernel_rfl) (by kernel_rfl) (by kernel_rfl) (by kernel_rfl) (fun _ _ _ h => h) (Or.inl ⟨by rfl, ?hy36⟩) (by assumption) ?_
          case hy36 => ((intro w' hSw; (try dsimp only at hSw); go_simp) <;> with_reducible rfl)
          try simp only [Act.put, List.setIfInBounds_toArray, List.set_cons_zero, List.set_cons_succ]
          refine takeG (i := 4) (v := ?v37) rfl (by kernel_rfl) (by kernel_rfl) (by kernel_rfl) (by kernel_rfl) (fun _ _ _ h => h) (Or.inl ⟨by rfl, ?hy37⟩) (by assumption) ?_
          case hy37 => ((intro w' hSw; (try dsimp only at hSw); go_simp) <;> with_reducible rfl)
          try simp only [Act.put, List.setIfInBounds_toArray, List.set_cons_zero, List.set_cons_succ]
          refine takeG (i := 5) (v := ?v38) rfl (by kernel_rfl) (by kernel_rfl) (by kernel_rfl) (by kernel_rfl) (fun _ _ _ h => h) (Or.inl ⟨by rfl, ?hy38⟩) (by assumption) ?_
          case hy38 => ((intro w' hSw; (try dsimp only at hSw); go_simp) <;> with_reducible rfl)
          try simp only [Act.put, List.setIfInBounds_toArray, List.set_cons_zero, List.set_cons_succ]
          refine takeG (i := 6) (v := ?v39) rfl (by kernel_rfl) (by kernel_rfl) (by kernel_rfl) (by kernel_rfl) (fun _ _ _ h => h) (Or.inl ⟨by rfl, ?hy39⟩) (by assumption) ?_
          case hy39 => ((intro w' hSw; (try dsimp only at hSw); go_simp) <;> with_reducible rfl)
          try simp only [Act.put, List.setIfInBounds_toArray, List.set_cons_zero, List.set_cons_succ]
          refine wpAnyG_ready (rs := [7]) (by kernel_rfl) (by simp) ?_
          refine readyG rfl (fun K hK => ?_) AllReadyG.nil
          go_simp
          go_at_call 24
          refine (HX.out u Bu.out).mono ?_
          rintro e u1 ⟨f', rfl, hx, hb1⟩
          have B1 := Lib.hid (bch Bu.out hb1)
          have X1 := Lib.hid hx
          have hz0 := Bu.out.size
          have hz1 := hb1.size
          clear hb1 hx
          refine hK.out _ _ ?hS40 (fun hHeld => ?_)
          case hS40 => exact fun _ => SB.out _ B1.out
          replace hHeld := hHeld (by decide)
          clear hK K
          try simp only [Act.put, List.setIfInBounds_toArray, List.set_cons_zero, List.set_cons_succ]
          refine wpAnyG_ready (rs := [8]) (by kernel_rfl) (by simp) ?_
          refine readyG rfl (fun K hK => ?_) AllReadyG.nil
          obtain ⟨u2, hu2⟩ : ∃ z, u1.alloc (.cells #[.int .i64 f'.kind, .int .i64 f'.table, .slice f'.es.A f'.es.n f'.es.c, .slice f'.cs.A f'.cs.n f'.cs.c, .slice f'.ks.A f'.ks.n f'.ks.c] 27) = z := ⟨_, rfl⟩
          have hb2 : Below u1.heap.size u1 u2 := by rw [← hu2]; exact balloc (Below.refl _ _) _
          have hz2 : u2.heap.size = u1.heap.size + 1 := by rw [← hu2]; simp
          have S2 := Lib.hid (show Sl 5 fpC u2 u2.heap.size (some ⟨u1.heap.size, 0, none⟩) [f'] by rw [← hu2]; exact Row.sl' (t := 27) fpC_length ((Row.new u1 _ _).of rfl))
          have B2 := Lib.hid (bch B1.out hb2)
          have X2 := Lib.hid (X1.out.keep hb2.size fun k _ hl => hb2.block k hl)
          go_simp
          try rw [hu2]
          have Hu2 := Lib.hid hu2
          clear hu2 hb2
          refine hK.out _ _ ?hS41 (fun hHeld => ?_)
          case hS41 => exact fun _ => SB.out _ B2.out
          replace hHeld := hHeld (by decide)
          clear hK K
          try simp only [Act.put, List.setIfInBounds_toArray, List.set_cons_zero, List.set_cons_succ]
          refine wpAnyG_ready (rs := [9]) (by kernel_rfl) (by simp) ?_
          refine readyG rfl (fun K hK => ?_) AllReadyG.nil
          have hti : (p.kids.take i).length = i := by rw [List.length_take]; omega
          obtain ⟨fs, hfl, how, hfx⟩ := HKd.out.only (only_below (S := fun _ => False) B2.out) (fun i hi => hi.elim)
          have hfli : fs.length = i := hfl.trans hti
          obtain ⟨fs0, hfl0, how0, _⟩ := HKd.out
          have X3 := Lib.hid (X2.out.mono (T := fun k => L2 ≤ k ∧ (Value.slice Ak i ck).ownBlock ≠ some k) fun k hk1 hk => by
            refine ⟨by omega, fun e => ?_⟩
            have := (how0.ty k e).2.1
            omega)
          refine step_app3 rfl (.tmp 41) (.tmp 48) 25 rfl L2 27 _ 5 88 fpC Try.underlying25 zeroPlT rfl (by decide) (by decide) fpC_length fpC_one _ fs rfl how (some ⟨u1.heap.size, 0, none⟩) 1 1 [f'] rfl rfl S2.out (by simp; omega) (by omega) ?_
          intro v' u3 hown hgr hob3
          have K3 := KdsP.snoc hfl (fun i g y hg hy => hfx i g y hg hy) X3.out hown hgr hob3
          have e3 : p.kids.take i ++ [p.kids[i]] = p.kids.take (i + 1) := by rw [List.take_add_one, List.getElem?_eq_getElem hlt]; rfl
          rw [e3] at K3
          obtain ⟨A3, c3, hv3, hc31, hc32⟩ := K3.shape
          have hti3 : (p.kids.take (i + 1)).length = i + 1 := by rw [List.length_take]; omega
          rw [hti3] at hv3 hc31
          subst hv3
          have hgo : ∀ k, (Value.slice Ak i ck).ownBlock = some k → L2 ≤ k := fun k hk => (how.ty k hk).1
          have hgb : ∀ k, k < L2 → k < u2.heap.size → u3.heap[k]? = u2.heap[k]? := fun k hk hl => hgr.block k hl fun e => by have := hgo k e.symm; omega
          have rr := Hrow.out.on B2.out
          have rr0 := Hrow0.out.on B2.out
          have rre := Hrowp.out.on B2.out
          have r3 := rr.keep (hgb ob (by omega) rr.lt)
          have r03 := Lib.hid (rr0.keep (hgb (w.heap.size + 1) (by omega) rr0.lt))
          have re3 := Lib.hid (rre.keep (hgb w.heap.size (by omega) rre.lt))
          have HC3 := Lib.hid ((HCr.out.keep B2.out.size fun k _ hl => B2.out.block k hl).keep hgr.size fun k hk hl => hgb k (by omega) hl)
          have C3 : u3.cell? ⟨ob, 4, none⟩ = some (.slice Ak i ck) := r3.cell 4
          have F3 := r3.frozen 4
          have B3 := Lib.hid ((bch HB.out B2.out).grown hgr (by have := (bch HB.out B2.out).size; omega) fun k hk => by have := hgo k hk; omega)
          have Hr3' := Lib.hid r3
          have K3' := Lib.hid K3
          have hl3 := r3.lt
          have hL3 : L2 ≤ u3.heap.size := by have := hgr.size; omega
          have SBz := SB.out _ B2.out
          have hkeep : ∀ (z o : Nat), z < L2 → z < u2.heap.size → u3.cell? ⟨z, o, none⟩ = u2.cell? ⟨z, o, none⟩ := fun z o hz hl => World.cell?_of_block (w := u2) (a := ⟨z, o, none⟩) (hgb z hz hl)
          have hw2 : w.heap.size < u2.heap.size := by omega
          have hb12 : b1 < u2.heap.size := by omega
          have HE3 := Lib.hid ((HEr.out.keep B2.out.size fun k _ hl => B2.out.block k hl).keep hgr.size fun k hk hl => hgb k (by omega) hl)
          clear K3 hown hgr hgo rr r3 rr0 rre how hfx e3 hti hti3
          refine hK.out _ _ ?hS42 (fun hHeld => ?_)
          case hS42 => exact fun _ => ⟨C3, (hkeep _ _ (by omega) hw2).trans SBz.2.1, (hkeep _ _ (by omega) hb12).trans SBz.2.2.1, (hkeep _ _ (by omega) hb12).trans SBz.2.2.2.1, (hkeep _ _ (by omega) hb12).trans SBz.2.2.2.2.1, (hkeep _ _ (by omega) hb12).trans SBz.2.2.2.2.2.1, (hkeep _ _ (by omega) hb12).trans SBz.2.2.2.2.2.2⟩
          replace hHeld := hHeld (by decide)
          clear hK K
          try simp only [Act.put, List.setIfInBounds_toArray, List.set_cons_zero, List.set_cons_succ]
          refine takeG (i := 10) (v := ?v43) rfl (by kernel_rfl) (by kernel_rfl) (by kernel_rfl) (by kernel_rfl) (fun _ _ _ h => h) (Or.inl ⟨by rfl, ?hy43⟩) (by assumption) ?_
          case hy43 => ((intro w' hSw; (try dsimp only at hSw); go_simp) <;> with_reducible rfl)
          try simp only [Act.put, List.setIfInBounds_toArray, List.set_cons_zero, List.set_cons_succ]
          refine wpAnyG_ready (rs := [11]) (by kernel_rfl) (by simp) ?_
          refine readyG rfl (fun K hK => ?_) AllReadyG.nil
          go_simp
          refine hK.out _ _ ?hS44 (fun hHeld => ?_)
          case hS44 => exact fun h => absurd rfl h
          clear hK K
          try simp only [Act.put, List.setIfInBounds_toArray, List.set_cons_zero, List.set_cons_succ]
          refine wpAnyG_done (by kernel_rfl) ?_ _
          go_wp2
          go_roundg (p.kids.length - (i + 1))
          case measure => omega
          case rel =>
            obtain ⟨hob1, hobs⟩ := Hn.out
            have hso := Only.set (S := fun k => k = ob) (p := ⟨ob, 4, none⟩) (Only.refl u3) (.inl rfl) (.slice A3 (i + 1) c3)
            have k4 := K3'.out.only hso (fun j (hj : j = ob) => show j < L2 by omega)
            exact ⟨i + 1, A3, c3, by omega, by omega, by go_num, k4, HC3.out.keep hso.size (fun k hk hl => hso.block k hl hk.2.1), Hr3'.out.set 4 _, r03.out.only hso (show ¬ w.heap.size + 1 = ob by omega), re3.out.only hso (show ¬ w.heap.size = ob by omega), Only.from_ B3.out rfl hso (fun j (hj : j = ob) => by omega), by have := hso.size; omega, HE3.out.keep hso.size (fun k hk hl => hso.block k hl (show ¬ k = ob by omega))⟩
        · have hie : i = p.kids.length := by omega
          have Hie := Lib.hid hie
          have hltI : ¬ (i : Int) < (p.kids.length : Int) := by omega
          have hr := Hrow.out
          have hr0 := Hrow0.out
          have a0 := hr.cell 0
          have a1 := hr.cell 1
          have a2 := hr.cell 2
          have a3 := hr.cell 3
          have a4 := hr.cell 4
          have hl0 := hr0.lt
          have c0 := hr0.cell 0
          have c1' := hr0.cell 1
          have c2 := hr0.cell 2
          have c3 := hr0.cell 3
          have c4' := hr0.cell 4
          have f0 := hr0.frozen 0
          have f1 := hr0.frozen 1
          have f2 := hr0.frozen 2
          have f3 := hr0.frozen 3
          have f4 := hr0.frozen 4
          clear hr hr0 hie
          go_wp2
          refine bodyPost_ret (v := fpV ⟨p.kind, p.table, ⟨A1, p.exprs.length, c1⟩, ⟨A, p.cols.length, c⟩, ⟨Ak, i, ck⟩⟩) (by simp [results, Try.results24, go_sem, fpV, c0, c1', c2, c3, c4']) rfl ⟨_, rfl, ?_, ?_⟩
          · have hs := set5 wr (w.heap.size + 1) (.int .i64 p.kind) (.int .i64 p.table) (.slice A1 p.exprs.length c1) (.slice A p.cols.length c) (.slice Ak i ck)
            obtain ⟨A', c', hv, hc1, hc2⟩ := HKd.out.shape
            have hti : (p.kids.take i).length = i := by rw [List.length_take]; omega
            rw [hti] at hv hc1
            cases hv
            have he := HKd.out.exs
            rw [List.take_of_length_le (by have := Hie.out; omega)] at he
            have hll := Hn2.out
            have hm := PlT.make (S := fun k => w.heap.size + 1 < k) (k := p.kind) (t := p.table) (es := ⟨A1, p.exprs.length, c1⟩) (cs := ⟨A, p.cols.length, c⟩) (ks := ⟨Ak, i, ck⟩) ⟨rfl, HEs.out.1, HEs.out.2.1⟩ ⟨rfl, HCc.out.1, HCc.out.2.1⟩ ⟨Hie.out, hc1, hc2⟩ (HEr.out.mono fun k _ hk => by omega) (HCr.out.mono fun k _ hk => hk.1) (PlsT.mono he fun k _ hk => by omega) hxl hcl hkl
            have hx' : Pl.mk p.kind p.table p.exprs p.cols p.kids = p := by cases p; rfl
            rw [hx'] at hm
            exact (hm.keep hs.size fun k hk hl => hs.block k hl (by omega)).mono fun k _ hk => by omega
          · exact Only.from_ HB.out rfl (set5 wr (w.heap.size + 1) _ _ _ _ _) fun i hi => by have hi : i = w.heap.size + 1 := hi; omega
end Go.Proofs.Ytcbfbgngkdiijaa
