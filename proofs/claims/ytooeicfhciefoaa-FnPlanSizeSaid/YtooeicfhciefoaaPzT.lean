/-
  Contracts: scans, TablesOf of the program.
-/
import Derived.Test.YtooeicfhciefoaaProg
import Derived.Test.YtooeicfhciefoaaPzS
import Derived.Test.YtooeicfhciefoaaPln
import Derived.Test.YtooeicfhciefoaaRgG
namespace Go.Proofs.Ytooeicfhciefoaa
open Go.RowKit Go.Qo Go.Shelf
set_option linter.unusedVariables false
set_option linter.unusedSimpArgs false

theorem entersSc1 : ∀ args w, (callFunc 58 args).run Try.prog w = .ok (.enter 58 args) w := enters_of Try.func58 (by kernel_rfl) rfl
set_option maxHeartbeats 2000000 in
set_option maxRecDepth 20000 in
theorem visitsSc1 (B cb tb : Nat) (t : Int) (hcb : B ≤ cb) (htb : tb ≠ cb) : Visits 58 #[.pointer (some ⟨cb, 0, none⟩), .pointer (some ⟨tb, 0, none⟩)] B cb (fun (q : Bool) (z : World) => Row z cb 4 [.bool q] ∧ Row z tb 3 [.int .i64 t]) (fun q x => q || scansT t x) := by
  intro q x f b o z h hb hB hat hI
  obtain ⟨hI, hJ⟩ := hI
  have hlt := hI.lt
  have hlt2 := hJ.lt
  have e0 : z.cell? ⟨cb, 0, none⟩ = some (.bool q) := hI.cell 0
  have f0 := hI.frozen 0
  have j0 : z.cell? ⟨tb, 0, none⟩ = some (.int .i64 t) := hJ.cell 0
  obtain ⟨d0, d1, d2, d3, d4⟩ := hat
  obtain ⟨a1, a2, _⟩ := h.flat
  rw [a1] at d0
  rw [a2] at d1
  have hbz : b < z.heap.size := by omega
  have hbc : b ≠ cb := by omega
  have Hs := Lib.hid (fun (v : Bool) => show But cb z (z.drew.setCell ⟨cb, 0, none⟩ (.bool v)) from (Only.refl (S := fun k => k = cb) z).drew.set (p := ⟨cb, 0, none⟩) (.inl rfl) (.bool v))
  have Hr := Lib.hid (fun (v : Bool) => show Row (z.drew.setCell ⟨cb, 0, none⟩ (.bool v)) cb 4 [.bool v] ∧ Row (z.drew.setCell ⟨cb, 0, none⟩ (.bool v)) tb 3 [.int .i64 t] from ⟨hI.drew.set 0 (.bool v), hJ.drew.only (Only.set (S := fun i => i = cb) (p := ⟨cb, 0, none⟩) (Only.refl _) (.inl rfl) (.bool v)) htb⟩)
  have Hq : Hid (scansT t x = (decide (x.kind = 1) && decide (x.table = t))) := Lib.hid rfl
  clear hI hJ h a1 a2
  show Calls Try.prog 58 #[.pointer (some ⟨b, o, none⟩), .pointer (some ⟨cb, 0, none⟩), .pointer (some ⟨tb, 0, none⟩)] z _
  obtain ⟨sc, hsx⟩ : ∃ sc, scansT t x = sc := ⟨_, rfl⟩
  rw [hsx] at Hq
  generalize x.kind = kd at *
  generalize x.table = tl at *
  have Hx : Hid (scansT t x = sc) := Lib.hid hsx
  have Hlt := Lib.hid (fun (y : World) (hy : z.drew = y) => show cb < y.heap.size by rw [← hy]; exact hlt)
  have Hf := Lib.hid (fun (y : World) (hy : z.drew = y) => show y.frozen? ⟨cb, 0, none⟩ = false by rw [← hy]; exact f0)
  clear hsx
  cases q
  · by_cases hk : kd = 1
    · have Hk := Lib.hid hk
      have d0 : z.cell? ⟨b, o, none⟩ = some (.int .i64 1) := by rw [← hk]; exact d0
      clear hk
      by_cases ht : tl = t
      · have hz : sc = true := by rw [Hq.out, Hk.out, ht]; simp
        have Hz := Lib.hid hz
        subst ht
        clear hz
        go_enter Try.func58, Try.ntmps58
        refine wp_region_g 16 (fun (y : World) => y.cell? ⟨cb, 0, none⟩ = some (.bool false) ∧ y.cell? ⟨tb, 0, none⟩ = some (.int .i64 tl) ∧ y.cell? ⟨b, o, none⟩ = some (.int .i64 1) ∧ y.cell? ⟨b, o + 1, none⟩ = some (.int .i64 tl)) (by kernel_rfl) ?_ (fun hHeld => ?_)
        · exact ⟨e0, j0, d0, d1⟩
        obtain ⟨u0, hu0⟩ : ∃ y, z.drew = y := ⟨_, rfl⟩
        rw [hu0] at hHeld ⊢
        have Hu0 := Lib.hid hu0
        clear hu0
        refine takeG (i := 0) (v := ?v1) rfl (by kernel_rfl) (by kernel_rfl) (by kernel_rfl) (by kernel_rfl) (fun _ _ _ h => h) (Or.inl ⟨by rfl, ?hy1⟩) (by assumption) ?_
        case hy1 => ((intro w' hSw; (try dsimp only at hSw); go_simp) <;> with_reducible rfl)
        try simp only [Act.put, List.setIfInBounds_toArray, List.set_cons_zero, List.set_cons_succ]
        refine takeG (i := 1) (v := ?v2) rfl (by kernel_rfl) (by kernel_rfl) (by kernel_rfl) (by kernel_rfl) (fun _ _ _ h => h) (Or.inl ⟨by rfl, ?hy2⟩) (by assumption) ?_
        case hy2 => ((intro w' hSw; (try dsimp only at hSw); go_simp) <;> with_reducible rfl)
        try simp only [Act.put, List.setIfInBounds_toArray, List.set_cons_zero, List.set_cons_succ]
        refine takeG (i := 2) (v := ?v3) rfl (by kernel_rfl) (by kernel_rfl) (by kernel_rfl) (by kernel_rfl) (fun _ _ _ h => h) (Or.inl ⟨by rfl, ?hy3⟩) (by assumption) ?_
        case hy3 => ((intro w' hSw; (try dsimp only at hSw); go_simp) <;> with_reducible rfl)
        try simp only [Act.put, List.setIfInBounds_toArray, List.set_cons_zero, List.set_cons_succ]
        refine takeG (i := 3) (v := ?v4) rfl (by kernel_rfl) (by kernel_rfl) (by kernel_rfl) (by kernel_rfl) (fun _ _ _ h => h) (Or.inl ⟨by rfl, ?hy4⟩) (by assumption) ?_
        case hy4 => ((intro w' hSw; (try dsimp only at hSw); go_simp) <;> with_reducible rfl)
        try simp only [Act.put, List.setIfInBounds_toArray, List.set_cons_zero, List.set_cons_succ]
        refine takeG (i := 4) (v := ?v5) rfl (by kernel_rfl) (by kernel_rfl) (by kernel_rfl) (by kernel_rfl) (fun _ _ _ h => h) (Or.inl ⟨by rfl, ?hy5⟩) (by assumption) ?_
        case hy5 => ((intro w' hSw; (try dsimp only at hSw); go_simp) <;> with_reducible rfl)
        try simp only [Act.put, List.setIfInBounds_toArray, List.set_cons_zero, List.set_cons_succ]
        refine takeG (i := 5) (v := ?v6) rfl (by kernel_rfl) (by kernel_rfl) (by kernel_rfl) (by kernel_rfl) (fun _ _ _ h => h) (Or.inl ⟨by rfl, ?hy6⟩) (by assumption) ?_
        case hy6 => ((intro w' hSw; (try dsimp only at hSw); go_simp) <;> with_reducible rfl)
        try simp only [Act.put, List.setIfInBounds_toArray, List.set_cons_zero, List.set_cons_succ]
        refine takeG (i := 6) (v := ?v7) rfl (by kernel_rfl) (by kernel_rfl) (by kernel_rfl) (by kernel_rfl) (fun _ _ _ h => h) (Or.inl ⟨by rfl, ?hy7⟩) (by assumption) ?_
        case hy7 => ((intro w' hSw; (try dsimp only at hSw); go_simp) <;> with_reducible rfl)
        try simp only [Act.put, List.setIfInBounds_toArray, List.set_cons_zero, List.set_cons_succ]
        refine takeG (i := 7) (v := ?v8) rfl (by kernel_rfl) (by kernel_rfl) (by kernel_rfl) (by kernel_rfl) (fun _ _ _ h => h) (Or.inl ⟨by rfl, ?hy8⟩) (by assumption) ?_
        case hy8 => ((intro w' hSw; (try dsimp only at hSw); go_simp) <;> with_reducible rfl)
        try simp only [Act.put, List.setIfInBounds_toArray, List.set_cons_zero, List.set_cons_succ]
        refine takeG (i := 8) (v := ?v9) rfl (by kernel_rfl) (by kernel_rfl) (by kernel_rfl) (by kernel_rfl) (fun _ _ _ h => h) (Or.inl ⟨by rfl, ?hy9⟩) (by assumption) ?_
        case hy9 => ((intro w' hSw; (try dsimp only at hSw); go_simp) <;> with_reducible rfl)
        try simp only [Act.put, List.setIfInBounds_toArray, List.set_cons_zero, List.set_cons_succ]
        refine takeG (i := 9) (v := ?v10) rfl (by kernel_rfl) (by kernel_rfl) (by kernel_rfl) (by kernel_rfl) (fun _ _ _ h => h) (Or.inl ⟨by rfl, ?hy10⟩) (by assumption) ?_
        case hy10 => ((intro w' hSw; (try dsimp only at hSw); go_simp) <;> with_reducible rfl)
        try simp only [Act.put, List.setIfInBounds_toArray, List.set_cons_zero, List.set_cons_succ]
        refine takeG (i := 10) (v := ?v11) rfl (by kernel_rfl) (by kernel_rfl) (by kernel_rfl) (by kernel_rfl) (fun _ _ _ h => h) (Or.inl ⟨by rfl, ?hy11⟩) (by assumption) ?_
        case hy11 => ((intro w' hSw; (try dsimp only at hSw); go_simp) <;> with_reducible rfl)
        try simp only [Act.put, List.setIfInBounds_toArray, List.set_cons_zero, List.set_cons_succ]
        refine takeG (i := 11) (v := ?v12) rfl (by kernel_rfl) (by kernel_rfl) (by kernel_rfl) (by kernel_rfl) (fun _ _ _ h => h) (Or.inl ⟨by rfl, ?hy12⟩) (by assumption) ?_
        case hy12 => ((intro w' hSw; (try dsimp only at hSw); go_simp) <;> with_reducible rfl)
        try simp only [Act.put, List.setIfInBounds_toArray, List.set_cons_zero, List.set_cons_succ]
        refine takeG (i := 12) (v := ?v13) rfl (by kernel_rfl) (by kernel_rfl) (by kernel_rfl) (by kernel_rfl) (fun _ _ _ h => h) (Or.inl ⟨by rfl, ?hy13⟩) (by assumption) ?_
        case hy13 => ((intro w' hSw; (try dsimp only at hSw); go_simp) <;> with_reducible rfl)
        try simp only [Act.put, List.setIfInBounds_toArray, List.set_cons_zero, List.set_cons_succ]
        refine takeG (i := 13) (v := ?v14) rfl (by kernel_rfl) (by kernel_rfl) (by kernel_rfl) (by kernel_rfl) (fun _ _ _ h => h) (Or.inl ⟨by rfl, ?hy14⟩) (by assumption) ?_
        case hy14 => ((intro w' hSw; (try dsimp only at hSw); go_simp) <;> with_reducible rfl)
        try simp only [Act.put, List.setIfInBounds_toArray, List.set_cons_zero, List.set_cons_succ]
        refine takeG (i := 14) (v := ?v15) rfl (by kernel_rfl) (by kernel_rfl) (by kernel_rfl) (by kernel_rfl) (fun _ _ _ h => h) (Or.inl ⟨by rfl, ?hy15⟩) (by assumption) ?_
        case hy15 => ((intro w' hSw; (try dsimp only at hSw); go_simp) <;> with_reducible rfl)
        try simp only [Act.put, List.setIfInBounds_toArray, List.set_cons_zero, List.set_cons_succ]
        refine takeG (i := 15) (v := ?v16) rfl (by kernel_rfl) (by kernel_rfl) (by kernel_rfl) (by kernel_rfl) (fun _ _ _ h => h) (Or.inl ⟨by rfl, ?hy16⟩) (by assumption) ?_
        case hy16 => ((intro w' hSw; (try dsimp only at hSw); go_simp) <;> with_reducible rfl)
        try simp only [Act.put, List.setIfInBounds_toArray, List.set_cons_zero, List.set_cons_succ]
        refine wpAnyG_ready (rs := [16]) (by kernel_rfl) (by simp) ?_
        refine readyG rfl (fun K hK => ?_) AllReadyG.nil
        have el := Hlt.out u0 Hu0.out
        have ef := Hf.out u0 Hu0.out
        have ec := hHeld.1
        go_simp
        refine hK.out _ _ (fun h => absurd rfl h) (fun hHeld => ?_)
        clear hK K
        try simp only [Act.put, List.setIfInBounds_toArray, List.set_cons_zero, List.set_cons_succ]
        refine wpAnyG_done (by kernel_rfl) ?_ _
        rw [← Hu0.out]
        go_end0
        exact ⟨⟨_, rfl⟩, by rw [show (false || scansT tl x) = true from by show (false || scansT tl x) = true; rw [Hx.out, Hz.out]; rfl]; exact Hr.out _, Hs.out _⟩
      · have ht' : (tl == t) = false := by simpa using ht
        have Hz := Lib.hid (show sc = false by rw [Hq.out]; simp [ht])
        clear ht
        go_enter Try.func58, Try.ntmps58
        refine wp_region_g 16 (fun (y : World) => y.cell? ⟨cb, 0, none⟩ = some (.bool false) ∧ y.cell? ⟨tb, 0, none⟩ = some (.int .i64 t) ∧ y.cell? ⟨b, o, none⟩ = some (.int .i64 1) ∧ y.cell? ⟨b, o + 1, none⟩ = some (.int .i64 tl)) (by kernel_rfl) ?_ (fun hHeld => ?_)
        · exact ⟨e0, j0, d0, d1⟩
        obtain ⟨u0, hu0⟩ : ∃ y, z.drew = y := ⟨_, rfl⟩
        rw [hu0] at hHeld ⊢
        have Hu0 := Lib.hid hu0
        clear hu0
        refine takeG (i := 0) (v := ?v17) rfl (by kernel_rfl) (by kernel_rfl) (by kernel_rfl) (by kernel_rfl) (fun _ _ _ h => h) (Or.inl ⟨by rfl, ?hy17⟩) (by assumption) ?_
        case hy17 => ((intro w' hSw; (try dsimp only at hSw); go_simp) <;> with_reducible rfl)
        try simp only [Act.put, List.setIfInBounds_toArray, List.set_cons_zero, List.set_cons_succ]
        refine takeG (i := 1) (v := ?v18) rfl (by kernel_rfl) (by kernel_rfl) (by kernel_rfl) (by kernel_rfl) (fun _ _ _ h => h) (Or.inl ⟨by rfl, ?hy18⟩) (by assumption) ?_
        case hy18 => ((intro w' hSw; (try dsimp only at hSw); go_simp) <;> with_reducible rfl)
        try simp only [Act.put, List.setIfInBounds_toArray, List.set_cons_zero, List.set_cons_succ]
        refine takeG (i := 2) (v := ?v19) rfl (by kernel_rfl) (by kernel_rfl) (by kernel_rfl) (by kernel_rfl) (fun _ _ _ h => h) (Or.inl ⟨by rfl, ?hy19⟩) (by assumption) ?_
        case hy19 => ((intro w' hSw; (try dsimp only at hSw); go_simp) <;> with_reducible rfl)
        try simp only [Act.put, List.setIfInBounds_toArray, List.set_cons_zero, List.set_cons_succ]
        refine takeG (i := 3) (v := ?v20) rfl (by kernel_rfl) (by kernel_rfl) (by kernel_rfl) (by kernel_rfl) (fun _ _ _ h => h) (Or.inl ⟨by rfl, ?hy20⟩) (by assumption) ?_
        case hy20 => ((intro w' hSw; (try dsimp only at hSw); go_simp) <;> with_reducible rfl)
        try simp only [Act.put, List.setIfInBounds_toArray, List.set_cons_zero, List.set_cons_succ]
        refine takeG (i := 4) (v := ?v21) rfl (by kernel_rfl) (by kernel_rfl) (by kernel_rfl) (by kernel_rfl) (fun _ _ _ h => h) (Or.inl ⟨by rfl, ?hy21⟩) (by assumption) ?_
        case hy21 => ((intro w' hSw; (try dsimp only at hSw); go_simp) <;> with_reducible rfl)
        try simp only [Act.put, List.setIfInBounds_toArray, List.set_cons_zero, List.set_cons_succ]
        refine takeG (i := 5) (v := ?v22) rfl (by kernel_rfl) (by kernel_rfl) (by kernel_rfl) (by kernel_rfl) (fun _ _ _ h => h) (Or.inl ⟨by rfl, ?hy22⟩) (by assumption) ?_
        case hy22 => ((intro w' hSw; (try dsimp only at hSw); go_simp) <;> with_reducible rfl)
        try simp only [Act.put, List.setIfInBounds_toArray, List.set_cons_zero, List.set_cons_succ]
        refine takeG (i := 6) (v := ?v23) rfl (by kernel_rfl) (by kernel_rfl) (by kernel_rfl) (by kernel_rfl) (fun _ _ _ h => h) (Or.inl ⟨by rfl, ?hy23⟩) (by assumption) ?_
        case hy23 => ((intro w' hSw; (try dsimp only at hSw); go_simp) <;> with_reducible rfl)
        try simp only [Act.put, List.setIfInBounds_toArray, List.set_cons_zero, List.set_cons_succ]
        refine takeG (i := 7) (v := ?v24) rfl (by kernel_rfl) (by kernel_rfl) (by kernel_rfl) (by kernel_rfl) (fun _ _ _ h => h) (Or.inl ⟨by rfl, ?hy24⟩) (by assumption) ?_
        case hy24 => ((intro w' hSw; (try dsimp only at hSw); go_simp) <;> with_reducible rfl)
        try simp only [Act.put, List.setIfInBounds_toArray, List.set_cons_zero, List.set_cons_succ]
        refine takeG (i := 8) (v := ?v25) rfl (by kernel_rfl) (by kernel_rfl) (by kernel_rfl) (by kernel_rfl) (fun _ _ _ h => h) (Or.inl ⟨by rfl, ?hy25⟩) (by assumption) ?_
        case hy25 => ((intro w' hSw; (try dsimp only at hSw); go_simp) <;> with_reducible rfl)
        try simp only [Act.put, List.setIfInBounds_toArray, List.set_cons_zero, List.set_cons_succ]
        refine takeG (i := 9) (v := ?v26) rfl (by kernel_rfl) (by kernel_rfl) (by kernel_rfl) (by kernel_rfl) (fun _ _ _ h => h) (Or.inl ⟨by rfl, ?hy26⟩) (by assumption) ?_
        case hy26 => ((intro w' hSw; (try dsimp only at hSw); go_simp) <;> with_reducible rfl)
        try simp only [Act.put, List.setIfInBounds_toArray, List.set_cons_zero, List.set_cons_succ]
        refine takeG (i := 10) (v := ?v27) rfl (by kernel_rfl) (by kernel_rfl) (by kernel_rfl) (by kernel_rfl) (fun _ _ _ h => h) (Or.inl ⟨by rfl, ?hy27⟩) (by assumption) ?_
        case hy27 => ((intro w' hSw; (try dsimp only at hSw); go_simp) <;> with_reducible rfl)
        try simp only [Act.put, List.setIfInBounds_toArray, List.set_cons_zero, List.set_cons_succ]
        refine takeG (i := 11) (v := ?v28) rfl (by kernel_rfl) (by kernel_rfl) (by kernel_rfl) (by kernel_rfl) (fun _ _ _ h => h) (Or.inl ⟨by rfl, ?hy28⟩) (by assumption) ?_
        case hy28 => ((intro w' hSw; (try dsimp only at hSw); go_simp) <;> with_reducible rfl)
        try simp only [Act.put, List.setIfInBounds_toArray, List.set_cons_zero, List.set_cons_succ]
        refine takeG (i := 12) (v := ?v29) rfl (by kernel_rfl) (by kernel_rfl) (by kernel_rfl) (by kernel_rfl) (fun _ _ _ h => h) (Or.inl ⟨by rfl, ?hy29⟩) (by assumption) ?_
        case hy29 => ((intro w' hSw; (try dsimp only at hSw); go_simp) <;> with_reducible rfl)
        try simp only [Act.put, List.setIfInBounds_toArray, List.set_cons_zero, List.set_cons_succ]
        refine takeG (i := 13) (v := ?v30) rfl (by kernel_rfl) (by kernel_rfl) (by kernel_rfl) (by kernel_rfl) (fun _ _ _ h => h) (Or.inl ⟨by rfl, ?hy30⟩) (by assumption) ?_
        case hy30 => ((intro w' hSw; (try dsimp only at hSw); go_simp) <;> with_reducible rfl)
        try simp only [Act.put, List.setIfInBounds_toArray, List.set_cons_zero, List.set_cons_succ]
        refine takeG (i := 14) (v := ?v31) rfl (by kernel_rfl) (by kernel_rfl) (by kernel_rfl) (by kernel_rfl) (fun _ _ _ h => h) (Or.inl ⟨by rfl, ?hy31⟩) (by assumption) ?_
        case hy31 => ((intro w' hSw; (try dsimp only at hSw); go_simp) <;> with_reducible rfl)
        try simp only [Act.put, List.setIfInBounds_toArray, List.set_cons_zero, List.set_cons_succ]
        refine takeG (i := 15) (v := ?v32) rfl (by kernel_rfl) (by kernel_rfl) (by kernel_rfl) (by kernel_rfl) (fun _ _ _ h => h) (Or.inl ⟨by rfl, ?hy32⟩) (by assumption) ?_
        case hy32 => ((intro w' hSw; (try dsimp only at hSw); go_simp) <;> with_reducible rfl)
        try simp only [Act.put, List.setIfInBounds_toArray, List.set_cons_zero, List.set_cons_succ]
        refine wpAnyG_ready (rs := [16]) (by kernel_rfl) (by simp) ?_
        refine readyG rfl (fun K hK => ?_) AllReadyG.nil
        have el := Hlt.out u0 Hu0.out
        have ef := Hf.out u0 Hu0.out
        have ec := hHeld.1
        go_simp
        refine hK.out _ _ (fun h => absurd rfl h) (fun hHeld => ?_)
        clear hK K
        try simp only [Act.put, List.setIfInBounds_toArray, List.set_cons_zero, List.set_cons_succ]
        refine wpAnyG_done (by kernel_rfl) ?_ _
        rw [← Hu0.out]
        go_end0
        exact ⟨⟨_, rfl⟩, by rw [show (false || scansT t x) = false from by show (false || scansT t x) = false; rw [Hx.out, Hz.out]; rfl]; exact Hr.out _, Hs.out _⟩
    · have hk' : (kd == 1) = false := by simpa using hk
      have Hz := Lib.hid (show sc = false by rw [Hq.out]; simp [hk])
      clear hk
      go_enter Try.func58, Try.ntmps58
      refine wp_region_g 16 (fun (y : World) => y.cell? ⟨cb, 0, none⟩ = some (.bool false) ∧ y.cell? ⟨tb, 0, none⟩ = some (.int .i64 t) ∧ y.cell? ⟨b, o, none⟩ = some (.int .i64 kd) ∧ y.cell? ⟨b, o + 1, none⟩ = some (.int .i64 tl)) (by kernel_rfl) ?_ (fun hHeld => ?_)
      · exact ⟨e0, j0, d0, d1⟩
      obtain ⟨u0, hu0⟩ : ∃ y, z.drew = y := ⟨_, rfl⟩
      rw [hu0] at hHeld ⊢
      have Hu0 := Lib.hid hu0
      clear hu0
      refine takeG (i := 0) (v := ?v33) rfl (by kernel_rfl) (by kernel_rfl) (by kernel_rfl) (by kernel_rfl) (fun _ _ _ h => h) (Or.inl ⟨by rfl, ?hy33⟩) (by assumption) ?_
      case hy33 => ((intro w' hSw; (try dsimp only at hSw); go_simp) <;> with_reducible rfl)
      try simp only [Act.put, List.setIfInBounds_toArray, List.set_cons_zero, List.set_cons_succ]
      refine takeG (i := 1) (v := ?v34) rfl (by kernel_rfl) (by kernel_rfl) (by kernel_rfl) (by kernel_rfl) (fun _ _ _ h => h) (Or.inl ⟨by rfl, ?hy34⟩) (by assumption) ?_
      case hy34 => ((intro w' hSw; (try dsimp only at hSw); go_simp) <;> with_reducible rfl)
      try simp only [Act.put, List.setIfInBounds_toArray, List.set_cons_zero, List.set_cons_succ]
      refine takeG (i := 2) (v := ?v35) rfl (by kernel_rfl) (by kernel_rfl) (by kernel_rfl) (by kernel_rfl) (fun _ _ _ h => h) (Or.inl ⟨by rfl, ?hy35⟩) (by assumption) ?_
      case hy35 => ((intro w' hSw; (try dsimp only at hSw); go_simp) <;> with_reducible rfl)
      try simp only [Act.put, List.setIfInBounds_toArray, List.set_cons_zero, List.set_cons_succ]
      refine takeG (i := 3) (v := ?v36) rfl (by kernel_rfl) (by kernel_rfl) (by kernel_rfl) (by kernel_rfl) (fun _ _ _ h => h) (Or.inl ⟨by rfl, ?hy36⟩) (by assumption) ?_
      case hy36 => ((intro w' hSw; (try dsimp only at hSw); go_simp) <;> with_reducible rfl)
      try simp only [Act.put, List.setIfInBounds_toArray, List.set_cons_zero, List.set_cons_succ]
      refine takeG (i := 4) (v := ?v37) rfl (by kernel_rfl) (by kernel_rfl) (by kernel_rfl) (by kernel_rfl) (fun _ _ _ h => h) (Or.inl ⟨by rfl, ?hy37⟩) (by assumption) ?_
      case hy37 => ((intro w' hSw; (try dsimp only at hSw); go_simp) <;> with_reducible rfl)
      try simp only [Act.put, List.setIfInBounds_toArray, List.set_cons_zero, List.set_cons_succ]
      refine takeG (i := 5) (v := ?v38) rfl (by kernel_rfl) (by kernel_rfl) (by kernel_rfl) (by kernel_rfl) (fun _ _ _ h => h) (Or.inl ⟨by rfl, ?hy38⟩) (by assumption) ?_
      case hy38 => ((intro w' hSw; (try dsimp only at hSw); go_simp) <;> with_reducible rfl)
      try simp only [Act.put, List.setIfInBounds_toArray, List.set_cons_zero, List.set_cons_succ]
      refine takeG (i := 6) (v := ?v39) rfl (by kernel_rfl) (by kernel_rfl) (by kernel_rfl) (by kernel_rfl) (fun _ _ _ h => h) (Or.inl ⟨by rfl, ?hy39⟩) (by assumption) ?_
      case hy39 => ((intro w' hSw; (try dsimp only at hSw); go_simp) <;> with_reducible rfl)
      try simp only [Act.put, List.setIfInBounds_toArray, List.set_cons_zero, List.set_cons_succ]
      refine takeG (i := 7) (v := ?v40) rfl (by kernel_rfl) (by kernel_rfl) (by kernel_rfl) (by kernel_rfl) (fun _ _ _ h => h) (Or.inl ⟨by rfl, ?hy40⟩) (by assumption) ?_
      case hy40 => ((intro w' hSw; (try dsimp only at hSw); go_simp) <;> with_reducible rfl)
      try simp only [Act.put, List.setIfInBounds_toArray, List.set_cons_zero, List.set_cons_succ]
      refine takeG (i := 8) (v := undef) rfl (by kernel_rfl) (by kernel_rfl) (by kernel_rfl) (by kernel_rfl) (fun _ _ _ h => h) (Or.inr ⟨by rfl, rfl⟩) (by assumption) ?_
      try simp only [Act.put, List.setIfInBounds_toArray, List.set_cons_zero, List.set_cons_succ]
      refine takeG (i := 9) (v := undef) rfl (by kernel_rfl) (by kernel_rfl) (by kernel_rfl) (by kernel_rfl) (fun _ _ _ h => h) (Or.inr ⟨by rfl, rfl⟩) (by assumption) ?_
      try simp only [Act.put, List.setIfInBounds_toArray, List.set_cons_zero, List.set_cons_succ]
      refine takeG (i := 10) (v := undef) rfl (by kernel_rfl) (by kernel_rfl) (by kernel_rfl) (by kernel_rfl) (fun _ _ _ h => h) (Or.inr ⟨by rfl, rfl⟩) (by assumption) ?_
      try simp only [Act.put, List.setIfInBounds_toArray, List.set_cons_zero, List.set_cons_succ]
      refine takeG (i := 11) (v := undef) rfl (by kernel_rfl) (by kernel_rfl) (by kernel_rfl) (by kernel_rfl) (fun _ _ _ h => h) (Or.inr ⟨by rfl, rfl⟩) (by assumption) ?_
      try simp only [Act.put, List.setIfInBounds_toArray, List.set_cons_zero, List.set_cons_succ]
      refine takeG (i := 12) (v := undef) rfl (by kernel_rfl) (by kernel_rfl) (by kernel_rfl) (by kernel_rfl) (fun _ _ _ h => h) (Or.inr ⟨by rfl, rfl⟩) (by assumption) ?_
      try simp only [Act.put, List.setIfInBounds_toArray, List.set_cons_zero, List.set_cons_succ]
      refine takeG (i := 13) (v := undef) rfl (by kernel_rfl) (by kernel_rfl) (by kernel_rfl) (by kernel_rfl) (fun _ _ _ h => h) (Or.inr ⟨by rfl, rfl⟩) (by assumption) ?_
      try simp only [Act.put, List.setIfInBounds_toArray, List.set_cons_zero, List.set_cons_succ]
      refine takeG (i := 14) (v := ?v41) rfl (by kernel_rfl) (by kernel_rfl) (by kernel_rfl) (by kernel_rfl) (fun _ _ _ h => h) (Or.inl ⟨by rfl, ?hy41⟩) (by assumption) ?_
      case hy41 => ((intro w' hSw; (try dsimp only at hSw); go_simp) <;> with_reducible rfl)
      try simp only [Act.put, List.setIfInBounds_toArray, List.set_cons_zero, List.set_cons_succ]
      refine takeG (i := 15) (v := ?v42) rfl (by kernel_rfl) (by kernel_rfl) (by kernel_rfl) (by kernel_rfl) (fun _ _ _ h => h) (Or.inl ⟨by rfl, ?hy42⟩) (by assumption) ?_
      case hy42 => ((intro w' hSw; (try dsimp only at hSw); go_simp) <;> with_reducible rfl)
      try simp only [Act.put, List.setIfInBounds_toArray, List.set_cons_zero, List.set_cons_succ]
      refine wpAnyG_ready (rs := [16]) (by kernel_rfl) (by simp) ?_
      refine readyG rfl (fun K hK => ?_) AllReadyG.nil
      have el := Hlt.out u0 Hu0.out
      have ef := Hf.out u0 Hu0.out
      have ec := hHeld.1
      go_simp
      refine hK.out _ _ (fun h => absurd rfl h) (fun hHeld => ?_)
      clear hK K
      try simp only [Act.put, List.setIfInBounds_toArray, List.set_cons_zero, List.set_cons_succ]
      refine wpAnyG_done (by kernel_rfl) ?_ _
      rw [← Hu0.out]
      go_end0
      exact ⟨⟨_, rfl⟩, by rw [show (false || scansT t x) = false from by show (false || scansT t x) = false; rw [Hx.out, Hz.out]; rfl]; exact Hr.out _, Hs.out _⟩
  · skip
    go_enter Try.func58, Try.ntmps58
    refine wp_region_g 16 (fun (y : World) => y.cell? ⟨cb, 0, none⟩ = some (.bool true) ∧ y.cell? ⟨tb, 0, none⟩ = some (.int .i64 t) ∧ y.cell? ⟨b, o, none⟩ = some (.int .i64 kd) ∧ y.cell? ⟨b, o + 1, none⟩ = some (.int .i64 tl)) (by kernel_rfl) ?_ (fun hHeld => ?_)
    · exact ⟨e0, j0, d0, d1⟩
    obtain ⟨u0, hu0⟩ : ∃ y, z.drew = y := ⟨_, rfl⟩
    rw [hu0] at hHeld ⊢
    have Hu0 := Lib.hid hu0
    clear hu0
    refine takeG (i := 0) (v := ?v43) rfl (by kernel_rfl) (by kernel_rfl) (by kernel_rfl) (by kernel_rfl) (fun _ _ _ h => h) (Or.inl ⟨by rfl, ?hy43⟩) (by assumption) ?_
    case hy43 => ((intro w' hSw; (try dsimp only at hSw); go_simp) <;> with_reducible rfl)
    try simp only [Act.put, List.setIfInBounds_toArray, List.set_cons_zero, List.set_cons_succ]
    refine takeG (i := 1) (v := ?v44) rfl (by kernel_rfl) (by kernel_rfl) (by kernel_rfl) (by kernel_rfl) (fun _ _ _ h => h) (Or.inl ⟨by rfl, ?hy44⟩) (by assumption) ?_
    case hy44 => ((intro w' hSw; (try dsimp only at hSw); go_simp) <;> with_reducible rfl)
    try simp only [Act.put, List.setIfInBounds_toArray, List.set_cons_zero, List.set_cons_succ]
    refine takeG (i := 2) (v := undef) rfl (by kernel_rfl) (by kernel_rfl) (by kernel_rfl) (by kernel_rfl) (fun _ _ _ h => h) (Or.inr ⟨by rfl, rfl⟩) (by assumption) ?_
    try simp only [Act.put, List.setIfInBounds_toArray, List.set_cons_zero, List.set_cons_succ]
    refine takeG (i := 3) (v := undef) rfl (by kernel_rfl) (by kernel_rfl) (by kernel_rfl) (by kernel_rfl) (fun _ _ _ h => h) (Or.inr ⟨by rfl, rfl⟩) (by assumption) ?_
    try simp only [Act.put, List.setIfInBounds_toArray, List.set_cons_zero, List.set_cons_succ]
    refine takeG (i := 4) (v := undef) rfl (by kernel_rfl) (by kernel_rfl) (by kernel_rfl) (by kernel_rfl) (fun _ _ _ h => h) (Or.inr ⟨by rfl, rfl⟩) (by assumption) ?_
    try simp only [Act.put, List.setIfInBounds_toArray, List.set_cons_zero, List.set_cons_succ]
    refine takeG (i := 5) (v := undef) rfl (by kernel_rfl) (by kernel_rfl) (by kernel_rfl) (by kernel_rfl) (fun _ _ _ h => h) (Or.inr ⟨by rfl, rfl⟩) (by assumption) ?_
    try simp only [Act.put, List.setIfInBounds_toArray, List.set_cons_zero, List.set_cons_succ]
    refine takeG (i := 6) (v := undef) rfl (by kernel_rfl) (by kernel_rfl) (by kernel_rfl) (by kernel_rfl) (fun _ _ _ h => h) (Or.inr ⟨by rfl, rfl⟩) (by assumption) ?_
    try simp only [Act.put, List.setIfInBounds_toArray, List.set_cons_zero, List.set_cons_succ]
    refine takeG (i := 7) (v := undef) rfl (by kernel_rfl) (by kernel_rfl) (by kernel_rfl) (by kernel_rfl) (fun _ _ _ h => h) (Or.inr ⟨by rfl, rfl⟩) (by assumption) ?_
    try simp only [Act.put, List.setIfInBounds_toArray, List.set_cons_zero, List.set_cons_succ]
    refine takeG (i := 8) (v := undef) rfl (by kernel_rfl) (by kernel_rfl) (by kernel_rfl) (by kernel_rfl) (fun _ _ _ h => h) (Or.inr ⟨by rfl, rfl⟩) (by assumption) ?_
    try simp only [Act.put, List.setIfInBounds_toArray, List.set_cons_zero, List.set_cons_succ]
    refine takeG (i := 9) (v := undef) rfl (by kernel_rfl) (by kernel_rfl) (by kernel_rfl) (by kernel_rfl) (fun _ _ _ h => h) (Or.inr ⟨by rfl, rfl⟩) (by assumption) ?_
    try simp only [Act.put, List.setIfInBounds_toArray, List.set_cons_zero, List.set_cons_succ]
    refine takeG (i := 10) (v := undef) rfl (by kernel_rfl) (by kernel_rfl) (by kernel_rfl) (by kernel_rfl) (fun _ _ _ h => h) (Or.inr ⟨by rfl, rfl⟩) (by assumption) ?_
    try simp only [Act.put, List.setIfInBounds_toArray, List.set_cons_zero, List.set_cons_succ]
    refine takeG (i := 11) (v := undef) rfl (by kernel_rfl) (by kernel_rfl) (by kernel_rfl) (by kernel_rfl) (fun _ _ _ h => h) (Or.inr ⟨by rfl, rfl⟩) (by assumption) ?_
    try simp only [Act.put, List.setIfInBounds_toArray, List.set_cons_zero, List.set_cons_succ]
    refine takeG (i := 12) (v := undef) rfl (by kernel_rfl) (by kernel_rfl) (by kernel_rfl) (by kernel_rfl) (fun _ _ _ h => h) (Or.inr ⟨by rfl, rfl⟩) (by assumption) ?_
    try simp only [Act.put, List.setIfInBounds_toArray, List.set_cons_zero, List.set_cons_succ]
    refine takeG (i := 13) (v := undef) rfl (by kernel_rfl) (by kernel_rfl) (by kernel_rfl) (by kernel_rfl) (fun _ _ _ h => h) (Or.inr ⟨by rfl, rfl⟩) (by assumption) ?_
    try simp only [Act.put, List.setIfInBounds_toArray, List.set_cons_zero, List.set_cons_succ]
    refine takeG (i := 14) (v := undef) rfl (by kernel_rfl) (by kernel_rfl) (by kernel_rfl) (by kernel_rfl) (fun _ _ _ h => h) (Or.inr ⟨by rfl, rfl⟩) (by assumption) ?_
    try simp only [Act.put, List.setIfInBounds_toArray, List.set_cons_zero, List.set_cons_succ]
    refine takeG (i := 15) (v := ?v45) rfl (by kernel_rfl) (by kernel_rfl) (by kernel_rfl) (by kernel_rfl) (fun _ _ _ h => h) (Or.inl ⟨by rfl, ?hy45⟩) (by assumption) ?_
    case hy45 => ((intro w' hSw; (try dsimp only at hSw); go_simp) <;> with_reducible rfl)
    try simp only [Act.put, List.setIfInBounds_toArray, List.set_cons_zero, List.set_cons_succ]
    refine wpAnyG_ready (rs := [16]) (by kernel_rfl) (by simp) ?_
    refine readyG rfl (fun K hK => ?_) AllReadyG.nil
    have el := Hlt.out u0 Hu0.out
    have ef := Hf.out u0 Hu0.out
    have ec := hHeld.1
    go_simp
    refine hK.out _ _ (fun h => absurd rfl h) (fun hHeld => ?_)
    clear hK K
    try simp only [Act.put, List.setIfInBounds_toArray, List.set_cons_zero, List.set_cons_succ]
    refine wpAnyG_done (by kernel_rfl) ?_ _
    rw [← Hu0.out]
    go_end0
    exact ⟨⟨_, rfl⟩, by rw [show (true || scansT t x) = true from by show (true || scansT t x) = true; simp]; exact Hr.out _, Hs.out _⟩

theorem foldl_or {α : Type} (P : α → Bool) : ∀ (l : List α) (q : Bool), l.foldl (fun q x => q || P x) q = (q || l.any P)
  | [], q => by simp
  | x :: l, q => by rw [List.foldl_cons, foldl_or P l, List.any_cons, Bool.or_assoc]
set_option maxRecDepth 20000 in
set_option maxHeartbeats 2000000 in
theorem scans_ok (p : Pl) (f : FP) (b o : Nat) (t : Int) (w : World) (q : Bool) (h : PlIn w w.heap.size f p) (hb : b < w.heap.size) (hat : FpAt w b o f) (hq : p.parts.any (scansT t) = q) :
    Calls Try.prog 37 #[.pointer (some ⟨b, o, none⟩), .int .i64 t] w fun e w' => e = .returned (.bool q) ∧ Below w.heap.size w w' := by
  obtain ⟨W1, hW1⟩ : ∃ z, w.alloc (.cells #[.int .i64 t] 3) = z := ⟨_, rfl⟩
  obtain ⟨W2, hW2⟩ : ∃ z, W1.alloc (.cells #[.bool false] 4) = z := ⟨_, rfl⟩
  have b1 : Below w.heap.size w W1 := by rw [← hW1]; exact balloc (Below.refl _ _) _
  have b2 : Below W1.heap.size W1 W2 := by rw [← hW2]; exact balloc (Below.refl _ _) _
  have s1 : w.heap.size + 1 = W1.heap.size := by rw [← hW1]; simp
  have r1 : Row W1 w.heap.size 3 [.int .i64 t] := by rw [← hW1]; exact Row.new _ _ _
  have r2 : Row W2 W1.heap.size 4 [.bool false] := by rw [← hW2]; exact Row.new _ _ _
  have b12 := bch b1 b2
  have HX := Lib.hid (eachPart_ok p 58 #[.pointer (some ⟨W1.heap.size, 0, none⟩), .pointer (some ⟨w.heap.size, 0, none⟩)] w.heap.size W1.heap.size (fun (q : Bool) (z : World) => Row z W1.heap.size 4 [.bool q] ∧ Row z w.heap.size 3 [.int .i64 t]) (fun q x => q || scansT t x) entersSc1 (visitsSc1 _ _ _ t (by omega) (by omega)) (by omega) false f b o W2 (h.below b12) hb b12.size (hat.below b12 hb) ⟨r2, r1.on b2⟩)
  have H12 := Lib.hid b12
  have S1 := Lib.hid s1
  have HW1 := Lib.hid hW1
  have HW2 := Lib.hid hW2
  have Hq := Lib.hid hq
  clear h hat hq b1 b2 s1 r1 r2 b12 hW1 hW2
  go_enter Try.func37, Try.ntmps37
  go_upto_region 2 with fail
  rw [HW1.out, S1.out, HW2.out]
  go_wp2_with fail
  refine HX.out.mono ?_
  rintro e w4 ⟨⟨v, rfl⟩, ⟨hI, _⟩, hb4⟩
  rw [foldl_or, Bool.false_or, Hq.out] at hI
  have e0 : w4.cell? ⟨W1.heap.size, 0, none⟩ = some (.bool q) := hI.cell 0
  have H4 := Lib.hid (Only.from_ H12.out rfl hb4 fun i (hi : i = W1.heap.size) => by have := S1.out; omega)
  clear hI hb4
  go_wp2
  go_ret
  exact ⟨rfl, H4.out⟩
def GotTabs (m : Nat) (w : World) (e : Ending) (w' : World) : Prop := ∃ (v : Value) (ts : List Int), e = .returned v ∧ Ow w.heap.size 3 1 intC w' v ts ∧ ts.length = m ∧ Below w.heap.size w w'
theorem zeroIntZ : (Try.prog.info? 3).map (fun i => (i.zero, i.size, i.bytes)) = some (some (.int .i64 0), 1, 8) := by kernel_rfl
theorem tabsOf_succ (i : Nat) (l : List Pl) : tabsOf (i + 1) l = tabsOf i l ++ if l.any (scansT (i : Int)) then [i] else [] := by
  unfold tabsOf
  rw [List.range_succ, List.filter_append]
  congr 1
  by_cases h : l.any (scansT (i : Int)) = true
  · rw [if_pos h]; simp [h]
  · rw [if_neg h]; simp [h]
set_option maxRecDepth 20000 in
set_option maxHeartbeats 2000000 in
theorem tablesOf_ok (p : Pl) (f : FP) (ws : List Int) (A : Option Addr) (c : Nat) (w : World) (h : PlIn w w.heap.size f p) (hwl : ws.length ≤ maxLen) (hws : Sl 1 intC w w.heap.size A ws) (hv : widthP ws p ≠ 0) :
    Calls Try.prog 15 #[fpV f, .slice A ws.length c] w (GotTabs (tabsOf ws.length p.parts).length w) := by
  obtain ⟨W1, hW1⟩ : ∃ z, w.alloc (.cells #[.int .i64 f.kind, .int .i64 f.table, .slice f.es.A f.es.n f.es.c, .slice f.cs.A f.cs.n f.cs.c, .slice f.ks.A f.ks.n f.ks.c] 27) = z := ⟨_, rfl⟩
  have B1 : Below w.heap.size w W1 := by rw [← hW1]; exact balloc (Below.refl _ _) _
  have r1 : Row W1 w.heap.size 27 [.int .i64 f.kind, .int .i64 f.table, .slice f.es.A f.es.n f.es.c, .slice f.cs.A f.cs.n f.cs.c, .slice f.ks.A f.ks.n f.ks.c] := by rw [← hW1]; exact Row.new _ _ _
  obtain ⟨wd, hwd⟩ : ∃ x, widthP ws p = x := ⟨_, rfl⟩
  have HV := Lib.hid (PlanWidth_ok p f ws A c W1 wd (h.on B1) hwl (hws.on B1) hwd)
  unfold fpV at HV
  have HP := Lib.hid (fun (z : World) (hz : Below w.heap.size w z) => h.on hz)
  have HW1 := Lib.hid hW1
  have HB1 := Lib.hid B1
  have Hrow := Lib.hid (fun (z : World) (hz : Below W1.heap.size W1 z) => r1.on hz)
  have c0 := r1.cell 0
  have c1 := r1.cell 1
  have c2 := r1.cell 2
  have c3 := r1.cell 3
  have c4 := r1.cell 4
  have h0' : (wd == 0) = false := by rw [hwd] at hv; simpa using hv
  have hwl4 : ws.length ≤ 4 := (widthZ_ok hv).1.1.2
  unfold fpV
  clear h hws hwd hW1 B1 r1 hv hwl
  go_enter Try.func15, Try.ntmps15
  go_upto_region 1 with fail
  rw [HW1.out]
  go_wp2_with fail
  refine HV.out.mono ?_
  rintro e w2 ⟨rfl, hb2⟩
  have HB2 := Lib.hid hb2
  clear hb2 c0 c1 c2 c3 c4
  go_wp2
  go_loopg [5, 6, 13] ws.length (fun g v _ iv wr => ∃ (i : Nat), i ≤ ws.length ∧ g = ws.length - i ∧ iv = .int .i64 i ∧ Ow W1.heap.size 3 1 intC wr v ((tabsOf i p.parts).map Int.ofNat) ∧ Below W1.heap.size W1 wr)
  case atStart => exact ⟨0, by omega, by omega, rfl, Ow.nil, HB2.out⟩
  case round =>
    obtain ⟨i, hi, rfl, rfl, how, hb⟩ := hrel
    have HO := Lib.hid how
    have HB := Lib.hid hb
    clear how hb
    by_cases hil : i < ws.length
    · have hiI : (i : Int) < (ws.length : Int) := by omega
      obtain ⟨q, hq⟩ : ∃ q, p.parts.any (scansT (i : Int)) = q := ⟨_, rfl⟩
      have RW := Hrow.out _ HB.out
      have HX := Lib.hid (scans_ok p f w.heap.size 0 i wr q (HP.out _ (bch HB1.out HB.out)) RW.lt ⟨RW.cell 0, RW.cell 1, RW.cell 2, RW.cell 3, RW.cell 4⟩ hq)
      have Hst := Lib.hid (show tabsOf (i + 1) p.parts = tabsOf i p.parts ++ if q then [i] else [] by rw [tabsOf_succ, hq])
      clear hq RW
      go_wp2_with fail
      refine HX.out.mono ?_
      rintro e w3 ⟨rfl, hb3⟩
      have HB3 := Lib.hid (bch HB.out hb3)
      have HO3 := Lib.hid (HO.out.on hb3)
      clear hb3
      cases q
      · go_wp2
        go_roundg (ws.length - (i + 1))
        case measure => omega
        case rel => exact ⟨i + 1, by omega, rfl, by go_num, by rw [Hst.out]; simpa using HO3.out, HB3.out⟩
      · obtain ⟨U, hU⟩ : ∃ z, w3.alloc (.cells #[.int .i64 i] 3) = z := ⟨_, rfl⟩
        have hub : Below w3.heap.size w3 U := by rw [← hU]; exact balloc (Below.refl _ _) _
        have HB5 := Lib.hid (bch HB3.out hub)
        have HO5 := Lib.hid (HO3.out.on hub)
        have HS5 := Lib.hid (show Sl 1 intC U U.heap.size (some ⟨w3.heap.size, 0, none⟩) [(i : Int)] by rw [← hU]; exact Row.sl' (t := 3) intC_length ((Row.new w3 _ _).of rfl))
        have hsz6 : W1.heap.size ≤ U.heap.size := HB5.out.size
        have hcl : ((tabsOf i p.parts).map Int.ofNat).length ≤ i := by
          rw [List.length_map]
          unfold tabsOf
          have := List.length_filter_le (fun t : Nat => p.parts.any (scansT (t : Int))) (List.range i)
          rwa [List.length_range] at this
        have HU := Lib.hid hU
        clear hU hub
        go_wp2_with (at_builtin; rw [HU.out]; refine wpList_app rfl (.tmp 18) (.tmp 20) 24 rfl W1.heap.size 3 _ 1 8 intC Try.underlying24 zeroIntZ rfl (by decide) (by decide) intC_length intC_one _ _ rfl HO5.out (some ⟨w3.heap.size, 0, none⟩) 1 1 [(i : Int)] rfl rfl HS5.out (by simp only [List.length_singleton]; omega) hsz6 ?_; intro v' w' hown hgr)
        go_roundg (ws.length - (i + 1))
        case measure => omega
        case rel => exact ⟨i + 1, by omega, rfl, by go_num, by rw [Hst.out]; simpa using hown, ((only_below (S := fun _ => False) HB5.out).grown hgr fun k hk => .inr (HO5.out.ty k hk).1).old fun _ _ h => h⟩
    · have hiI : ¬ (i : Int) < (ws.length : Int) := by omega
      obtain rfl : i = ws.length := by omega
      go_wp2
      go_ret
      exact ⟨_, _, rfl, HO.out.low HB1.out.size, by rw [List.length_map], bch HB1.out HB.out⟩
end Go.Proofs.Ytooeicfhciefoaa
