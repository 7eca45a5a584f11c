/-
  Contracts: the reference's texts of numbers, values and expressions. (Printed by wip/ens.py.)
-/
import Derived.Test.YtmhlpjfijpomkaaGreatDoorProg
import Derived.Laws.Concat
import Derived.Laws.IdiomStrings
import Derived.Test.YtmhlpjfijpomkaaGreatDoorZqGa
import Derived.Test.YtmhlpjfijpomkaaGreatDoorZqGa
import Derived.Test.YtmhlpjfijpomkaaGreatDoorZqGa
import Derived.Test.YtmhlpjfijpomkaaGreatDoorZqGa
namespace Go.Proofs.YtmhlpjfijpomkaaGreatDoor
open Go.RowKit Go.Qo
set_option linter.unusedVariables false
set_option linter.unusedSimpArgs false

theorem conv1 (n : Int) (h0 : 0 ≤ n) (h1 : n < 256) (w w' : World) (a : Nat) (hr : Row w' a 5 [.int .u8 n]) : (convert 35 9 (.slice (some ⟨a, 0, none⟩) 1 1)).run Tryz.prog w' = .ok (.string ⟨[UInt8.ofNat n.toNat].toArray⟩) w' := by
  refine run_convert_bytes_back w' _ _ 5 ⟨a, 0, none⟩ 1 [UInt8.ofNat n.toNat] Tryz.underlying35 Tryz.underlying5 Tryz.underlying9 (fun j hj => ?_)
  have hj0 : j = 0 := by simp at hj; omega
  subst hj0
  have h := hr.cell 0
  simp only [List.getElem_cons_zero]
  have e : ((UInt8.ofNat n.toNat).toNat : Int) = n := by
    rw [UInt8.toNat_ofNat_of_lt' (by show n.toNat < 256; omega)]; omega
  rw [e]
  exact h
theorem dec_big {m : Nat} (h : ¬ m < 10) : Lib.decDigits m = Lib.decDigits (m / 10) ++ [UInt8.ofNat (48 + m % 10)] := by rw [Lib.decDigits, dif_neg h]
theorem dec_small {m : Nat} (h : m < 10) : Lib.decDigits m = [UInt8.ofNat (48 + m)] := by rw [Lib.decDigits, dif_pos h]
theorem dec_len : ∀ (k m : Nat), m < 10 ^ (k + 1) → (Lib.decDigits m).length ≤ k + 1
  | 0, m, h => by rw [dec_small (by simpa using h)]; simp
  | k + 1, m, h => by
    by_cases h1 : m < 10
    · rw [dec_small h1]; simp
    · rw [dec_big h1]
      have := dec_len k (m / 10) (by rw [Nat.pow_succ] at h; omega)
      simp; omega

theorem strAddOp (x y : List UInt8) (hx : x.length ≤ 8388608) (hy : y.length ≤ 8388608) (w : World) : (Op.stringOp .add (bArr x) (bArr y)).run Tryz.prog w = .ok (.string (bArr (x ++ y))) w :=
  run_string_add_lists (P := Tryz.prog) w x y (by omega) (by omega)

set_option maxRecDepth 20000 in
set_option maxHeartbeats 2000000 in
theorem formatNat_ok : ∀ (m : Nat) (w : World), m < 1000000 → Calls Tryz.prog 65 #[.int .i64 m] w fun e w' => e = .returned (.string (bArr (Lib.decDigits m))) ∧ Below w.heap.size w w' := by
  intro m
  induction m using Nat.strongRecOn with
  | _ m ih =>
  intro w hm
  have h1 : ¬ ((m : Int) < -9223372036854775807) := by omega
  have h2 : ¬ ((m : Int) < 0) := by omega
  by_cases hs : m < 10
  · have h3 : (m : Int) < 10 := by omega
    have kc0 := conv1 (48 + m) (by omega) (by omega) w (w.alloc (.cells #[.int .u8 (48 + m)] 5)) w.heap.size (Row.new _ _ _)
    have hB := Lib.hid (balloc (Below.refl w.heap.size w) (.cells #[.int .u8 (48 + (m : Int))] 5))
    rw [dec_small hs, show (48 + m : Nat) = (48 + (m : Int)).toNat by omega]
    obtain ⟨S, hS⟩ : ∃ S, bArr [UInt8.ofNat (48 + (m : Int)).toNat] = S := ⟨_, rfl⟩
    have kc : (convert 35 9 (.slice (some ⟨w.heap.size, 0, none⟩) 1 1)).run Tryz.prog (w.alloc (.cells #[.int .u8 (48 + m)] 5)) = .ok (.string S) (w.alloc (.cells #[.int .u8 (48 + m)] 5)) := by rw [← hS]; exact kc0
    rw [hS]
    clear ih hs hS kc0
    go_enter Tryz.func65, Tryz.ntmps65
    go_wp2
    go_ret
    exact ⟨rfl, hB.out⟩
  · have h3 : ¬ ((m : Int) < 10) := by omega
    obtain ⟨q, hq⟩ : ∃ q : Nat, m / 10 = q := ⟨_, rfl⟩
    obtain ⟨d, hd⟩ : ∃ d : Nat, m % 10 = d := ⟨_, rfl⟩
    have hqi : (m : Int).tdiv 10 = (q : Int) := by rw [Int.tdiv_eq_ediv_of_nonneg (by omega)]; omega
    have hdi : (m : Int).tmod 10 = (d : Int) := by rw [Int.tmod_eq_emod_of_nonneg (by omega)]; omega
    have hd9 : d < 10 := by omega
    obtain ⟨Sq, hSq⟩ : ∃ S, bArr (Lib.decDigits q) = S := ⟨_, rfl⟩
    obtain ⟨Sg, hSg⟩ : ∃ S, bArr [UInt8.ofNat (48 + (d : Int)).toNat] = S := ⟨_, rfl⟩
    obtain ⟨Sm, hSm⟩ : ∃ S, bArr (Lib.decDigits q ++ [UInt8.ofNat (48 + (d : Int)).toNat]) = S := ⟨_, rfl⟩
    have IH := Lib.hid (fun z => hSq ▸ ih q (by omega) z (by omega))
    have KC := Lib.hid (fun (w w' : World) (a : Nat) (hr : Row w' a 5 [.int .u8 (48 + (d : Int))]) => show (convert 35 9 (.slice (some ⟨a, 0, none⟩) 1 1)).run Tryz.prog w' = .ok (.string Sg) w' from hSg ▸ conv1 (48 + d) (by omega) (by omega) w w' a hr)
    have hdl := dec_len 5 q (by omega)
    have hadd := fun z => strAddOp (Lib.decDigits q) [UInt8.ofNat (48 + (d : Int)).toNat] (by omega) (by simp) z
    rw [dec_big hs, hq, hd, show (48 + d : Nat) = (48 + (d : Int)).toNat by omega, hSm]
    rw [hSq, hSg, hSm] at hadd
    have hadd2 : ∀ z, (binOp .add 9 (.string Sq) (.string Sg)).run Tryz.prog z = .ok (.string Sm) z := fun z => by simp [go_sem, hadd]
    have hwd : IntKind.i64.wrap (48 + (d : Int)) = 48 + (d : Int) := IntWalk.i64_in _ (by omega)
    have hwq : IntKind.i64.wrap (q : Int) = q := IntWalk.i64_in _ (by omega)
    have hwu : IntKind.u8.wrap (48 + (d : Int)) = 48 + (d : Int) := IntWalk.u8_in _ (by omega)
    clear ih hs hq hd hdl hSq hSg hSm
    go_enter Tryz.func65, Tryz.ntmps65
    go_upto_region 7 with fail
    obtain ⟨u, hu⟩ : ∃ u, w.drew = u := ⟨_, rfl⟩
    have Bu : Hid (Below w.heap.size w u) := Lib.hid (hu ▸ (Below.refl w.heap.size w).drew)
    have Hu := Lib.hid hu
    clear hu
    refine wp_region_held_drew (S := fun z => True) (by kernel_rfl) ?_ (fun hHeld => ?_)
    · exact trivial
    rw [Hu.out]
    refine takeL (i := 0) (v := ?v1) rfl (by kernel_rfl) (by kernel_rfl) (by kernel_rfl) (fun _ _ _ h => h) (Or.inl ⟨by rfl, ?hy1⟩) (by assumption) ?_
    case hy1 => ((intro w' hSw; (try dsimp only at hSw); go_simp) <;> with_reducible rfl)
    try simp only [Act.put, List.setIfInBounds_toArray, List.set_cons_zero, List.set_cons_succ]
    refine takeL (i := 1) (v := ?v2) rfl (by kernel_rfl) (by kernel_rfl) (by kernel_rfl) (fun _ _ _ h => h) (Or.inl ⟨by rfl, ?hy2⟩) (by assumption) ?_
    case hy2 => ((intro w' hSw; (try dsimp only at hSw); go_simp) <;> with_reducible rfl)
    try simp only [Act.put, List.setIfInBounds_toArray, List.set_cons_zero, List.set_cons_succ]
    refine takeL (i := 3) (v := ?v3) rfl (by kernel_rfl) (by kernel_rfl) (by kernel_rfl) (fun _ _ _ h => h) (Or.inl ⟨by rfl, ?hy3⟩) (by assumption) ?_
    case hy3 => ((intro w' hSw; (try dsimp only at hSw); go_simp) <;> with_reducible rfl)
    try simp only [Act.put, List.setIfInBounds_toArray, List.set_cons_zero, List.set_cons_succ]
    refine takeL (i := 4) (v := ?v4) rfl (by kernel_rfl) (by kernel_rfl) (by kernel_rfl) (fun _ _ _ h => h) (Or.inl ⟨by rfl, ?hy4⟩) (by assumption) ?_
    case hy4 => ((intro w' hSw; (try dsimp only at hSw); go_simp) <;> with_reducible rfl)
    try simp only [Act.put, List.setIfInBounds_toArray, List.set_cons_zero, List.set_cons_succ]
    refine takeL (i := 5) (v := ?v5) rfl (by kernel_rfl) (by kernel_rfl) (by kernel_rfl) (fun _ _ _ h => h) (Or.inl ⟨by rfl, ?hy5⟩) (by assumption) ?_
    case hy5 => ((intro w' hSw; (try dsimp only at hSw); go_simp) <;> with_reducible rfl)
    try simp only [Act.put, List.setIfInBounds_toArray, List.set_cons_zero, List.set_cons_succ]
    refine takeL (i := 6) (v := ?v6) rfl (by kernel_rfl) (by kernel_rfl) (by kernel_rfl) (fun _ _ _ h => h) (Or.inl ⟨by rfl, ?hy6⟩) (by assumption) ?_
    case hy6 => ((intro w' hSw; (try dsimp only at hSw); go_simp) <;> with_reducible rfl)
    try simp only [Act.put, List.setIfInBounds_toArray, List.set_cons_zero, List.set_cons_succ]
    refine wpAnyH_ready (rs := [2, 7]) (by kernel_rfl) (by simp) ?_
    refine readyL rfl (fun K hK => ?_) (readyL rfl (fun K hK => ?_) AllReadyH.nil)
    · skip
      go_simp
      go_at_call 65
      refine (IH.out u).mono ?_
      rintro e x1 ⟨rfl, hbx1⟩
      have Bx1 : Hid (Below w.heap.size w x1) := Lib.hid (bch Bu.out hbx1)
      clear hbx1
      refine hK.out _ _ ?hS7 (fun hHeld => ?_)
      case hS7 => exact trivial
      clear hK K
      try simp only [Act.put, List.setIfInBounds_toArray, List.set_cons_zero, List.set_cons_succ]
      refine wpAnyH_ready (rs := [7]) (by kernel_rfl) (by simp) ?_
      refine readyL rfl (fun K hK => ?_) AllReadyH.nil
      obtain ⟨x2, hx2⟩ : ∃ x, x1.alloc (.cells #[.int .u8 (48 + (d : Int))] 5) = x := ⟨_, rfl⟩
      have rx2 : Row x2 x1.heap.size 5 [.int .u8 (48 + (d : Int))] := by rw [← hx2]; exact Row.new _ _ _
      have Bx2 : Hid (Below w.heap.size w x2) := Lib.hid (by rw [← hx2]; exact balloc Bx1.out _)
      have R := Lib.hid rx2
      go_simp
      try rw [hx2]
      clear hx2 rx2
      refine hK.out _ _ ?hS8 (fun hHeld => ?_)
      case hS8 => exact trivial
      clear hK K
      try simp only [Act.put, List.setIfInBounds_toArray, List.set_cons_zero, List.set_cons_succ]
      refine wpAnyH_ready (rs := [8]) (by kernel_rfl) (by simp) ?_
      refine readyL rfl (fun K hK => ?_) AllReadyH.nil
      have kc := KC.out w x2 _ R.out
      go_simp
      try rw [kc]
      refine hK.out _ _ ?hS9 (fun hHeld => ?_)
      case hS9 => exact trivial
      clear hK K
      try simp only [Act.put, List.setIfInBounds_toArray, List.set_cons_zero, List.set_cons_succ]
      refine takeL (i := 9) (v := ?v10) rfl (by kernel_rfl) (by kernel_rfl) (by kernel_rfl) (fun _ _ _ h => h) (Or.inl ⟨by rfl, ?hy10⟩) (by assumption) ?_
      case hy10 => ((intro w' hSw; (try dsimp only at hSw); go_simp) <;> with_reducible rfl)
      try simp only [Act.put, List.setIfInBounds_toArray, List.set_cons_zero, List.set_cons_succ]
      refine takeL (i := 10) (v := ?v11) rfl (by kernel_rfl) (by kernel_rfl) (by kernel_rfl) (fun _ _ _ h => h) (Or.inl ⟨by rfl, ?hy11⟩) (by assumption) ?_
      case hy11 => ((intro w' hSw; (try dsimp only at hSw); go_simp) <;> with_reducible rfl)
      try simp only [Act.put, List.setIfInBounds_toArray, List.set_cons_zero, List.set_cons_succ]
      refine wpAnyH_done (by kernel_rfl) ?_ _
      go_wp2
      go_ret
      exact ⟨rfl, Bx2.out⟩
    · skip
      obtain ⟨x1, hx1⟩ : ∃ x, u.alloc (.cells #[.int .u8 (48 + (d : Int))] 5) = x := ⟨_, rfl⟩
      have rx1 : Row x1 u.heap.size 5 [.int .u8 (48 + (d : Int))] := by rw [← hx1]; exact Row.new _ _ _
      have Bx1 : Hid (Below w.heap.size w x1) := Lib.hid (by rw [← hx1]; exact balloc Bu.out _)
      have R := Lib.hid rx1
      go_simp
      try rw [hx1]
      clear hx1 rx1
      refine hK.out _ _ ?hS12 (fun hHeld => ?_)
      case hS12 => exact trivial
      clear hK K
      try simp only [Act.put, List.setIfInBounds_toArray, List.set_cons_zero, List.set_cons_succ]
      refine wpAnyH_ready (rs := [2, 8]) (by kernel_rfl) (by simp) ?_
      refine readyL rfl (fun K hK => ?_) (readyL rfl (fun K hK => ?_) AllReadyH.nil)
      · skip
        go_simp
        go_at_call 65
        refine (IH.out x1).mono ?_
        rintro e x2 ⟨rfl, hbx2⟩
        have Bx2 : Hid (Below w.heap.size w x2) := Lib.hid (bch Bx1.out hbx2)
        have R := Lib.hid (R.out.on hbx2)
        clear hbx2
        refine hK.out _ _ ?hS13 (fun hHeld => ?_)
        case hS13 => exact trivial
        clear hK K
        try simp only [Act.put, List.setIfInBounds_toArray, List.set_cons_zero, List.set_cons_succ]
        refine wpAnyH_ready (rs := [8]) (by kernel_rfl) (by simp) ?_
        refine readyL rfl (fun K hK => ?_) AllReadyH.nil
        have kc := KC.out w x2 _ R.out
        go_simp
        try rw [kc]
        refine hK.out _ _ ?hS14 (fun hHeld => ?_)
        case hS14 => exact trivial
        clear hK K
        try simp only [Act.put, List.setIfInBounds_toArray, List.set_cons_zero, List.set_cons_succ]
        refine takeL (i := 9) (v := ?v15) rfl (by kernel_rfl) (by kernel_rfl) (by kernel_rfl) (fun _ _ _ h => h) (Or.inl ⟨by rfl, ?hy15⟩) (by assumption) ?_
        case hy15 => ((intro w' hSw; (try dsimp only at hSw); go_simp) <;> with_reducible rfl)
        try simp only [Act.put, List.setIfInBounds_toArray, List.set_cons_zero, List.set_cons_succ]
        refine takeL (i := 10) (v := ?v16) rfl (by kernel_rfl) (by kernel_rfl) (by kernel_rfl) (fun _ _ _ h => h) (Or.inl ⟨by rfl, ?hy16⟩) (by assumption) ?_
        case hy16 => ((intro w' hSw; (try dsimp only at hSw); go_simp) <;> with_reducible rfl)
        try simp only [Act.put, List.setIfInBounds_toArray, List.set_cons_zero, List.set_cons_succ]
        refine wpAnyH_done (by kernel_rfl) ?_ _
        go_wp2
        go_ret
        exact ⟨rfl, Bx2.out⟩
      · skip
        have kc := KC.out w x1 _ R.out
        go_simp
        try rw [kc]
        refine hK.out _ _ ?hS17 (fun hHeld => ?_)
        case hS17 => exact trivial
        clear hK K
        try simp only [Act.put, List.setIfInBounds_toArray, List.set_cons_zero, List.set_cons_succ]
        refine wpAnyH_ready (rs := [2]) (by kernel_rfl) (by simp) ?_
        refine readyL rfl (fun K hK => ?_) AllReadyH.nil
        go_simp
        go_at_call 65
        refine (IH.out x1).mono ?_
        rintro e x2 ⟨rfl, hbx2⟩
        have Bx2 : Hid (Below w.heap.size w x2) := Lib.hid (bch Bx1.out hbx2)
        have R := Lib.hid (R.out.on hbx2)
        clear hbx2
        refine hK.out _ _ ?hS18 (fun hHeld => ?_)
        case hS18 => exact trivial
        clear hK K
        try simp only [Act.put, List.setIfInBounds_toArray, List.set_cons_zero, List.set_cons_succ]
        refine takeL (i := 9) (v := ?v19) rfl (by kernel_rfl) (by kernel_rfl) (by kernel_rfl) (fun _ _ _ h => h) (Or.inl ⟨by rfl, ?hy19⟩) (by assumption) ?_
        case hy19 => ((intro w' hSw; (try dsimp only at hSw); go_simp) <;> with_reducible rfl)
        try simp only [Act.put, List.setIfInBounds_toArray, List.set_cons_zero, List.set_cons_succ]
        refine takeL (i := 10) (v := ?v20) rfl (by kernel_rfl) (by kernel_rfl) (by kernel_rfl) (fun _ _ _ h => h) (Or.inl ⟨by rfl, ?hy20⟩) (by assumption) ?_
        case hy20 => ((intro w' hSw; (try dsimp only at hSw); go_simp) <;> with_reducible rfl)
        try simp only [Act.put, List.setIfInBounds_toArray, List.set_cons_zero, List.set_cons_succ]
        refine wpAnyH_done (by kernel_rfl) ?_ _
        go_wp2
        go_ret
        exact ⟨rfl, Bx2.out⟩
end Go.Proofs.YtmhlpjfijpomkaaGreatDoor
