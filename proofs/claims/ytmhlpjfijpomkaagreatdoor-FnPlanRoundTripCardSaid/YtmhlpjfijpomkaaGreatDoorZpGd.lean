import Derived.Test.YtmhlpjfijpomkaaGreatDoorZpGc
import Derived.Lib.ItoaNum
import Derived.Test.YtmhlpjfijpomkaaGreatDoorProg
import Derived.Deep.RegionHeld3
import Derived.Laws.Concat
import Derived.Laws.IdiomStrings
import Derived.Test.YtmhlpjfijpomkaaGreatDoorZpGa
import Derived.Test.YtmhlpjfijpomkaaGreatDoorZpVlE
/-
  The text of an expression, in plain Lean.
-/
namespace Go.Qo
open Go.RowKit
set_option linter.unusedVariables false
set_option linter.unusedSimpArgs false

/-- A text as a value. -/
def bArr (l : List UInt8) : ByteArray := ⟨l.toArray⟩
def valText (v : Val) : List UInt8 := if v.1 then [110, 117, 108, 108] else Lib.itoa v.2
def opTexts : List (List UInt8) := [[], [99, 111, 108], [118, 97, 108], [43], [45], [42], [61], [60], [97, 110, 100], [111, 114], [110, 111, 116], [110, 117, 108, 108]]
def opText (k : Int) : List UInt8 := opTexts.getD k.toNat []
mutual
def exText : Ex → List UInt8
  | .mk k c v ks => if k = 1 then 35 :: Lib.itoa c else if k = 2 then valText v else 40 :: (opText k ++ (exsText ks ++ [41]))
def exsText : List Ex → List UInt8
  | [] => []
  | x :: xs => 32 :: (exText x ++ exsText xs)
end
theorem exText_eq (e : Ex) : exText e = if e.kind = 1 then 35 :: Lib.itoa e.col else if e.kind = 2 then valText e.val else 40 :: (opText e.kind ++ (exsText e.kids ++ [41])) := by
  obtain ⟨k, c, v, ks⟩ := e
  rw [exText]
  rfl
theorem exsText_append : ∀ (a b : List Ex), exsText (a ++ b) = exsText a ++ exsText b
  | [], b => by simp [exsText]
  | x :: a, b => by simp [exsText, exsText_append a b]
theorem exsText_snoc (a : List Ex) (x : Ex) : exsText (a ++ [x]) = exsText a ++ 32 :: exText x := by rw [exsText_append]; simp [exsText]
end Go.Qo

/-
  Steps of a drawing region, one by one: the operation is found in the list.
-/
namespace Go.Proofs.YtmhlpjfijpomkaaGreatDoor
section
variable {P : Program} {l : List Oper} {Q : Exit → Act → World → Prop} {md : Region.Mode} {S : World → Prop}
/-- 'wpAnyH_take' with the operation found in the list. -/
theorem takeL {i : Nat} {oi : Oper} {v : Value} {fuel : Nat} {listed : Array Bool} {a : Act} {w : World} (hi : l[i]? = some oi)
    (hs : Region.noSelect l.toArray = true) (hf : Region.free md l.toArray listed i = true) (hr : (Region.ready md l.toArray listed).contains i = true)
    (hQ : ∀ c a w, Q (.panic c) (a.put oi.dst v) w → Q (.panic c) a w) (hy : YieldsIf P l.toArray S oi v a) (hS : S w)
    (h : wpAnyH P md l.toArray Q S fuel (listed.setIfInBounds i true) (a.put oi.dst v) w) : wpAnyH P md l.toArray Q S (fuel + 1) listed a w :=
  wpAnyH_take (by simpa using hi) hs hf hr hQ hy hS h
theorem readyL {fuel : Nat} {listed : Array Bool} {a : Act} {w : World} {i : Nat} {o : Oper} {rs : List Nat} (ho : l[i]? = some o)
    (h : ∀ K' : Act → World → Prop, Shut (∀ a w, S w → (S w → wpAnyH P md l.toArray Q S fuel (listed.setIfInBounds i true) a w) → K' a w) → if Region.wanted o (yielded l.toArray a.tmps) = true then Oper.wp P o a w K' Q else K' (a.put o.dst undef) w)
    (hs : AllReadyH P md l.toArray Q S fuel listed a w rs) : AllReadyH P md l.toArray Q S fuel listed a w (i :: rs) := AllReadyH.cons (by simpa using ho) h hs
end
end Go.Proofs.YtmhlpjfijpomkaaGreatDoor

/-
  Contracts: the reference's texts of numbers, values and expressions. (Printed by wip/ens.py.)
-/
namespace Go.Proofs.YtmhlpjfijpomkaaGreatDoor
open Go.RowKit Go.Qo
set_option linter.unusedVariables false
set_option linter.unusedSimpArgs false

theorem conv1 (n : Int) (h0 : 0 ≤ n) (h1 : n < 256) (w w' : World) (a : Nat) (hr : Row w' a 5 [.int .u8 n]) : (convert 35 9 (.slice (some ⟨a, 0, none⟩) 1 1)).run Tryz.prog w' = .ok (.string ⟨[UInt8.ofNat n.toNat].toArray⟩) w' := by
  refine run_convert_bytes_back w' _ _ 5 ⟨a, 0, none⟩ 1 [UInt8.ofNat n.toNat] Tryz.underlying35 Tryz.underlying5 Tryz.underlying9 (fun j hj => ?_)
  have hj0 : j = 0 := by simp at hj; omega
  subst hj0
  have h := hr.cell 0
  simp only [List.getElem_cons_zero]
  have e : ((UInt8.ofNat n.toNat).toNat : Int) = n := by
    rw [UInt8.toNat_ofNat_of_lt' (by show n.toNat < 256; omega)]; omega
  rw [e]
  exact h
theorem dec_big {m : Nat} (h : ¬ m < 10) : Lib.decDigits m = Lib.decDigits (m / 10) ++ [UInt8.ofNat (48 + m % 10)] := by rw [Lib.decDigits, dif_neg h]
theorem dec_small {m : Nat} (h : m < 10) : Lib.decDigits m = [UInt8.ofNat (48 + m)] := by rw [Lib.decDigits, dif_pos h]
theorem dec_len : ∀ (k m : Nat), m < 10 ^ (k + 1) → (Lib.decDigits m).length ≤ k + 1
  | 0, m, h => by rw [dec_small (by simpa using h)]; simp
  | k + 1, m, h => by
    by_cases h1 : m < 10
    · rw [dec_small h1]; simp
    · rw [dec_big h1]
      have := dec_len k (m / 10) (by rw [Nat.pow_succ] at h; omega)
      simp; omega

theorem strAddOp (x y : List UInt8) (hx : x.length ≤ 8388608) (hy : y.length ≤ 8388608) (w : World) : (Op.stringOp .add (bArr x) (bArr y)).run Tryz.prog w = .ok (.string (bArr (x ++ y))) w :=
  run_string_add_lists (P := Tryz.prog) w x y (by omega) (by omega)

set_option maxRecDepth 20000 in
set_option maxHeartbeats 2000000 in
theorem formatNat_ok : ∀ (m : Nat) (w : World), m < 1000000 → Calls Tryz.prog 65 #[.int .i64 m] w fun e w' => e = .returned (.string (bArr (Lib.decDigits m))) ∧ Below w.heap.size w w' := by
  intro m
  induction m using Nat.strongRecOn with
  | _ m ih =>
  intro w hm
  have h1 : ¬ ((m : Int) < -9223372036854775807) := by omega
  have h2 : ¬ ((m : Int) < 0) := by omega
  by_cases hs : m < 10
  · have h3 : (m : Int) < 10 := by omega
    have kc0 := conv1 (48 + m) (by omega) (by omega) w (w.alloc (.cells #[.int .u8 (48 + m)] 5)) w.heap.size (Row.new _ _ _)
    have hB := Lib.hid (balloc (Below.refl w.heap.size w) (.cells #[.int .u8 (48 + (m : Int))] 5))
    rw [dec_small hs, show (48 + m : Nat) = (48 + (m : Int)).toNat by omega]
    obtain ⟨S, hS⟩ : ∃ S, bArr [UInt8.ofNat (48 + (m : Int)).toNat] = S := ⟨_, rfl⟩
    have kc : (convert 35 9 (.slice (some ⟨w.heap.size, 0, none⟩) 1 1)).run Tryz.prog (w.alloc (.cells #[.int .u8 (48 + m)] 5)) = .ok (.string S) (w.alloc (.cells #[.int .u8 (48 + m)] 5)) := by rw [← hS]; exact kc0
    rw [hS]
    clear ih hs hS kc0
    go_enter Tryz.func65, Tryz.ntmps65
    go_wp2
    go_ret
    exact ⟨rfl, hB.out⟩
  · have h3 : ¬ ((m : Int) < 10) := by omega
    obtain ⟨q, hq⟩ : ∃ q : Nat, m / 10 = q := ⟨_, rfl⟩
    obtain ⟨d, hd⟩ : ∃ d : Nat, m % 10 = d := ⟨_, rfl⟩
    have hqi : (m : Int).tdiv 10 = (q : Int) := by rw [Int.tdiv_eq_ediv_of_nonneg (by omega)]; omega
    have hdi : (m : Int).tmod 10 = (d : Int) := by rw [Int.tmod_eq_emod_of_nonneg (by omega)]; omega
    have hd9 : d < 10 := by omega
    obtain ⟨Sq, hSq⟩ : ∃ S, bArr (Lib.decDigits q) = S := ⟨_, rfl⟩
    obtain ⟨Sg, hSg⟩ : ∃ S, bArr [UInt8.ofNat (48 + (d : Int)).toNat] = S := ⟨_, rfl⟩
    obtain ⟨Sm, hSm⟩ : ∃ S, bArr (Lib.decDigits q ++ [UInt8.ofNat (48 + (d : Int)).toNat]) = S := ⟨_, rfl⟩
    have IH := Lib.hid (fun z => hSq ▸ ih q (by omega) z (by omega))
    have KC := Lib.hid (fun (w w' : World) (a : Nat) (hr : Row w' a 5 [.int .u8 (48 + (d : Int))]) => show (convert 35 9 (.slice (some ⟨a, 0, none⟩) 1 1)).run Tryz.prog w' = .ok (.string Sg) w' from hSg ▸ conv1 (48 + d) (by omega) (by omega) w w' a hr)
    have hdl := dec_len 5 q (by omega)
    have hadd := fun z => strAddOp (Lib.decDigits q) [UInt8.ofNat (48 + (d : Int)).toNat] (by omega) (by simp) z
    rw [dec_big hs, hq, hd, show (48 + d : Nat) = (48 + (d : Int)).toNat by omega, hSm]
    rw [hSq, hSg, hSm] at hadd
    have hadd2 : ∀ z, (binOp .add 9 (.string Sq) (.string Sg)).run Tryz.prog z = .ok (.string Sm) z := fun z => by simp [go_sem, hadd]
    have hwd : IntKind.i64.wrap (48 + (d : Int)) = 48 + (d : Int) := IntWalk.i64_in _ (by omega)
    have hwq : IntKind.i64.wrap (q : Int) = q := IntWalk.i64_in _ (by omega)
    have hwu : IntKind.u8.wrap (48 + (d : Int)) = 48 + (d : Int) := IntWalk.u8_in _ (by omega)
    clear ih hs hq hd hdl hSq hSg hSm
    go_enter Tryz.func65, Tryz.ntmps65
    go_upto_region 7 with fail
    obtain ⟨u, hu⟩ : ∃ u, w.drew = u := ⟨_, rfl⟩
    have Bu : Hid (Below w.heap.size w u) := Lib.hid (hu ▸ (Below.refl w.heap.size w).drew)
    have Hu := Lib.hid hu
    clear hu
    refine wp_region_held_drew (S := fun z => True) (by kernel_rfl) ?_ (fun hHeld => ?_)
    · exact trivial
    rw [Hu.out]
    refine takeL (i := 0) (v := ?v1) rfl (by kernel_rfl) (by kernel_rfl) (by kernel_rfl) (fun _ _ _ h => h) (Or.inl ⟨by rfl, ?hy1⟩) (by assumption) ?_
    case hy1 => ((intro w' hSw; (try dsimp only at hSw); go_simp) <;> with_reducible rfl)
    try simp only [Act.put, List.setIfInBounds_toArray, List.set_cons_zero, List.set_cons_succ]
    refine takeL (i := 1) (v := ?v2) rfl (by kernel_rfl) (by kernel_rfl) (by kernel_rfl) (fun _ _ _ h => h) (Or.inl ⟨by rfl, ?hy2⟩) (by assumption) ?_
    case hy2 => ((intro w' hSw; (try dsimp only at hSw); go_simp) <;> with_reducible rfl)
    try simp only [Act.put, List.setIfInBounds_toArray, List.set_cons_zero, List.set_cons_succ]
    refine takeL (i := 3) (v := ?v3) rfl (by kernel_rfl) (by kernel_rfl) (by kernel_rfl) (fun _ _ _ h => h) (Or.inl ⟨by rfl, ?hy3⟩) (by assumption) ?_
    case hy3 => ((intro w' hSw; (try dsimp only at hSw); go_simp) <;> with_reducible rfl)
    try simp only [Act.put, List.setIfInBounds_toArray, List.set_cons_zero, List.set_cons_succ]
    refine takeL (i := 4) (v := ?v4) rfl (by kernel_rfl) (by kernel_rfl) (by kernel_rfl) (fun _ _ _ h => h) (Or.inl ⟨by rfl, ?hy4⟩) (by assumption) ?_
    case hy4 => ((intro w' hSw; (try dsimp only at hSw); go_simp) <;> with_reducible rfl)
    try simp only [Act.put, List.setIfInBounds_toArray, List.set_cons_zero, List.set_cons_succ]
    refine takeL (i := 5) (v := ?v5) rfl (by kernel_rfl) (by kernel_rfl) (by kernel_rfl) (fun _ _ _ h => h) (Or.inl ⟨by rfl, ?hy5⟩) (by assumption) ?_
    case hy5 => ((intro w' hSw; (try dsimp only at hSw); go_simp) <;> with_reducible rfl)
    try simp only [Act.put, List.setIfInBounds_toArray, List.set_cons_zero, List.set_cons_succ]
    refine takeL (i := 6) (v := ?v6) rfl (by kernel_rfl) (by kernel_rfl) (by kernel_rfl) (fun _ _ _ h => h) (Or.inl ⟨by rfl, ?hy6⟩) (by assumption) ?_
    case hy6 => ((intro w' hSw; (try dsimp only at hSw); go_simp) <;> with_reducible rfl)
    try simp only [Act.put, List.setIfInBounds_toArray, List.set_cons_zero, List.set_cons_succ]
    refine wpAnyH_ready (rs := [2, 7]) (by kernel_rfl) (by simp) ?_
    refine readyL rfl (fun K hK => ?_) (readyL rfl (fun K hK => ?_) AllReadyH.nil)
    · skip
      go_simp
      go_at_call 65
      refine (IH.out u).mono ?_
      rintro e x1 ⟨rfl, hbx1⟩
      have Bx1 : Hid (Below w.heap.size w x1) := Lib.hid (bch Bu.out hbx1)
      clear hbx1
      refine hK.out _ _ ?hS7 (fun hHeld => ?_)
      case hS7 => exact trivial
      clear hK K
      try simp only [Act.put, List.setIfInBounds_toArray, List.set_cons_zero, List.set_cons_succ]
      refine wpAnyH_ready (rs := [7]) (by kernel_rfl) (by simp) ?_
      refine readyL rfl (fun K hK => ?_) AllReadyH.nil
      obtain ⟨x2, hx2⟩ : ∃ x, x1.alloc (.cells #[.int .u8 (48 + (d : Int))] 5) = x := ⟨_, rfl⟩
      have rx2 : Row x2 x1.heap.size 5 [.int .u8 (48 + (d : Int))] := by rw [← hx2]; exact Row.new _ _ _
      have Bx2 : Hid (Below w.heap.size w x2) := Lib.hid (by rw [← hx2]; exact balloc Bx1.out _)
      have R := Lib.hid rx2
      go_simp
      try rw [hx2]
      clear hx2 rx2
      refine hK.out _ _ ?hS8 (fun hHeld => ?_)
      case hS8 => exact trivial
      clear hK K
      try simp only [Act.put, List.setIfInBounds_toArray, List.set_cons_zero, List.set_cons_succ]
      refine wpAnyH_ready (rs := [8]) (by kernel_rfl) (by simp) ?_
      refine readyL rfl (fun K hK => ?_) AllReadyH.nil
      have kc := KC.out w x2 _ R.out
      go_simp
      try rw [kc]
      refine hK.out _ _ ?hS9 (fun hHeld => ?_)
      case hS9 => exact trivial
      clear hK K
      try simp only [Act.put, List.setIfInBounds_toArray, List.set_cons_zero, List.set_cons_succ]
      refine takeL (i := 9) (v := ?v10) rfl (by kernel_rfl) (by kernel_rfl) (by kernel_rfl) (fun _ _ _ h => h) (Or.inl ⟨by rfl, ?hy10⟩) (by assumption) ?_
      case hy10 => ((intro w' hSw; (try dsimp only at hSw); go_simp) <;> with_reducible rfl)
      try simp only [Act.put, List.setIfInBounds_toArray, List.set_cons_zero, List.set_cons_succ]
      refine takeL (i := 10) (v := ?v11) rfl (by kernel_rfl) (by kernel_rfl) (by kernel_rfl) (fun _ _ _ h => h) (Or.inl ⟨by rfl, ?hy11⟩) (by assumption) ?_
      case hy11 => ((intro w' hSw; (try dsimp only at hSw); go_simp) <;> with_reducible rfl)
      try simp only [Act.put, List.setIfInBounds_toArray, List.set_cons_zero, List.set_cons_succ]
      refine wpAnyH_done (by kernel_rfl) ?_ _
      go_wp2
      go_ret
      exact ⟨rfl, Bx2.out⟩
    · skip
      obtain ⟨x1, hx1⟩ : ∃ x, u.alloc (.cells #[.int .u8 (48 + (d : Int))] 5) = x := ⟨_, rfl⟩
      have rx1 : Row x1 u.heap.size 5 [.int .u8 (48 + (d : Int))] := by rw [← hx1]; exact Row.new _ _ _
      have Bx1 : Hid (Below w.heap.size w x1) := Lib.hid (by rw [← hx1]; exact balloc Bu.out _)
      have R := Lib.hid rx1
      go_simp
      try rw [hx1]
      clear hx1 rx1
      refine hK.out _ _ ?hS12 (fun hHeld => ?_)
      case hS12 => exact trivial
      clear hK K
      try simp only [Act.put, List.setIfInBounds_toArray, List.set_cons_zero, List.set_cons_succ]
      refine wpAnyH_ready (rs := [2, 8]) (by kernel_rfl) (by simp) ?_
      refine readyL rfl (fun K hK => ?_) (readyL rfl (fun K hK => ?_) AllReadyH.nil)
      · skip
        go_simp
        go_at_call 65
        refine (IH.out x1).mono ?_
        rintro e x2 ⟨rfl, hbx2⟩
        have Bx2 : Hid (Below w.heap.size w x2) := Lib.hid (bch Bx1.out hbx2)
        have R := Lib.hid (R.out.on hbx2)
        clear hbx2
        refine hK.out _ _ ?hS13 (fun hHeld => ?_)
        case hS13 => exact trivial
        clear hK K
        try simp only [Act.put, List.setIfInBounds_toArray, List.set_cons_zero, List.set_cons_succ]
        refine wpAnyH_ready (rs := [8]) (by kernel_rfl) (by simp) ?_
        refine readyL rfl (fun K hK => ?_) AllReadyH.nil
        have kc := KC.out w x2 _ R.out
        go_simp
        try rw [kc]
        refine hK.out _ _ ?hS14 (fun hHeld => ?_)
        case hS14 => exact trivial
        clear hK K
        try simp only [Act.put, List.setIfInBounds_toArray, List.set_cons_zero, List.set_cons_succ]
        refine takeL (i := 9) (v := ?v15) rfl (by kernel_rfl) (by kernel_rfl) (by kernel_rfl) (fun _ _ _ h => h) (Or.inl ⟨by rfl, ?hy15⟩) (by assumption) ?_
        case hy15 => ((intro w' hSw; (try dsimp only at hSw); go_simp) <;> with_reducible rfl)
        try simp only [Act.put, List.setIfInBounds_toArray, List.set_cons_zero, List.set_cons_succ]
        refine takeL (i := 10) (v := ?v16) rfl (by kernel_rfl) (by kernel_rfl) (by kernel_rfl) (fun _ _ _ h => h) (Or.inl ⟨by rfl, ?hy16⟩) (by assumption) ?_
        case hy16 => ((intro w' hSw; (try dsimp only at hSw); go_simp) <;> with_reducible rfl)
        try simp only [Act.put, List.setIfInBounds_toArray, List.set_cons_zero, List.set_cons_succ]
        refine wpAnyH_done (by kernel_rfl) ?_ _
        go_wp2
        go_ret
        exact ⟨rfl, Bx2.out⟩
      · skip
        have kc := KC.out w x1 _ R.out
        go_simp
        try rw [kc]
        refine hK.out _ _ ?hS17 (fun hHeld => ?_)
        case hS17 => exact trivial
        clear hK K
        try simp only [Act.put, List.setIfInBounds_toArray, List.set_cons_zero, List.set_cons_succ]
        refine wpAnyH_ready (rs := [2]) (by kernel_rfl) (by simp) ?_
        refine readyL rfl (fun K hK => ?_) AllReadyH.nil
        go_simp
        go_at_call 65
        refine (IH.out x1).mono ?_
        rintro e x2 ⟨rfl, hbx2⟩
        have Bx2 : Hid (Below w.heap.size w x2) := Lib.hid (bch Bx1.out hbx2)
        have R := Lib.hid (R.out.on hbx2)
        clear hbx2
        refine hK.out _ _ ?hS18 (fun hHeld => ?_)
        case hS18 => exact trivial
        clear hK K
        try simp only [Act.put, List.setIfInBounds_toArray, List.set_cons_zero, List.set_cons_succ]
        refine takeL (i := 9) (v := ?v19) rfl (by kernel_rfl) (by kernel_rfl) (by kernel_rfl) (fun _ _ _ h => h) (Or.inl ⟨by rfl, ?hy19⟩) (by assumption) ?_
        case hy19 => ((intro w' hSw; (try dsimp only at hSw); go_simp) <;> with_reducible rfl)
        try simp only [Act.put, List.setIfInBounds_toArray, List.set_cons_zero, List.set_cons_succ]
        refine takeL (i := 10) (v := ?v20) rfl (by kernel_rfl) (by kernel_rfl) (by kernel_rfl) (fun _ _ _ h => h) (Or.inl ⟨by rfl, ?hy20⟩) (by assumption) ?_
        case hy20 => ((intro w' hSw; (try dsimp only at hSw); go_simp) <;> with_reducible rfl)
        try simp only [Act.put, List.setIfInBounds_toArray, List.set_cons_zero, List.set_cons_succ]
        refine wpAnyH_done (by kernel_rfl) ?_ _
        go_wp2
        go_ret
        exact ⟨rfl, Bx2.out⟩
end Go.Proofs.YtmhlpjfijpomkaaGreatDoor

/-
  Contracts: the reference's texts of numbers below nought, of values; the names of kinds.
-/
namespace Go.Proofs.YtmhlpjfijpomkaaGreatDoor
open Go.RowKit Go.Qo
set_option linter.unusedVariables false
set_option linter.unusedSimpArgs false

theorem itoa_len {n : Int} (h0 : -10000 < n) (h1 : n < 10000) : (Lib.itoa n).length ≤ 5 := by
  unfold Lib.itoa
  split
  · have := dec_len 3 n.natAbs (by show n.natAbs < 10000; omega)
    simp; omega
  · have := dec_len 3 n.toNat (by show n.toNat < 10000; omega)
    omega
set_option maxRecDepth 20000 in
set_option maxHeartbeats 2000000 in
theorem formatInt_ok (n : Int) (w : World) (h0 : -10000 < n) (h1 : n < 10000) : Calls Tryz.prog 65 #[.int .i64 n] w fun e w' => e = .returned (.string (bArr (Lib.itoa n))) ∧ Below w.heap.size w w' := by
  by_cases hn : n < 0
  · obtain ⟨m, hm⟩ : ∃ m : Nat, -n = m := ⟨(-n).toNat, by omega⟩
    have e : Lib.itoa n = 45 :: Lib.decDigits m := by
      unfold Lib.itoa
      rw [if_pos hn, show n.natAbs = m by omega]
    have hdl := dec_len 5 m (by omega)
    have HF := Lib.hid (formatNat_ok m w (by omega))
    have hadd := fun z => strAddOp [45] (Lib.decDigits m) (by simp) (by omega) z
    rw [e]
    obtain ⟨Sq, hSq⟩ : ∃ S, bArr (Lib.decDigits m) = S := ⟨_, rfl⟩
    obtain ⟨Sm, hSm⟩ : ∃ S, bArr (45 :: Lib.decDigits m) = S := ⟨_, rfl⟩
    have hadd1 : ∀ z, (Op.stringOp .add ⟨#[45]⟩ Sq).run Tryz.prog z = .ok (.string Sm) z := fun z => by rw [← hSq, ← hSm]; exact hadd z
    have hadd2 : ∀ z, (binOp .add 9 (.string ⟨#[45]⟩) (.string Sq)).run Tryz.prog z = .ok (.string Sm) z := fun z => by simp [go_sem, hadd1]
    rw [hSq] at HF
    rw [hSm]
    have h2 : ¬ (n < -9223372036854775807) := by omega
    have hneg : IntKind.i64.wrap (-n) = (m : Int) := by rw [hm]; exact IntWalk.i64_in _ (by omega)
    have HM := Lib.hid hm
    clear hadd hSq hSm e hm hdl
    go_enter Tryz.func65, Tryz.ntmps65
    go_wp2_with fail
    refine HF.out.mono ?_
    rintro e w1 ⟨rfl, hb1⟩
    go_wp2
    go_ret
    exact ⟨rfl, hb1⟩
  · obtain ⟨m, rfl⟩ := Int.eq_ofNat_of_zero_le (show 0 ≤ n by omega)
    have e : Lib.itoa (m : Int) = Lib.decDigits m := by
      unfold Lib.itoa
      rw [if_neg hn, Int.toNat_natCast]
    rw [e]
    exact formatNat_ok m w (by omega)

set_option maxRecDepth 20000 in
set_option maxHeartbeats 1000000 in
theorem formatValue_ok (v : Val) (w : World) (hv : vValid v = true) : Calls Tryz.prog 90 #[.agg #[.bool v.1, .int .i64 v.2]] w fun e w' => e = .returned (.string (bArr (valText v))) ∧ Below w.heap.size w w' := by
  obtain ⟨b, n⟩ := v
  obtain ⟨W1, hW1⟩ : ∃ z, w.alloc (.cells #[.bool b, .int .i64 n] 38) = z := ⟨_, rfl⟩
  have B1 : Below w.heap.size w W1 := by rw [← hW1]; exact balloc (Below.refl _ _) _
  have r1 : Row W1 w.heap.size 38 [.bool b, .int .i64 n] := by rw [← hW1]; exact Row.new _ _ _
  have c0 : W1.cell? ⟨w.heap.size, 0, none⟩ = some (.bool b) := r1.cell 0
  have c1 : W1.cell? ⟨w.heap.size, 1, none⟩ = some (.int .i64 n) := r1.cell 1
  have HW1 := Lib.hid hW1
  have HB1 := Lib.hid B1
  clear hW1 B1 r1
  cases b
  · have hn : -10000 < n ∧ n < 10000 := by
      simp [vValid] at hv
      omega
    have HF := Lib.hid (formatInt_ok n W1 hn.1 hn.2)
    have e : valText (false, n) = Lib.itoa n := rfl
    rw [e]
    obtain ⟨S, hS⟩ : ∃ S, bArr (Lib.itoa n) = S := ⟨_, rfl⟩
    rw [hS] at HF ⊢
    clear hS e hv hn
    go_enter Tryz.func90, Tryz.ntmps90
    go_upto_region 1 with fail
    rw [HW1.out]
    go_wp2_with fail
    refine HF.out.mono ?_
    rintro e w1 ⟨rfl, hb1⟩
    go_wp2
    go_ret
    exact ⟨rfl, bch HB1.out hb1⟩
  · clear hv
    go_enter Tryz.func90, Tryz.ntmps90
    go_upto_region 1 with fail
    rw [HW1.out]
    go_wp2
    go_ret
    exact ⟨rfl, HB1.out⟩

theorem exprNames_ok (w : World) : Calls Tryz.prog 86 #[] w fun e w' => e = .returned (.slice (some ⟨w.heap.size, 0, none⟩) 12 12) ∧ Below w.heap.size w w' ∧ Row w' w.heap.size 9 (opTexts.map fun l => .string (bArr l)) := by
  go_enter Tryz.func86, Tryz.ntmps86
  go_wp2
  go_ret
  exact ⟨rfl, balloc (Below.refl _ _) _, (Row.new _ _ _).of rfl⟩

theorem opText_len (k : Int) : (opText k).length ≤ 4 := by
  unfold opText
  rw [List.getD_eq_getElem?_getD]
  cases h : opTexts[k.toNat]? with
  | none => simp
  | some l =>
    have hm : l ∈ opTexts := List.mem_of_getElem? h
    simp only [Option.getD_some]
    clear h
    revert l
    decide +kernel
theorem valText_len {v : Val} (h : vValid v = true) : (valText v).length ≤ 5 := by
  obtain ⟨b, n⟩ := v
  cases b
  · simp [vValid] at h
    exact itoa_len (by omega) (by omega)
  · simp [valText]
theorem exText_len {width : Int} (hw : width ≤ 6) : ∀ (d : Nat) (x : Ex), ExOk width d x → (exText x).length + 8 ≤ 2 ^ (d + 4)
  | d, x, h => by
    obtain ⟨h1, h2, h3, h4⟩ := exOk_iff.1 h
    have hp : 16 ≤ 2 ^ (d + 4) := by rw [Nat.pow_add]; have := Nat.one_le_two_pow (n := d); omega
    rw [exText_eq]
    unfold LocOk at h4
    by_cases k1 : x.kind = 1
    · rw [if_pos k1] at h4 ⊢
      have := itoa_len (n := x.col) (by omega) (by omega)
      simp; omega
    · rw [if_neg k1] at h4 ⊢
      by_cases k2 : x.kind = 2
      · rw [if_pos k2] at h4 ⊢
        have := valText_len h4.2
        omega
      · rw [if_neg k2]
        have hn := opText_len x.kind
        have hkl := h.kids_le
        have hd : 0 < x.kids.length → (exsText x.kids).length + 16 ≤ 2 ^ (d + 4) + 2 := fun h0 => by
          have hd0 := h2 h0
          obtain ⟨d', rfl⟩ : ∃ d', d = d' + 1 := ⟨d - 1, by omega⟩
          have hk : ∀ y ∈ x.kids, (exText y).length + 8 ≤ 2 ^ (d' + 4) := fun y hy => exText_len hw d' y (by have := h3 y hy; rwa [show ((d' + 1 : Nat) : Int) - 1 = (d' : Int) by omega] at this)
          have hp' : 2 ^ (d' + 1 + 4) = 2 * 2 ^ (d' + 4) := by rw [show d' + 1 + 4 = d' + 4 + 1 by omega, Nat.pow_succ]; omega
          match hks : x.kids, hkl, hk with
          | [], _, _ => simp [hks] at h0
          | [a], _, hk => have := hk a (by simp); simp [exsText]; omega
          | [a, b], _, hk => have := hk a (by simp); have := hk b (by simp); simp [exsText]; omega
        by_cases h0 : 0 < x.kids.length
        · have := hd h0
          simp; omega
        · have : x.kids = [] := List.length_eq_zero_iff.1 (by omega)
          rw [this]
          simp [exsText]; omega
termination_by _ x => SizeOf.sizeOf x
decreasing_by exact Ex.kid_lt hy
end Go.Proofs.YtmhlpjfijpomkaaGreatDoor
