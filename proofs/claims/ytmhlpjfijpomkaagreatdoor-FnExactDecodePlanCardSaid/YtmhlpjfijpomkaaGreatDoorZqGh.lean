import Derived.Test.YtmhlpjfijpomkaaGreatDoorProg
import Derived.Test.YtmhlpjfijpomkaaGreatDoorZqDcT
import Derived.Test.YtmhlpjfijpomkaaGreatDoorZqDcS
import Derived.Test.YtmhlpjfijpomkaaGreatDoorZqEnG
import Derived.Test.YtmhlpjfijpomkaaGreatDoorZqGf
import Derived.Test.YtmhlpjfijpomkaaGreatDoorZqPln
/-
  Contract: the reference's parser: does a plan lie ahead (isPlan).
-/
namespace Go.Proofs.YtmhlpjfijpomkaaGreatDoor
open Go.RowKit Go.Qo
set_option linter.unusedVariables false
set_option linter.unusedSimpArgs false

theorem plName_at (i : Nat) (h : 1 + i < 9) {w : World} {nb : Nat} (hr : Row w nb 9 (plTexts.map fun l => .string (bArr l))) {T : ByteArray} (hT : bArr (plName (1 + (i : Int))) = T) : w.cell? ⟨nb, 1 + i, none⟩ = some (.string T) := by
  have h13 : 1 + i < plTexts.length := h
  rw [hr.cell (1 + i), ← hT, List.getElem?_map, List.getElem?_eq_getElem h13]
  unfold plName
  rw [show (1 + (i : Int)).toNat = 1 + i by omega, List.getD_eq_getElem?_getD, List.getElem?_eq_getElem h13]
  rfl

theorem kindOf_more {nm : Int → List UInt8} {l : List UInt8} {lo : Int} : ∀ {n m : Nat}, n ≤ m → (kindOf nm lo n l).isSome = true → (kindOf nm lo m l).isSome = true := fun {n m} h => by
  induction m with
  | zero => intro hs; rw [show n = 0 by omega] at hs; exact hs
  | succ m ih =>
    intro hs
    by_cases e : n = m + 1
    · rw [← e]; exact hs
    · have := ih (by omega) hs
      rw [kindOf_snoc]
      cases hk : kindOf nm lo m l with
      | none => rw [hk] at this; cases this
      | some k => rfl

set_option maxRecDepth 20000 in
set_option maxHeartbeats 2000000 in
theorem isPlan_ok {b : Nat} {L r : List UInt8} {ok : Bool} {w : World} (h : Ps w b L r ok) (hL : L.length ≤ 8388608) : Calls Tryz.prog 62 #[.pointer (some ⟨b, 0, none⟩)] w fun e w' =>
    e = .returned (.bool (isPl r)) ∧ Below w.heap.size w w' := by
  have hrL := h.len
  have HPk := Lib.hid (peek_ok h hL)
  by_cases h40 : ∃ r', r = 40 :: r'
  case neg =>
    have h40' : ∀ r', r ≠ 40 :: r' := fun r' e => h40 ⟨r', e⟩
    have hne : (((r.headD 0).toNat : Int) != 40) = true := by
      cases r with
      | nil => rfl
      | cons c r' => exact (u8_ne (c := c) 40 40 rfl (fun e => h40' r' (by rw [e]))).1
    have hp : isPl r = false := by
      unfold isPl
      cases r with
      | nil => rfl
      | cons c r' => exact if_neg fun e => h40' r' (by rw [e])
    obtain ⟨pk, hpk⟩ : ∃ pk : Nat, (r.headD 0).toNat = pk := ⟨_, rfl⟩
    rw [hpk] at HPk hne
    rw [hp]
    clear h40 h40' hpk hp h
    go_enter Tryz.func62, Tryz.ntmps62
    go_wp2_with fail
    refine HPk.out.mono ?_
    rintro e w1 ⟨rfl, hb1⟩
    go_wp2
    go_ret
    exact ⟨rfl, hb1⟩
  obtain ⟨r1, rfl⟩ := h40
  obtain ⟨a, ha, hrow⟩ := h
  obtain ⟨name, hname⟩ : ∃ m, wordOf r1 = m := ⟨_, rfl⟩
  obtain ⟨R, hR⟩ : ∃ R, isPl (40 :: r1) = R := ⟨_, rfl⟩
  have HR := Lib.hid (show R = (kindOf plName 1 8 name).isSome by rw [← hR, ← hname]; rfl)
  rw [hR]
  have hpk : ((40 :: r1).headD 0).toNat = 40 := rfl
  rw [hpk] at HPk
  obtain ⟨n, hn⟩ : ∃ n, a.length = n := ⟨_, rfl⟩
  have hnL : n + 1 ≤ L.length := by rw [ha]; simp; omega
  obtain ⟨S, hS⟩ : ∃ S, bArr L = S := ⟨_, rfl⟩
  rw [hn, hS] at hrow
  have CX := Lib.hid (fun (z : World) (hz : Below w.heap.size w z) => show z.cell? ⟨b, 0, none⟩ = some (.string S) ∧ z.cell? ⟨b, 1, none⟩ = some (.int .i64 n) from ⟨(hrow.on hz).cell 0, (hrow.on hz).cell 1⟩)
  have hlt := hrow.lt
  have hw1 : IntKind.i64.wrap ((n : Int) + 1) = (n : Int) + 1 := IntWalk.i64_in _ (by omega)
  have NP := Lib.hid (fun (z : World) (q : Nat) (hz : Row z q 53 [.string S, .int .i64 ((n : Int) + 1), .bool false]) => show Ps z q L r1 false from ⟨a ++ [40], by rw [ha]; simp, by rw [hS, show (((a ++ [(40 : UInt8)]).length : Nat) : Int) = (n : Int) + 1 by simp; omega]; exact hz⟩)
  have Hname := Lib.hid hname
  have hne : (((40 : Nat) : Int) != 40) = false := rfl
  clear hname hR hpk ha hn hS hrow
  go_enter Tryz.func62, Tryz.ntmps62
  go_wp2_with fail
  refine HPk.out.mono ?_
  rintro e w1 ⟨rfl, hb1⟩
  obtain ⟨p0, p1⟩ := CX.out _ hb1
  have hl1 := hb1.size
  have hlt1 : b < w1.heap.size := by omega
  have HB1 := Lib.hid hb1
  clear hb1
  go_wp2
  obtain ⟨u, hu⟩ : ∃ u, w1.drew = u := ⟨_, rfl⟩
  have Bu := Lib.hid (show Below w1.heap.size w1 u from hu ▸ (Below.refl _ _).drew)
  have hus : u.heap.size = w1.heap.size := by rw [← hu]; rfl
  have Hu := Lib.hid hu
  clear hu
  refine wp_region_g 11 (fun z => z.cell? ⟨b, 0, none⟩ = some (.string S) ∧ z.cell? ⟨b, 1, none⟩ = some (.int .i64 n)) (by kernel_rfl) ?_ (fun hHeld => ?_)
  · exact CX.out _ (bch HB1.out ((Below.refl _ _).drew))
  rw [Hu.out] at hHeld ⊢
  refine takeG (i := 0) (v := ?v1) rfl (by kernel_rfl) (by kernel_rfl) (by kernel_rfl) (by kernel_rfl) (fun _ _ _ h => h) (Or.inl ⟨by rfl, ?hy1⟩) (by assumption) ?_
  case hy1 => ((intro w' hSw; obtain ⟨hSw0, hSw1⟩ := hSw; go_simp) <;> with_reducible rfl)
  try simp only [Act.put, List.setIfInBounds_toArray, List.set_cons_zero, List.set_cons_succ]
  refine takeG (i := 1) (v := ?v2) rfl (by kernel_rfl) (by kernel_rfl) (by kernel_rfl) (by kernel_rfl) (fun _ _ _ h => h) (Or.inl ⟨by rfl, ?hy2⟩) (by assumption) ?_
  case hy2 => ((intro w' hSw; obtain ⟨hSw0, hSw1⟩ := hSw; go_simp) <;> with_reducible rfl)
  try simp only [Act.put, List.setIfInBounds_toArray, List.set_cons_zero, List.set_cons_succ]
  refine takeG (i := 2) (v := ?v3) rfl (by kernel_rfl) (by kernel_rfl) (by kernel_rfl) (by kernel_rfl) (fun _ _ _ h => h) (Or.inl ⟨by rfl, ?hy3⟩) (by assumption) ?_
  case hy3 => ((intro w' hSw; obtain ⟨hSw0, hSw1⟩ := hSw; go_simp) <;> with_reducible rfl)
  try simp only [Act.put, List.setIfInBounds_toArray, List.set_cons_zero, List.set_cons_succ]
  refine takeG (i := 3) (v := ?v4) rfl (by kernel_rfl) (by kernel_rfl) (by kernel_rfl) (by kernel_rfl) (fun _ _ _ h => h) (Or.inl ⟨by rfl, ?hy4⟩) (by assumption) ?_
  case hy4 => ((intro w' hSw; obtain ⟨hSw0, hSw1⟩ := hSw; go_simp) <;> with_reducible rfl)
  try simp only [Act.put, List.setIfInBounds_toArray, List.set_cons_zero, List.set_cons_succ]
  refine takeG (i := 4) (v := ?v5) rfl (by kernel_rfl) (by kernel_rfl) (by kernel_rfl) (by kernel_rfl) (fun _ _ _ h => h) (Or.inl ⟨by rfl, ?hy5⟩) (by assumption) ?_
  case hy5 => ((intro w' hSw; obtain ⟨hSw0, hSw1⟩ := hSw; go_simp) <;> with_reducible rfl)
  try simp only [Act.put, List.setIfInBounds_toArray, List.set_cons_zero, List.set_cons_succ]
  refine takeG (i := 5) (v := ?v6) rfl (by kernel_rfl) (by kernel_rfl) (by kernel_rfl) (by kernel_rfl) (fun _ _ _ h => h) (Or.inl ⟨by rfl, ?hy6⟩) (by assumption) ?_
  case hy6 => ((intro w' hSw; obtain ⟨hSw0, hSw1⟩ := hSw; go_simp) <;> with_reducible rfl)
  try simp only [Act.put, List.setIfInBounds_toArray, List.set_cons_zero, List.set_cons_succ]
  refine takeG (i := 6) (v := ?v7) rfl (by kernel_rfl) (by kernel_rfl) (by kernel_rfl) (by kernel_rfl) (fun _ _ _ h => h) (Or.inl ⟨by rfl, ?hy7⟩) (by assumption) ?_
  case hy7 => ((intro w' hSw; obtain ⟨hSw0, hSw1⟩ := hSw; go_simp) <;> with_reducible rfl)
  try simp only [Act.put, List.setIfInBounds_toArray, List.set_cons_zero, List.set_cons_succ]
  refine takeG (i := 7) (v := ?v8) rfl (by kernel_rfl) (by kernel_rfl) (by kernel_rfl) (by kernel_rfl) (fun _ _ _ h => h) (Or.inl ⟨by rfl, ?hy8⟩) (by assumption) ?_
  case hy8 => ((intro w' hSw; obtain ⟨hSw0, hSw1⟩ := hSw; go_simp) <;> with_reducible rfl)
  try simp only [Act.put, List.setIfInBounds_toArray, List.set_cons_zero, List.set_cons_succ]
  refine takeG (i := 8) (v := ?v9) rfl (by kernel_rfl) (by kernel_rfl) (by kernel_rfl) (by kernel_rfl) (fun _ _ _ h => h) (Or.inl ⟨by rfl, ?hy9⟩) (by assumption) ?_
  case hy9 => ((intro w' hSw; obtain ⟨hSw0, hSw1⟩ := hSw; go_simp) <;> with_reducible rfl)
  try simp only [Act.put, List.setIfInBounds_toArray, List.set_cons_zero, List.set_cons_succ]
  refine takeG (i := 9) (v := ?v10) rfl (by kernel_rfl) (by kernel_rfl) (by kernel_rfl) (by kernel_rfl) (fun _ _ _ h => h) (Or.inl ⟨by rfl, ?hy10⟩) (by assumption) ?_
  case hy10 => ((intro w' hSw; obtain ⟨hSw0, hSw1⟩ := hSw; go_simp) <;> with_reducible rfl)
  try simp only [Act.put, List.setIfInBounds_toArray, List.set_cons_zero, List.set_cons_succ]
  refine wpAnyG_ready (rs := [10]) (by kernel_rfl) (by simp) ?_
  refine readyG rfl (fun K hK => ?_) AllReadyG.nil
  obtain ⟨u2, hu2⟩ : ∃ z, u.alloc (.cells #[.string S, .int .i64 ((n : Int) + 1), .bool false] 53) = z := ⟨_, rfl⟩
  have hb2 : Below u.heap.size u u2 := by rw [← hu2]; exact balloc (Below.refl _ _) _
  have hr2 : Row u2 w1.heap.size 53 [.string S, .int .i64 ((n : Int) + 1), .bool false] := by rw [← hu2, ← hus]; exact Row.new _ _ _
  have HB2 := Lib.hid (bch HB1.out (bch Bu.out hb2))
  have HP2 := Lib.hid (NP.out u2 _ hr2)
  go_simp
  try rw [hu2]
  have Hu2 := Lib.hid hu2
  clear hu2 hb2 hr2
  refine hK.out _ _ ?hS11 (fun hHeld => ?_)
  case hS11 => exact fun _ => CX.out _ HB2.out
  replace hHeld := hHeld (by decide)
  clear hK K
  try simp only [Act.put, List.setIfInBounds_toArray, List.set_cons_zero, List.set_cons_succ]
  refine wpAnyG_ready (rs := [11]) (by kernel_rfl) (by simp) ?_
  refine readyG rfl (fun K hK => ?_) AllReadyG.nil
  go_simp
  refine hK.out _ _ ?hS991 (fun hHeld => ?_)
  case hS991 => exact fun h => absurd rfl h
  clear hK K
  try simp only [Act.put, List.setIfInBounds_toArray, List.set_cons_zero, List.set_cons_succ]
  refine wpAnyG_done (by kernel_rfl) ?_ _
  go_wp2_with fail
  refine (spWord_ok HP2.out hL).mono ?_
  rintro e w3 ⟨rfl, _, hb3⟩
  have HB3 := Lib.hid (Only.from_ HB2.out rfl hb3 (fun i hi => by have := HB1.out.size; omega))
  rw [Hname.out]
  obtain ⟨NM, hNM⟩ : ∃ S, bArr name = S := ⟨_, rfl⟩
  rw [hNM]
  have HNM := Lib.hid hNM
  clear hNM hb3
  obtain ⟨nb, hnb⟩ : ∃ n, w3.heap.size = n := ⟨_, rfl⟩
  go_wp2_with fail
  refine (planNames_ok w3).mono ?_
  rintro e w6 ⟨rfl, hb6, hrw6⟩
  rw [hnb] at hrw6 ⊢
  have HB6 := Lib.hid (bch HB3.out hb6)
  have HN6 := Lib.hid hrw6
  have hnbl := hrw6.lt
  clear hb6 hrw6
  go_wp2
  go_loopg [6] 8 (fun g iv wr => ∃ i : Nat, i ≤ 8 ∧ g = 8 - i ∧ iv = .int .i64 (1 + (i : Int)) ∧ wr = w6 ∧ kindOf plName 1 i name = none)
  case atStart => exact ⟨0, by omega, by omega, rfl, rfl, rfl⟩
  case round =>
    obtain ⟨i, hi, rfl, rfl, rfl, hk⟩ := hrel
    have HK := Lib.hid hk
    clear hk
    by_cases hlt : i < 8
    · obtain ⟨T, hT⟩ : ∃ T, bArr (plName (1 + (i : Int))) = T := ⟨_, rfl⟩
      have hcell : wr.cell? ⟨nb, 1 + i, none⟩ = some (.string T) := plName_at i (by omega) HN6.out hT
      have HT := Lib.hid hT
      clear hT
      have hi12 : 1 + (i : Int) < 9 := by omega
      have hi12n : 1 + i < 9 := by omega
      have hw2 : IntKind.i64.wrap (1 + (i : Int) + 1) = 1 + (i : Int) + 1 := IntWalk.i64_in _ (by omega)
      have e3 : (1 + (i : Int)).toNat = 1 + i := by omega
      by_cases he : plName (1 + (i : Int)) = name
      · have heq : (T.toList == NM.toList) = true := by rw [← HT.out, he, HNM.out]; simp
        have hRt : R = true := by
          rw [HR.out]
          have : (kindOf plName 1 (i + 1) name).isSome = true := by rw [kindOf_snoc, HK.out]; simp [he]
          exact kindOf_more (by omega) this
        subst hRt
        clear he
        go_wp2
        go_ret
        exact ⟨rfl, HB6.out⟩
      · have heq : (T.toList == NM.toList) = false := by
          rw [← HT.out, ← HNM.out, bArr_list, bArr_list, beq_eq_false_iff_ne]
          exact he
        have HE := Lib.hid he
        clear he
        go_wp2
        go_roundg (8 - (i + 1))
        case measure => omega
        case rel =>
          refine ⟨i + 1, by omega, rfl, by go_num, rfl, ?_⟩
          rw [kindOf_snoc, HK.out]
          simp [HE.out]
    · obtain rfl : i = 8 := by omega
      have hRt : R = false := by rw [HR.out, HK.out]; rfl
      subst hRt
      go_wp2
      go_ret
      exact ⟨rfl, HB6.out⟩
end Go.Proofs.YtmhlpjfijpomkaaGreatDoor

/-
  Three lists that grow by turns (the parts of a plan that is read): expressions, numbers, plans. No program in sight.
-/
namespace Go.Qo
open Go.RowKit
set_option linter.unusedVariables false
set_option linter.unusedSimpArgs false

def free3 (v1 v2 v3 : Value) (b : Nat) : Prop := v1.ownBlock ≠ some b ∧ v2.ownBlock ≠ some b ∧ v3.ownBlock ≠ some b
/-- The three lists at their heads' values: no block serves two of them, none of them lies in what they name. -/
def Thr (tE tI tP : TypeId) (lo : Nat) (w : World) (v1 v2 v3 : Value) (es : List Ex) (cs : List Int) (ks : List Pl) (fs : List FE) (gs : List FP) : Prop :=
  ((∀ b, v1.ownBlock = some b → v2.ownBlock ≠ some b) ∧ (∀ b, v1.ownBlock = some b → v3.ownBlock ≠ some b) ∧ ∀ b, v2.ownBlock = some b → v3.ownBlock ≠ some b) ∧
  (Ow lo tE 5 feC w v1 fs ∧ Ow lo tI 1 intC w v2 cs ∧ Ow lo tP 5 fpC w v3 gs) ∧ fs.length = es.length ∧ gs.length = ks.length ∧
  (∀ (i : Nat) (g : FE) (x : Ex), fs[i]? = some g → es[i]? = some x → ExT (fun b => lo ≤ b ∧ free3 v1 v2 v3 b) w g x) ∧
  ∀ (i : Nat) (g : FP) (x : Pl), gs[i]? = some g → ks[i]? = some x → PlT (fun b => lo ≤ b ∧ free3 v1 v2 v3 b) w g x
section
variable {tE tI tP : TypeId} {lo : Nat} {w w' : World} {v1 v2 v3 v' : Value} {es : List Ex} {cs : List Int} {ks : List Pl} {fs : List FE} {gs : List FP}
theorem Thr.nil : Thr tE tI tP lo w (.slice none 0 0) (.slice none 0 0) (.slice none 0 0) [] [] [] [] [] :=
  ⟨⟨(fun b h => by cases h), (fun b h => by cases h), fun b h => by cases h⟩, ⟨Ow.nil, Ow.nil, Ow.nil⟩, rfl, rfl, (fun i g x h => by simp at h), fun i g x h => by simp at h⟩
theorem Thr.only {S : Nat → Prop} (h : Thr tE tI tP lo w v1 v2 v3 es cs ks fs gs) (k : Only S w w') (hS : ∀ i, S i → i < lo) : Thr tE tI tP lo w' v1 v2 v3 es cs ks fs gs := by
  obtain ⟨h1, ⟨h2, h3, h4⟩, h5, h6, h7, h8⟩ := h
  have hk : ∀ b, lo ≤ b → b < w.heap.size → w'.heap[b]? = w.heap[b]? := fun b hb hl => k.block b hl fun hs => by have := hS b hs; omega
  exact ⟨h1, ⟨h2.only k fun i hi => .inl (hS i hi), h3.only k fun i hi => .inl (hS i hi), h4.only k fun i hi => .inl (hS i hi)⟩, h5, h6, fun i g x hg hx => (h7 i g x hg hx).keep k.size fun b hb hl => hk b hb.1 hl, fun i g x hg hx => (h8 i g x hg hx).keep k.size fun b hb hl => hk b hb.1 hl⟩
theorem own_step {v : Value} {n b : Nat} (hob : v'.ownBlock = v.ownBlock ∨ v'.ownBlock = some n) (hb : b < n) (hn : v.ownBlock ≠ some b) : v'.ownBlock ≠ some b := by
  rcases hob with e | e
  · rw [e]; exact hn
  · rw [e]; intro e'; have := Option.some.inj e'; omega
theorem getSnoc {α β : Type} {xs : List α} {ys : List β} {x g : α} {y z : β} (hl : xs.length = ys.length) {i : Nat} (hg : (xs ++ [x])[i]? = some g) (hz : (ys ++ [y])[i]? = some z) : (xs[i]? = some g ∧ ys[i]? = some z) ∨ (g = x ∧ z = y) := by
  rcases Nat.lt_trichotomy i xs.length with h | h | h
  · rw [List.getElem?_append_left h] at hg
    rw [List.getElem?_append_left (by omega)] at hz
    exact .inl ⟨hg, hz⟩
  · rw [List.getElem?_append_right (by omega), h, Nat.sub_self] at hg
    rw [List.getElem?_append_right (by omega), h, hl, Nat.sub_self] at hz
    simp at hg hz
    exact .inr ⟨hg.symm, hz.symm⟩
  · rw [List.getElem?_eq_none (by simp; omega)] at hg
    cases hg
/-- An expression more. -/
theorem Thr.snocE {f : FE} {x : Ex} (h : Thr tE tI tP lo w v1 v2 v3 es cs ks fs gs) (hx : ExT (fun k => lo ≤ k ∧ free3 v1 v2 v3 k) w f x) (how : Ow lo tE 5 feC w' v' (fs ++ [f])) (hgr : w.grownBy w' v1.ownBlock) (hob : v'.ownBlock = v1.ownBlock ∨ v'.ownBlock = some w.heap.size) : Thr tE tI tP lo w' v' v2 v3 (es ++ [x]) cs ks (fs ++ [f]) gs := by
  obtain ⟨⟨d1, d2, d3⟩, ⟨h2, h3, h4⟩, h5, h6, h7, h8⟩ := h
  have l2 : ∀ b, v2.ownBlock = some b → b < w.heap.size := fun b hb => (h3.ty b hb).2.1
  have l3 : ∀ b, v3.ownBlock = some b → b < w.heap.size := fun b hb => (h4.ty b hb).2.1
  have kE : ∀ {g : FE} {y : Ex}, ExT (fun b => lo ≤ b ∧ free3 v1 v2 v3 b) w g y → ExT (fun b => lo ≤ b ∧ free3 v' v2 v3 b) w' g y := fun hy =>
    (hy.mono (T := fun b => lo ≤ b ∧ v1.ownBlock ≠ some b ∧ free3 v' v2 v3 b) fun b hb h => ⟨h.1, h.2.1, own_step hob hb h.2.1, h.2.2.1, h.2.2.2⟩).keep hgr.size (fun b h hl => hgr.block b hl fun e => h.2.1 e.symm) |>.mono fun b _ h => ⟨h.1, h.2.2⟩
  have kP : ∀ {g : FP} {y : Pl}, PlT (fun b => lo ≤ b ∧ free3 v1 v2 v3 b) w g y → PlT (fun b => lo ≤ b ∧ free3 v' v2 v3 b) w' g y := fun hy =>
    (hy.mono (T := fun b => lo ≤ b ∧ v1.ownBlock ≠ some b ∧ free3 v' v2 v3 b) fun b hb h => ⟨h.1, h.2.1, own_step hob hb h.2.1, h.2.2.1, h.2.2.2⟩).keep hgr.size (fun b h hl => hgr.block b hl fun e => h.2.1 e.symm) |>.mono fun b _ h => ⟨h.1, h.2.2⟩
  refine ⟨⟨fun b hb e => ?_, fun b hb e => ?_, d3⟩, ⟨how, h3.keepOwn fun b hb => hgr.block b (l2 b hb) fun e => d1 b e.symm hb, h4.keepOwn fun b hb => hgr.block b (l3 b hb) fun e => d2 b e.symm hb⟩, by simp [h5], h6, fun i g y hg hy => ?_, fun i g y hg hy => kP (h8 i g y hg hy)⟩
  · exact own_step hob (l2 b e) (fun e1 => d1 b e1 e) hb
  · exact own_step hob (l3 b e) (fun e1 => d2 b e1 e) hb
  · rcases getSnoc h5 hg hy with ⟨a, b⟩ | ⟨rfl, rfl⟩
    · exact kE (h7 i g y a b)
    · exact kE hx
/-- A number more. -/
theorem Thr.snocC {x : Int} (h : Thr tE tI tP lo w v1 v2 v3 es cs ks fs gs) (how : Ow lo tI 1 intC w' v' (cs ++ [x])) (hgr : w.grownBy w' v2.ownBlock) (hob : v'.ownBlock = v2.ownBlock ∨ v'.ownBlock = some w.heap.size) : Thr tE tI tP lo w' v1 v' v3 es (cs ++ [x]) ks fs gs := by
  obtain ⟨⟨d1, d2, d3⟩, ⟨h2, h3, h4⟩, h5, h6, h7, h8⟩ := h
  have l1 : ∀ b, v1.ownBlock = some b → b < w.heap.size := fun b hb => (h2.ty b hb).2.1
  have l3 : ∀ b, v3.ownBlock = some b → b < w.heap.size := fun b hb => (h4.ty b hb).2.1
  have kE : ∀ {g : FE} {y : Ex}, ExT (fun b => lo ≤ b ∧ free3 v1 v2 v3 b) w g y → ExT (fun b => lo ≤ b ∧ free3 v1 v' v3 b) w' g y := fun hy =>
    (hy.mono (T := fun b => lo ≤ b ∧ v2.ownBlock ≠ some b ∧ free3 v1 v' v3 b) fun b hb h => ⟨h.1, h.2.2.1, h.2.1, own_step hob hb h.2.2.1, h.2.2.2⟩).keep hgr.size (fun b h hl => hgr.block b hl fun e => h.2.1 e.symm) |>.mono fun b _ h => ⟨h.1, h.2.2⟩
  have kP : ∀ {g : FP} {y : Pl}, PlT (fun b => lo ≤ b ∧ free3 v1 v2 v3 b) w g y → PlT (fun b => lo ≤ b ∧ free3 v1 v' v3 b) w' g y := fun hy =>
    (hy.mono (T := fun b => lo ≤ b ∧ v2.ownBlock ≠ some b ∧ free3 v1 v' v3 b) fun b hb h => ⟨h.1, h.2.2.1, h.2.1, own_step hob hb h.2.2.1, h.2.2.2⟩).keep hgr.size (fun b h hl => hgr.block b hl fun e => h.2.1 e.symm) |>.mono fun b _ h => ⟨h.1, h.2.2⟩
  refine ⟨⟨fun b hb => ?_, d2, fun b hb e => ?_⟩, ⟨h2.keepOwn fun b hb => hgr.block b (l1 b hb) fun e => d1 b hb e.symm, how, h4.keepOwn fun b hb => hgr.block b (l3 b hb) fun e => d3 b e.symm hb⟩, h5, h6, fun i g y hg hy => kE (h7 i g y hg hy), fun i g y hg hy => kP (h8 i g y hg hy)⟩
  · exact own_step hob (l1 b hb) (d1 b hb)
  · exact own_step hob (l3 b e) (fun e1 => d3 b e1 e) hb
/-- A plan more. -/
theorem Thr.snocK {f : FP} {x : Pl} (h : Thr tE tI tP lo w v1 v2 v3 es cs ks fs gs) (hx : PlT (fun k => lo ≤ k ∧ free3 v1 v2 v3 k) w f x) (how : Ow lo tP 5 fpC w' v' (gs ++ [f])) (hgr : w.grownBy w' v3.ownBlock) (hob : v'.ownBlock = v3.ownBlock ∨ v'.ownBlock = some w.heap.size) : Thr tE tI tP lo w' v1 v2 v' es cs (ks ++ [x]) fs (gs ++ [f]) := by
  obtain ⟨⟨d1, d2, d3⟩, ⟨h2, h3, h4⟩, h5, h6, h7, h8⟩ := h
  have l1 : ∀ b, v1.ownBlock = some b → b < w.heap.size := fun b hb => (h2.ty b hb).2.1
  have l2 : ∀ b, v2.ownBlock = some b → b < w.heap.size := fun b hb => (h3.ty b hb).2.1
  have kE : ∀ {g : FE} {y : Ex}, ExT (fun b => lo ≤ b ∧ free3 v1 v2 v3 b) w g y → ExT (fun b => lo ≤ b ∧ free3 v1 v2 v' b) w' g y := fun hy =>
    (hy.mono (T := fun b => lo ≤ b ∧ v3.ownBlock ≠ some b ∧ free3 v1 v2 v' b) fun b hb h => ⟨h.1, h.2.2.2, h.2.1, h.2.2.1, own_step hob hb h.2.2.2⟩).keep hgr.size (fun b h hl => hgr.block b hl fun e => h.2.1 e.symm) |>.mono fun b _ h => ⟨h.1, h.2.2⟩
  have kP : ∀ {g : FP} {y : Pl}, PlT (fun b => lo ≤ b ∧ free3 v1 v2 v3 b) w g y → PlT (fun b => lo ≤ b ∧ free3 v1 v2 v' b) w' g y := fun hy =>
    (hy.mono (T := fun b => lo ≤ b ∧ v3.ownBlock ≠ some b ∧ free3 v1 v2 v' b) fun b hb h => ⟨h.1, h.2.2.2, h.2.1, h.2.2.1, own_step hob hb h.2.2.2⟩).keep hgr.size (fun b h hl => hgr.block b hl fun e => h.2.1 e.symm) |>.mono fun b _ h => ⟨h.1, h.2.2⟩
  refine ⟨⟨d1, fun b hb => ?_, fun b hb => ?_⟩, ⟨h2.keepOwn fun b hb => hgr.block b (l1 b hb) fun e => d2 b hb e.symm, h3.keepOwn fun b hb => hgr.block b (l2 b hb) fun e => d3 b hb e.symm, how⟩, h5, by simp [h6], fun i g y hg hy => kE (h7 i g y hg hy), fun i g y hg hy => ?_⟩
  · exact own_step hob (l1 b hb) (d2 b hb)
  · exact own_step hob (l2 b hb) (d3 b hb)
  · rcases getSnoc h6 hg hy with ⟨a, b⟩ | ⟨rfl, rfl⟩
    · exact kP (h8 i g y a b)
    · exact kP hx
/-- What is newer than the three lists lies apart from them. -/
theorem Thr.new {n b : Nat} (h : Thr tE tI tP lo w v1 v2 v3 es cs ks fs gs) (hn : w.heap.size ≤ n) (hb : n ≤ b) : free3 v1 v2 v3 b := by
  obtain ⟨_, ⟨h2, h3, h4⟩, _⟩ := h
  refine ⟨fun e => ?_, fun e => ?_, fun e => ?_⟩
  · have := (h2.ty b e).2.1; omega
  · have := (h3.ty b e).2.1; omega
  · have := (h4.ty b e).2.1; omega
theorem Thr.make {S : Nat → Prop} {k t : Int} {A1 A2 A3 : Option Addr} {n1 n2 n3 c1 c2 c3 : Nat} (h : Thr tE tI tP lo w (.slice A1 n1 c1) (.slice A2 n2 c2) (.slice A3 n3 c3) es cs ks fs gs) (hS : ∀ b, b < w.heap.size → lo ≤ b → S b) (b1 : es.length ≤ 1048576) (b2 : cs.length ≤ 1048576) (b3 : ks.length ≤ 1048576) : PlT S w ⟨k, t, ⟨A1, n1, c1⟩, ⟨A2, n2, c2⟩, ⟨A3, n3, c3⟩⟩ (.mk k t es cs ks) := by
  obtain ⟨_, ⟨h2, h3, h4⟩, h5, h6, h7, h8⟩ := h
  have e1 := slS_ow feC_length h2 (S := S) fun b hb => hS b (h2.ty b hb).2.1 (h2.ty b hb).1
  have e2 := slS_ow intC_length h3 (S := S) fun b hb => hS b (h3.ty b hb).2.1 (h3.ty b hb).1
  have e3 := slS_ow fpC_length h4 (S := S) fun b hb => hS b (h4.ty b hb).2.1 (h4.ty b hb).1
  obtain ⟨_, _, q1, _, _, _⟩ := h2.shape feC_length
  obtain ⟨_, _, q2, _, _, _⟩ := h3.shape intC_length
  obtain ⟨_, _, q3, _, _, _⟩ := h4.shape fpC_length
  cases q1
  cases q2
  cases q3
  exact PlT.make ⟨h5, by assumption, by assumption⟩ ⟨rfl, by assumption, by assumption⟩ ⟨h6, by assumption, by assumption⟩ ⟨fs, h5, e1, fun i g x hg hx => (h7 i g x hg hx).mono fun b hb h => hS b hb h.1⟩ e2 ⟨gs, h6, e3, fun i g x hg hx => (h8 i g x hg hx).mono fun b hb h => hS b hb h.1⟩ b1 b2 b3
end
end Go.Qo

/-
  append of long elements (up to 128 bytes): where its result lies. (XMemS's text with another bound.)
-/
namespace Go.Qo
open Go.RowKit
set_option linter.unusedVariables false
set_option linter.unusedSimpArgs false

theorem run_app3 {P : Program} {w : World} (t ty : TypeId)
    {α : Type} (lo : Nat) (e : TypeId) (z : Value) (sz bytes : Nat) (enc : α → List Value) (ht : P.underlying t = some (.slice e)) (hi : (P.info? e).map (fun i => (i.zero, i.size, i.bytes)) = some (some z, sz, bytes))
    (hzs : z.cells.size = sz) (hsz : 0 < sz) (hby : bytes ≤ 128) (he : ∀ x, (enc x).length = sz) (h1 : ∀ x, ∀ u ∈ enc x, u.oneCell' = true)
    (v : Value) (xs : List α) (hown : Ow lo e sz enc w v xs)
    (A : Option Addr) (m c : Nat) (ys : List α) (hm : m = ys.length) (hy : Sl sz enc w w.heap.size A ys)
    (hlen : xs.length + ys.length ≤ 1099511627776) (hlo : lo ≤ w.heap.size) :
    ∃ v' w', (Builtin.append_ #[t, t] ty #[v, .slice A m c]).run P w = .ok v' w' ∧ Ow lo e sz enc w' v' (xs ++ ys) ∧ w.grownBy w' v.ownBlock ∧ (v'.ownBlock = v.ownBlock ∨ v'.ownBlock = some w.heap.size) := by
  subst hm
  obtain ⟨i, hi, hz, hsi, hb⟩ := info_parts hi
  cases A with
  | none =>
    have h0 : ys = [] := by
      cases ys with
      | nil => rfl
      | cons y ys => obtain ⟨_, _, hA, _⟩ := hy (by simp); cases hA
    subst h0
    exact ⟨v, w, run_append_nothing (P := P) (w := w) lo t ty e i sz ht hi v _ c _ hown, by simpa using hown, World.grownBy.refl w _, .inl rfl⟩
  | some ad =>
    obtain ⟨v', w', hrun, h2, h3, _, h4⟩ := run_append_own_at w lo t ty e i z sz bytes ht hi hz hsi hb hzs hsz v _ _ hown ad ys.length c (ys.flatMap enc) (flat_length sz enc he ys) (by
      intro j u hu
      have hj : j < ys.length * sz := by rw [← flat_length sz enc he ys]; exact (List.getElem?_eq_some_iff.1 hu).1
      have h0 : 0 < ys.length := Nat.pos_of_ne_zero fun h => by rw [h] at hj; omega
      obtain ⟨b, off, hA, _, hc⟩ := hy h0
      cases hA
      have hdm : j / sz * sz + j % sz = j := by rw [Nat.mul_comm]; exact Nat.div_add_mod j sz
      have hi2 : j / sz < ys.length := (Nat.div_lt_iff_lt_mul hsz).2 hj
      have hxi := List.getElem?_eq_getElem hi2
      have hjm : j % sz < (enc ys[j / sz]).length := by rw [he]; exact Nat.mod_lt _ hsz
      have hu' := flat_get sz enc he ys (j / sz) _ (j % sz) _ hxi (List.getElem?_eq_getElem hjm)
      rw [hdm, hu] at hu'
      cases hu'
      have := hc (j / sz) _ hxi (j % sz) _ (List.getElem?_eq_getElem hjm)
      rw [Nat.add_assoc, hdm] at this
      rwa [Addr.add_lit]) (by
      intro u hu
      obtain ⟨y, _, hu⟩ := List.mem_flatMap.1 hu
      exact h1 y u hu) (by unfold maxLen; omega) (Nat.le_trans (Nat.mul_le_mul hlen hby) (by omega)) hlo
    exact ⟨v', w', hrun, by unfold Ow; rw [List.length_append, List.flatMap_append]; exact h2, h3, h4⟩

/-- As a step of a region that draws. -/
theorem step_app3 {P : Program} {w : World} {ops : Array Oper} {o : Oper} {a : Act} {K : Act → World → Prop} {Q : Exit → Act → World → Prop} {E : Prop} (hgd : o.guard = none) (s x : Operand) (t : TypeId)
    (ho : o.op = .call { callee := .builtin .append, args := #[s, x], argTypes := #[t, t] })
    {α : Type} (lo : Nat) (e : TypeId) (z : Value) (sz bytes : Nat) (enc : α → List Value) (ht : P.underlying t = some (.slice e)) (hi : (P.info? e).map (fun i => (i.zero, i.size, i.bytes)) = some (some z, sz, bytes))
    (hzs : z.cells.size = sz) (hsz : 0 < sz) (hby : bytes ≤ 128) (he : ∀ x, (enc x).length = sz) (h1 : ∀ x, ∀ u ∈ enc x, u.oneCell' = true)
    (v : Value) (xs : List α) (hs : a.eval s = v) (hown : Ow lo e sz enc w v xs)
    (A : Option Addr) (m c : Nat) (ys : List α) (hx : a.eval x = .slice A m c) (hm : m = ys.length) (hy : Sl sz enc w w.heap.size A ys)
    (hlen : xs.length + ys.length ≤ 1099511627776) (hlo : lo ≤ w.heap.size)
    (h : ∀ v' w', Ow lo e sz enc w' v' (xs ++ ys) → w.grownBy w' v.ownBlock → (v'.ownBlock = v.ownBlock ∨ v'.ownBlock = some w.heap.size) → K (a.put o.dst v') w') : if Region.wanted o (yielded ops a.tmps) = true then Oper.wp P o a w K Q else E := by
  have hw : Region.wanted o (yielded ops a.tmps) = true := by simp [Region.wanted, hgd]
  rw [if_pos hw]
  obtain ⟨v', w', hrun, h2, h3, h4⟩ := run_app3 (P := P) t o.type lo e z sz bytes enc ht hi hzs hsz hby he h1 v xs hown A m c ys hm hy hlen hlo
  unfold Oper.wp
  simp [execOp, ho, resolve, invoke, builtin, hs, hx, hrun, Result.andThen]
  exact h v' w' h2 h3 h4
end Go.Qo
