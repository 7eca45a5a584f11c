/-
  Contract: the program's scanner reads a plan (plan). (Printed by wip/dcw.py.)
-/
import Derived.Test.YtmhlpjfijpomkaaGreatDoorProg
import Derived.Test.YtmhlpjfijpomkaaGreatDoorZqDcX
import Derived.Test.YtmhlpjfijpomkaaGreatDoorZqDcK
import Derived.Test.YtmhlpjfijpomkaaGreatDoorZqPlW
import Derived.Test.YtmhlpjfijpomkaaGreatDoorZqPlI
import Derived.Test.YtmhlpjfijpomkaaGreatDoorZqGh
namespace Go.Proofs.YtmhlpjfijpomkaaGreatDoor
open Go.RowKit Go.Qo
set_option linter.unusedVariables false
set_option linter.unusedSimpArgs false

theorem zeroPlT4 : (Tryz.prog.info? 26).map (fun i => (i.zero, i.size, i.bytes)) = some (some (.agg #[.int .i64 0, .int .i64 0, .slice none 0 0, .slice none 0 0, .slice none 0 0]), 5, 88) := by kernel_rfl
theorem zeroIntT4 : (Tryz.prog.info? 3).map (fun i => (i.zero, i.size, i.bytes)) = some (some (.int .i64 0), 1, 8) := by kernel_rfl
def PPost (b : Nat) (w : World) (r : Option (Pl × List UInt8)) (e : Ending) (w' : World) : Prop :=
  match r with
  | some x => ∃ f, e = .returned (fpV f) ∧ PlW 40 3 26 w' (fun k => w.heap.size ≤ k) f x.1 ∧ Sc w' b x.2 ∧ But b w w'
  | none => Malf b w e w'
def PPl (d : Nat) : Prop := ∀ (b lo : Nat) (l : List UInt8) (w : World), Sc w b l → Ix l → l.length ≤ 8388608 → T10 lo w → EvB lo w → lo ≤ b →
  Calls Tryz.prog 30 #[.pointer (some ⟨b, 0, none⟩), .int .i64 d] w (PPost b w (pPl d l))
theorem enterOfP (args : Array Value) (z : World) : (callFunc 69 args).run Tryz.prog z = .ok (.enter 69 args) z := enters_of Tryz.func69 (by kernel_rfl) rfl args z
theorem kind_plan {b : Nat} {l : List UInt8} {w : World} (h : Sc w b l) (hix : Ix l) (hl : l.length ≤ 8388608) : Calls Tryz.prog 68 #[.pointer (some ⟨b, 0, none⟩), .int .i64 1, .int .i64 8, .func (Fn.func 69) #[] #[]] w (KindPost b l w (kindOf plName 1 8 (wordOf l))) :=
  kind_ok 69 plName 1 8 (by omega) (by omega) enterOfP (fun k z h1 h2 => planName_ok k z h1 (by omega)) h hix hl _ rfl

/-! ### What is left is an end of the text -/
theorem pIdx_tail {l r : List UInt8} {n : Int} (h : pIdx l = some (n, r)) : ∃ a, l = a ++ r := by
  unfold pIdx at h
  split at h
  · simp at h
    exact ⟨wordOf l, by rw [← h.2, word_rest]⟩
  · cases h
/-- The reading of a plan, step by step. -/
def pTailE (kid : List UInt8 → Option (Pl × List UInt8)) (k t : Int) (cs : List Int) (l2 : List UInt8) : Option (Pl × List UInt8) := (pExs (l2.length + 1) (nex1 k) (decide (k = 3)) l2).bind fun z => pEnd k kid t cs z.1 z.2
def pTailC (kid : List UInt8 → Option (Pl × List UInt8)) (k t : Int) (l1 : List UInt8) : Option (Pl × List UInt8) := (pCls k l1).bind fun y => pTailE kid k t y.1 y.2
theorem pBody_eq (kid : List UInt8 → Option (Pl × List UInt8)) (deep : Bool) (r : List UInt8) (k : Int) (hk : kindOf plName 1 8 (wordOf r) = some k) (hd : ¬ (0 < nkids k ∧ deep = false)) :
    pBody kid deep (40 :: r) = (pTab k (restOf r)).bind fun x => pTailC kid k x.1 x.2 := by
  unfold pBody
  dsimp only
  rw [if_pos rfl, hk]
  dsimp only
  rw [if_neg hd]
  cases pTab k (restOf r) with
  | none => rfl
  | some x =>
    obtain ⟨t, l1⟩ := x
    dsimp only [Option.bind]
    unfold pTailC
    cases pCls k l1 with
    | none => rfl
    | some y =>
      obtain ⟨cs, l2⟩ := y
      dsimp only [Option.bind]
      unfold pTailE
      cases pExs (l2.length + 1) (nex1 k) (decide (k = 3)) l2 with
      | none => rfl
      | some z => rfl
theorem pPl_no {d : Nat} {l : List UInt8} (h : ∀ r, l ≠ 40 :: r) : pPl d l = none := by
  have : ∀ kid deep, pBody kid deep l = none := fun kid deep => by
    unfold pBody
    cases l with
    | nil => rfl
    | cons c r =>
      have : ¬ c = 40 := fun e => h r (by rw [e])
      simp [this]
  cases d <;> exact this _ _
theorem pPl_kind {d : Nat} {r : List UInt8} (h : kindOf plName 1 8 (wordOf r) = none) : pPl d (40 :: r) = none := by
  have : ∀ kid deep, pBody kid deep (40 :: r) = none := fun kid deep => by unfold pBody; simp [h]
  cases d <;> exact this _ _
theorem pPl_flat {r : List UInt8} {k : Int} (h : kindOf plName 1 8 (wordOf r) = some k) (hk : 0 < nkids k) : pPl 0 (40 :: r) = none := by
  unfold pPl pBody
  simp [h, hk]
theorem pPl_go {d : Nat} {r : List UInt8} {k : Int} (h : kindOf plName 1 8 (wordOf r) = some k) (hk : ¬ (0 < nkids k ∧ d = 0)) : pPl d (40 :: r) = (pTab k (restOf r)).bind fun x => pTailC (pPl (d - 1)) k x.1 x.2 := by
  cases d with
  | zero =>
    have hn : ¬ 0 < nkids k := fun e => hk ⟨e, rfl⟩
    have h0 : (nkids k).toNat = 0 := by omega
    have e : pPl 0 (40 :: r) = pBody (pPl 0) false (40 :: r) := by
      show pBody (fun _ => none) false (40 :: r) = _
      rw [pBody_eq _ false r k h (fun e => hn e.1), pBody_eq _ false r k h (fun e => hn e.1)]
      unfold pTailC pTailE pEnd
      rw [h0]
      rfl
    rw [e, pBody_eq _ false r k h (fun e => hn e.1)]
  | succ d =>
    show pBody (pPl d) true (40 :: r) = _
    rw [pBody_eq _ true r k h (fun e => by cases e.2)]
    rfl
theorem pCls_tail {k : Int} {l r : List UInt8} {cs : List Int} (h : pCls k l = some (cs, r)) : ∃ a, l = a ++ r := by
  have hc : ∀ (n : Nat) (l : List UInt8) (cs : List Int) (r : List UInt8), pCols n l = some (cs, r) → ∃ a, l = a ++ r := by
    intro n
    induction n with
    | zero => intro l cs r h; simp [pCols] at h; exact ⟨[], h.2⟩
    | succ n ih =>
      intro l cs r h
      unfold pCols at h
      split at h
      · simp at h; exact ⟨[], h.2⟩
      · rename_i r0 hs
        split at h
        · cases h
        · rename_i x r1 hx
          split at h
          · cases h
          · rename_i xs r2 hy
            cases h
            obtain ⟨a1, h1⟩ := pIdx_tail hx
            obtain ⟨a2, h2⟩ := ih _ _ _ hy
            exact ⟨32 :: 35 :: (a1 ++ a2), by rw [strip2_some hs, h1, h2]; simp⟩
  unfold pCls at h
  split at h
  · exact hc _ _ _ _ h
  · simp at h; exact ⟨[], h.2⟩
theorem pPl_tail : ∀ (d : Nat) (l : List UInt8) (p : Pl) (r : List UInt8), pPl d l = some (p, r) → ∃ a, l = a ++ r := by
  have hx : ∀ (n need : Nat) (pr : Bool) (l : List UInt8) (es : List Ex) (r : List UInt8), pExs n need pr l = some (es, r) → ∃ a, l = a ++ r := by
    intro n
    induction n with
    | zero => intro need pr l es r h; simp [pExs] at h
    | succ n ih =>
      intro need pr l es r h
      unfold pExs at h
      split at h
      · split at h
        · cases h
        · rename_i c r0 hcnd
          split at h
          · split at h
            · cases h
            · rename_i x r1 hx
              split at h
              · cases h
              · rename_i xs r2 hy
                cases h
                obtain ⟨a1, h1⟩ := pEx_tail _ _ _ _ hx
                obtain ⟨a2, h2⟩ := ih _ _ _ _ _ hy
                exact ⟨c :: (a1 ++ a2), by rw [h1, h2]; simp⟩
          · cases h
      · simp at h; exact ⟨[], h.2⟩
  have hks : ∀ (kid : List UInt8 → Option (Pl × List UInt8)), (∀ l p r, kid l = some (p, r) → ∃ a, l = a ++ r) → ∀ (n : Nat) (l : List UInt8) (ks : List Pl) (r : List UInt8), pKids kid n l = some (ks, r) → ∃ a, l = a ++ r := by
    intro kid hkid n
    induction n with
    | zero => intro l ks r h; simp [pKids] at h; exact ⟨[], h.2⟩
    | succ n ih =>
      intro l ks r h
      unfold pKids at h
      split at h
      · cases h
      · rename_i c r0
        split at h
        · split at h
          · rename_i x r1 hx
            split at h
            · rename_i xs r2 hy
              cases h
              obtain ⟨a1, h1⟩ := hkid _ _ _ hx
              obtain ⟨a2, h2⟩ := ih _ _ _ hy
              exact ⟨c :: (a1 ++ a2), by rw [h1, h2]; simp⟩
            · cases h
          · cases h
        · cases h
  intro d
  induction d with
  | zero =>
    intro l p r h
    by_cases h40 : ∃ r0, l = 40 :: r0
    · obtain ⟨r0, rfl⟩ := h40
      cases hk : kindOf plName 1 8 (wordOf r0) with
      | none => rw [pPl_kind hk] at h; cases h
      | some k =>
        by_cases hn : 0 < nkids k
        · rw [pPl_flat hk hn] at h; cases h
        · rw [pPl_go hk (fun e => hn e.1)] at h
          cases ht : pTab k (restOf r0) with
          | none => rw [ht] at h; cases h
          | some x =>
            obtain ⟨t, l1⟩ := x
            rw [ht] at h
            simp only [Option.bind] at h
            unfold pTailC at h
            cases hc : pCls k l1 with
            | none => rw [hc] at h; cases h
            | some y =>
              obtain ⟨cs, l2⟩ := y
              rw [hc] at h
              simp only [Option.bind] at h
              unfold pTailE at h
              cases he : pExs (l2.length + 1) (nex1 k) (decide (k = 3)) l2 with
              | none => rw [he] at h; cases h
              | some z =>
                obtain ⟨es, l3⟩ := z
                rw [he] at h
                simp only [Option.bind] at h
                unfold pEnd at h
                rw [show (nkids k).toNat = 0 by omega] at h
                have ht2 : ∃ a, restOf r0 = a ++ l1 := by
                  unfold pTab at ht
                  split at ht
                  · split at ht
                    · cases ht
                    · rename_i c r1 hr
                      split at ht
                      · obtain ⟨a, ha⟩ := pIdx_tail ht
                        exact ⟨c :: a, by rw [hr, ha]; rfl⟩
                      · cases ht
                  · simp at ht; exact ⟨[], ht.2⟩
                obtain ⟨a1, h1⟩ := ht2
                obtain ⟨a2, h2⟩ := pCls_tail hc
                obtain ⟨a3, h3⟩ := hx _ _ _ _ _ _ he
                cases l3 with
                | nil => simp [pKids, pShut] at h
                | cons c l4 =>
                  by_cases h41 : c = 41
                  · simp [pKids, pShut, h41] at h
                    refine ⟨40 :: (wordOf r0 ++ (a1 ++ (a2 ++ (a3 ++ [41])))), ?_⟩
                    rw [← h.2]
                    have := word_rest r0
                    rw [h1, h2, h3, h41] at this
                    simpa using congrArg (40 :: ·) this.symm
                  · simp [pKids, pShut, h41] at h
    · rw [pPl_no fun r0 e => h40 ⟨r0, e⟩] at h; cases h
  | succ d ih =>
    intro l p r h
    by_cases h40 : ∃ r0, l = 40 :: r0
    · obtain ⟨r0, rfl⟩ := h40
      cases hk : kindOf plName 1 8 (wordOf r0) with
      | none => rw [pPl_kind hk] at h; cases h
      | some k =>
        rw [pPl_go hk (fun e => by cases e.2)] at h
        cases ht : pTab k (restOf r0) with
        | none => rw [ht] at h; cases h
        | some x =>
          obtain ⟨t, l1⟩ := x
          rw [ht] at h
          simp only [Option.bind] at h
          unfold pTailC at h
          cases hc : pCls k l1 with
          | none => rw [hc] at h; cases h
          | some y =>
            obtain ⟨cs, l2⟩ := y
            rw [hc] at h
            simp only [Option.bind] at h
            unfold pTailE at h
            cases he : pExs (l2.length + 1) (nex1 k) (decide (k = 3)) l2 with
            | none => rw [he] at h; cases h
            | some z =>
              obtain ⟨es, l3⟩ := z
              rw [he] at h
              simp only [Option.bind] at h
              unfold pEnd at h
              have ht2 : ∃ a, restOf r0 = a ++ l1 := by
                unfold pTab at ht
                split at ht
                · split at ht
                  · cases ht
                  · rename_i c r1 hr
                    split at ht
                    · obtain ⟨a, ha⟩ := pIdx_tail ht
                      exact ⟨c :: a, by rw [hr, ha]; rfl⟩
                    · cases ht
                · simp at ht; exact ⟨[], ht.2⟩
              obtain ⟨a1, h1⟩ := ht2
              obtain ⟨a2, h2⟩ := pCls_tail hc
              obtain ⟨a3, h3⟩ := hx _ _ _ _ _ _ he
              cases hq : pKids (pPl (d + 1 - 1)) (nkids k).toNat l3 with
              | none => rw [hq] at h; simp [pShut] at h
              | some q =>
                obtain ⟨ks, l4⟩ := q
                rw [hq] at h
                obtain ⟨a4, h4⟩ := hks _ ih _ _ _ _ hq
                cases l4 with
                | nil => simp [pShut] at h
                | cons c l5 =>
                  by_cases h41 : c = 41
                  · simp [pShut, h41] at h
                    refine ⟨40 :: (wordOf r0 ++ (a1 ++ (a2 ++ (a3 ++ (a4 ++ [41]))))), ?_⟩
                    rw [← h.2]
                    have := word_rest r0
                    rw [h1, h2, h3, h4, h41] at this
                    simpa using congrArg (40 :: ·) this.symm
                  · simp [pShut, h41] at h
    · rw [pPl_no fun r0 e => h40 ⟨r0, e⟩] at h; cases h
theorem pCols_step {α : Type} {n : Nat} {lc r2 : List UInt8} (hs : strip2 32 35 lc = some r2) (F : List Int × List UInt8 → Option α) : (pCols (n + 1) lc).bind F = (pIdx r2).bind fun x => (pCols n x.2).bind fun y => F (x.1 :: y.1, y.2) := by
  rw [pCols, hs]
  dsimp only
  cases pIdx r2 with
  | none => rfl
  | some x =>
    obtain ⟨x1, x2⟩ := x
    dsimp only [Option.bind]
    cases pCols n x2 with
    | none => rfl
    | some y => rfl
theorem pExs_step {α : Type} {n need : Nat} {pr : Bool} {r2 : List UInt8} (hc : 0 < need ∨ (pr = true ∧ atPl (32 :: r2) = false)) (F : List Ex × List UInt8 → Option α) : (pExs (n + 1) need pr (32 :: r2)).bind F = (pEx 8 r2).bind fun x => (pExs n (need - 1) pr x.2).bind fun y => F (x.1 :: y.1, y.2) := by
  rw [pExs, if_pos hc]
  simp only [if_true]
  cases pEx 8 r2 with
  | none => rfl
  | some x =>
    obtain ⟨x1, x2⟩ := x
    dsimp only [Option.bind]
    cases pExs n (need - 1) pr x2 with
    | none => rfl
    | some y => rfl
theorem pExs_bad {α : Type} {n need : Nat} {pr : Bool} {lc : List UInt8} (hc : 0 < need ∨ (pr = true ∧ atPl lc = false)) (h : ∀ r, lc ≠ 32 :: r) (F : List Ex × List UInt8 → Option α) : (pExs (n + 1) need pr lc).bind F = none := by
  unfold pExs
  rw [if_pos hc]
  cases lc with
  | nil => rfl
  | cons c r =>
    have : ¬ c = 32 := fun e => h r (by rw [e])
    simp [this]
theorem pExs_stop {α : Type} {n need : Nat} {pr : Bool} {lc : List UInt8} (hc : ¬ (0 < need ∨ (pr = true ∧ atPl lc = false))) (F : List Ex × List UInt8 → Option α) : (pExs (n + 1) need pr lc).bind F = F ([], lc) := by
  unfold pExs
  rw [if_neg hc]
  rfl
theorem pKidsP_step {β : Type} {kid : List UInt8 → Option (Pl × List UInt8)} {n : Nat} {r2 : List UInt8} (F : List Pl × List UInt8 → β) : (pShut (pKids kid (n + 1) (32 :: r2))).map F = (kid r2).bind fun x => (pShut (pKids kid n x.2)).map fun y => F (x.1 :: y.1, y.2) := by
  rw [pKids]
  simp only [if_true]
  cases kid r2 with
  | none => rfl
  | some x =>
    obtain ⟨x1, x2⟩ := x
    simp only [Option.bind]
    cases pKids kid n x2 with
    | none => rfl
    | some y =>
      obtain ⟨y1, y2⟩ := y
      cases y2 with
      | nil => rfl
      | cons c l => by_cases h : c = 41 <;> simp [pShut, h]
theorem pKidsP_bad {β : Type} {kid : List UInt8 → Option (Pl × List UInt8)} {n : Nat} {lc : List UInt8} (h : ∀ r, lc ≠ 32 :: r) (F : List Pl × List UInt8 → β) : (pShut (pKids kid (n + 1) lc)).map F = none := by
  unfold pKids
  cases lc with
  | nil => rfl
  | cons c r =>
    have : ¬ c = 32 := fun e => h r (by rw [e])
    simp [this, pShut]
theorem parts_nat {k : Int} (h : 1 ≤ k ∧ k ≤ 8) : ipE k = (nex1 k : Nat) ∧ ipK k = ((nkids k).toNat : Nat) ∧ (nkids k).toNat ≤ 2 ∧ nex1 k ≤ 1 ∧ (0 < nkids k ↔ 0 < (nkids k).toNat) := by
  unfold ipE ipK nex1 nkids
  refine ⟨?_, ?_, ?_, ?_, by omega⟩
  · split <;> rfl
  · by_cases k1 : k = 1
    · rw [if_pos k1, if_pos k1]; rfl
    · rw [if_neg k1, if_neg k1]
      by_cases k2 : k = 4 ∨ k = 5 ∨ k = 6
      · rw [if_pos k2, if_pos k2]; rfl
      · rw [if_neg k2, if_neg k2, if_pos (by omega)]; rfl
  · repeat' split
    all_goals omega
  · split <;> omega

set_option maxRecDepth 20000 in
set_option maxHeartbeats 4000000 in
/-- The walk, the kids' contract given. -/
theorem scPlan_of (d : Nat) (hd8 : d ≤ 8) (ih : ∀ d', d = d' + 1 → PPl d') : PPl d := fun b lo l w h hix hl ht hv hlo => by
  have hbl := h.lt
  obtain ⟨W0, hW0⟩ : ∃ z, w.alloc (.cells #[.int .i64 0, .int .i64 0, .slice none 0 0, .slice none 0 0, .slice none 0 0] 26) = z := ⟨_, rfl⟩
  have B0 : Below w.heap.size w W0 := by rw [← hW0]; exact balloc (Below.refl _ _) _
  have r0 : Row W0 w.heap.size 26 [.int .i64 0, .int .i64 0, .slice none 0 0, .slice none 0 0, .slice none 0 0] := by rw [← hW0]; exact Row.new _ _ _
  have hs0 : W0.heap.size = w.heap.size + 1 := by rw [← hW0]; simp
  have HIx := Lib.hid hix
  have HSc := Lib.hid (h.on B0)
  have HT := Lib.hid ht
  have HV := Lib.hid hv
  have HW0 := Lib.hid hW0
  have HB0 := Lib.hid (show But b w W0 from only_below B0)
  have HR0 := Lib.hid r0
  have Hs0 := Lib.hid hs0
  have IH := Lib.hid ih
  have LOW := Lib.hid (fun (z : World) (hz : But b w z) => but_low (lo := lo) hz hlo (by omega))
  obtain ⟨R, hR⟩ : ∃ R, pPl d l = R := ⟨_, rfl⟩
  rw [hR]
  have HRr := Lib.hid hR
  clear h hix ht hv hW0 B0 r0 hs0 ih hR
  by_cases h40 : ∃ r, l = 40 :: r
  case neg =>
    have h40' : ∀ r, l ≠ 40 :: r := fun r e => h40 ⟨r, e⟩
    have hRn : R = none := by rw [← HRr.out]; exact pPl_no h40'
    subst hRn
    clear h40
    go_enter Tryz.func30, Tryz.ntmps30
    go_upto_region 1 with fail
    rw [HW0.out]
    go_wp2_with fail
    refine (skip_no HSc.out h40').mono ?_
    rintro e w1 ⟨rfl, hb1⟩
    exact ⟨rfl, rfl, HB0.out.trans hb1⟩
  obtain ⟨r, rfl⟩ := h40
  have hrl : r.length ≤ 8388608 := by simp at hl; omega
  have HIr := Lib.hid HIx.out.cons
  go_enter Tryz.func30, Tryz.ntmps30
  go_upto_region 1 with fail
  rw [HW0.out]
  go_wp2_with fail
  refine (skip_yes HSc.out rfl).mono ?_
  rintro e w1 ⟨rfl, h1, hb1, hz1⟩
  have H1 := Lib.hid h1
  have HB1 := Lib.hid (HB0.out.trans hb1)
  have HR1 := Lib.hid (HR0.out.only hb1 (by omega))
  have Hs1 := Lib.hid (show w1.heap.size = w.heap.size + 1 by rw [hz1]; exact Hs0.out)
  clear h1 hb1 hz1
  go_wp2_with fail
  refine (kind_plan H1.out HIr.out hrl).mono ?_
  rintro e w2 hp2
  unfold KindPost at hp2
  cases hk : kindOf plName 1 8 (wordOf r) with
  | none =>
    rw [hk] at hp2
    obtain ⟨rfl, hb2⟩ := hp2
    have hRn : R = none := by rw [← HRr.out]; exact pPl_kind hk
    subst hRn
    exact ⟨rfl, rfl, HB1.out.trans hb2⟩
  | some k =>
    rw [hk] at hp2
    obtain ⟨rfl, h2, hb2⟩ := hp2
    have hkr : 1 ≤ k ∧ k ≤ 8 := by have := kindOf_range 8 1 k _ hk; omega
    obtain ⟨pE, pK, pk2, pe1, pkn⟩ := parts_nat hkr
    obtain ⟨ne, hne⟩ : ∃ ne, nex1 k = ne := ⟨_, rfl⟩
    obtain ⟨nk, hnk⟩ : ∃ nk, (nkids k).toNat = nk := ⟨_, rfl⟩
    rw [hne] at pE pe1
    rw [hnk] at pK pk2 pkn
    have HKn := Lib.hid (fun z => partsOfKind_ok k z)
    rw [pE, pK] at HKn
    obtain ⟨W3, hW3⟩ : ∃ z, w2.alloc (.cells #[.int .i64 k, .int .i64 0, .slice none 0 0, .slice none 0 0, .slice none 0 0] 26) = z := ⟨_, rfl⟩
    obtain ⟨ob, hob⟩ : ∃ n, w2.heap.size = n := ⟨_, rfl⟩
    have b3 : Below w2.heap.size w2 W3 := by rw [← hW3]; exact balloc (Below.refl _ _) _
    have r3 : Row W3 ob 26 [.int .i64 k, .int .i64 0, .slice none 0 0, .slice none 0 0, .slice none 0 0] := by rw [← hW3, ← hob]; exact Row.new _ _ _
    have hs3 : W3.heap.size = ob + 1 := by rw [← hW3, ← hob]; simp
    have hobw : w.heap.size + 1 ≤ ob := by have := hb2.size; have := Hs1.out; omega
    have HB3 := Lib.hid ((HB1.out.trans hb2).below b3)
    have HR3 := Lib.hid ((HR1.out.only hb2 (by omega)).on b3)
    have H3 := Lib.hid (h2.on b3)
    have HO3 := Lib.hid r3
    have Hs3 := Lib.hid hs3
    have Hob := Lib.hid hob
    have HW3 := Lib.hid hW3
    have HK := Lib.hid (And.intro hk (And.intro hne hnk))
    have HIr2 := Lib.hid HIr.out.rest
    have hrl2 : (restOf r).length ≤ 8388608 := Nat.le_trans (restOf_len r) hrl
    have k0 := r3.cell 0
    have kl := r3.lt
    clear h2 hb2 hW3 b3 r3 hs3 hob hne hnk hk pE pK
    go_upto_region 3 with fail
    rw [HW3.out, Hob.out]
    go_wp2_with fail
    refine (HKn.out W3).mono ?_
    rintro e w4 ⟨rfl, rfl⟩
    by_cases hdeep : 0 < nk ∧ d = 0
    · obtain ⟨hd1, rfl⟩ := hdeep
      have hRn : R = none := by rw [← HRr.out]; exact pPl_flat HK.out.1 (pkn.2 hd1)
      subst hRn
      have hd2 : (0 : Int) < (nk : Int) := by omega
      go_wp2
      exact ⟨rfl, rfl, HB3.out⟩
    have HRg := Lib.hid (show R = (pTab k (restOf r)).bind fun x => pTailC (pPl (d - 1)) k x.1 x.2 by rw [← HRr.out]; exact pPl_go HK.out.1 (fun e => hdeep ⟨pkn.1 e.1, e.2⟩))
    clear HRr
    go_upto_region 4 with fail
    go_cut [24] (fun s wx => s = .bool false ∧ wx = W3)
    case first =>
      rcases Nat.eq_zero_or_pos nk with h0 | h0
      · have h00 : ¬ (0 : Int) < (nk : Int) := by omega
        clear h0
        go_wp2
        go_meet
        case rel => exact ⟨rfl, rfl⟩
      · have h00 : (0 : Int) < (nk : Int) := by omega
        have hd0 : ((d : Int) == 0) = false := by rw [beq_eq_false_iff_ne]; intro e; exact hdeep ⟨h0, by omega⟩
        go_wp2
        go_meet
        case rel => exact ⟨rfl, rfl⟩
    case rest =>
      obtain ⟨rfl, rfl⟩ := hcut
      go_upto_if 29 with fail
      go_cut [] (fun wx => ∃ (t : Int) (l1 : List UInt8), R = pTailC (pPl (d - 1)) k t l1 ∧ (∃ a, restOf r = a ++ l1) ∧ Row wx ob 26 [.int .i64 k, .int .i64 t, .slice none 0 0, .slice none 0 0, .slice none 0 0] ∧ Row wx w.heap.size 26 [.int .i64 0, .int .i64 0, .slice none 0 0, .slice none 0 0, .slice none 0 0] ∧ Sc wx b l1 ∧ But b w wx ∧ ob + 1 ≤ wx.heap.size)
      case first =>
        by_cases k1 : k = 1
        · have k1b : (k == 1) = true := by rw [k1]; rfl
          have HRk := Lib.hid (show R = (pTab 1 (restOf r)).bind fun x => pTailC (pPl (d - 1)) k x.1 x.2 by rw [HRg.out, k1])
          clear k1
          by_cases h32 : ∃ r2, restOf r = 32 :: r2
          case neg =>
            have h32' : ∀ r2, restOf r ≠ 32 :: r2 := fun r2 e => h32 ⟨r2, e⟩
            have hRn : R = none := by
              rw [HRk.out]
              unfold pTab
              rw [if_pos rfl]
              cases hr : restOf r with
              | nil => rfl
              | cons c r2 =>
                have : ¬ c = 32 := fun e => h32' r2 (by rw [hr, e])
                simp [this]
            subst hRn
            clear h32
            go_wp2_with fail
            refine (skip_no H3.out h32').mono ?_
            rintro e w5 ⟨rfl, hb5⟩
            exact ⟨rfl, rfl, HB3.out.trans hb5⟩
          obtain ⟨r2, hr2⟩ := h32
          have HIr3 := Lib.hid (show Ix r2 by have := HIr2.out; rw [hr2] at this; exact this.cons)
          have hr2l : r2.length ≤ 8388608 := by rw [hr2] at hrl2; simp at hrl2; omega
          have hRp : R = (pIdx r2).bind fun x => pTailC (pPl (d - 1)) k x.1 x.2 := by
            rw [HRk.out]
            unfold pTab
            rw [if_pos rfl, hr2]
            rfl
          have HRp := Lib.hid hRp
          have SK := Lib.hid (skip_yes H3.out hr2)
          have Hr2 := Lib.hid hr2
          clear hRp hr2
          go_wp2_with fail
          refine SK.out.mono ?_
          rintro e w5 ⟨rfl, h5, hb5, hz5⟩
          have H5 := Lib.hid h5
          have HB5 := Lib.hid (HB3.out.trans hb5)
          have HO5 := Lib.hid (HO3.out.only hb5 (by omega))
          have HR5 := Lib.hid (HR3.out.only hb5 (by omega))
          have hz5 : ob + 1 ≤ w5.heap.size := by rw [hz5, Hs3.out]; omega
          clear h5 hb5
          by_cases hn : ∃ n, Lib.atoiAll (wordOf r2) = .ok n
          case neg =>
            have hn' : ∀ n, Lib.atoiAll (wordOf r2) ≠ .ok n := fun n e => hn ⟨n, e⟩
            have hRn : R = none := by
              rw [HRp.out]
              unfold pIdx
              split
              · rename_i n he
                exact absurd he (hn' n)
              · rfl
            subst hRn
            clear hn
            go_wp2_with fail
            refine (index_no H5.out HIr3.out hr2l hn' (HV.out.on (LOW.out _ HB5.out)) hlo).mono ?_
            rintro e w6 ⟨rfl, hb6⟩
            exact ⟨rfl, rfl, HB5.out.trans hb6⟩
          obtain ⟨n, hn⟩ := hn
          have hRq : R = pTailC (pPl (d - 1)) k n (restOf r2) := by
            rw [HRp.out]
            unfold pIdx
            rw [hn]
            rfl
          have HRq := Lib.hid hRq
          have Hn := Lib.hid hn
          clear hRq hn
          go_wp2_with fail
          refine (index_yes H5.out HIr3.out hr2l Hn.out).mono ?_
          rintro e w6 ⟨rfl, h6, hb6⟩
          have HO6 := Lib.hid (HO5.out.only hb6 (by omega))
          have H6 := Lib.hid h6
          have HB6 := Lib.hid (HB5.out.trans hb6)
          have HR6 := Lib.hid (HR5.out.only hb6 (by omega))
          have hz6 : ob + 1 ≤ w6.heap.size := by have := hb6.size; omega
          have o1 := HO6.out.cell 1
          have q1 := HO6.out.frozen 1
          have ol := HO6.out.lt
          clear h6 hb6
          go_wp2
          go_meet
          case rel =>
            have hs := Only.set (S := fun k => k = ob) (p := ⟨ob, 1, none⟩) (Only.refl w6) (.inl rfl) (.int .i64 n)
            refine ⟨n, restOf r2, HRq.out, ⟨32 :: wordOf r2, by rw [Hr2.out]; simp [word_rest]⟩, HO6.out.set 1 _, HR6.out.only hs (by show ¬ w.heap.size = ob; omega), H6.out.only hs (by show ¬ b = ob; omega), HB6.out.step hs (fun j hj => .inr (by omega)), by simp only [World.setCell, Array.size_modify]; omega⟩
        · have k1b : (k == 1) = false := by rw [beq_eq_false_iff_ne]; exact k1
          have HRq := Lib.hid (show R = pTailC (pPl (d - 1)) k 0 (restOf r) by rw [HRg.out]; unfold pTab; rw [if_neg k1]; rfl)
          have hz3 := Hs3.out
          clear k1
          go_wp2
          go_meet
          case rel => exact ⟨0, restOf r, HRq.out, ⟨[], rfl⟩, HO3.out, HR3.out, H3.out, HB3.out, by have := Hs3.out; omega⟩
      case rest =>
        obtain ⟨t, l1, hRt, hta, hro, hrr, hsc, hb, hzw⟩ := hcut
        have HRt := Lib.hid hRt
        have HTA := Lib.hid hta
        have HIl1 := Lib.hid (HIr2.out.tail hta.choose_spec)
        have hl1l : l1.length ≤ 8388608 := by have := congrArg List.length hta.choose_spec; simp at this; omega
        have HO5 := Lib.hid hro
        have HR5 := Lib.hid hrr
        have H5 := Lib.hid hsc
        have HB5 := Lib.hid hb
        clear hRt hta hro hrr hsc hb
        go_upto_block 0 with fail
        go_cut [] (fun wx => ∃ (cs : List Int) (A : Option Addr) (c : Nat) (l2 : List UInt8), R = pTailE (pPl (d - 1)) k t cs l2 ∧ (∃ a, restOf r = a ++ l2) ∧ Ow (ob + 1) 3 1 intC wx (.slice A cs.length c) cs ∧ Row wx ob 26 [.int .i64 k, .int .i64 t, .slice none 0 0, .slice A cs.length c, .slice none 0 0] ∧ Row wx w.heap.size 26 [.int .i64 0, .int .i64 0, .slice none 0 0, .slice none 0 0, .slice none 0 0] ∧ Sc wx b l2 ∧ But b w wx ∧ ob + 1 ≤ wx.heap.size)
        case first =>
          go_wp2_with fail
          go_loopg [] l1.length (fun g wr => ∃ (cs : List Int) (A : Option Addr) (c : Nat) (lc : List UInt8), g = lc.length ∧ cs.length + lc.length ≤ l1.length ∧ R = (if k = 8 then pCols (l1.length - cs.length) lc else some ([], lc)).bind (fun y => pTailE (pPl (d - 1)) k t (cs ++ y.1) y.2) ∧ (∃ a, restOf r = a ++ lc) ∧ Ow (ob + 1) 3 1 intC wr (.slice A cs.length c) cs ∧ Row wr ob 26 [.int .i64 k, .int .i64 t, .slice none 0 0, .slice A cs.length c, .slice none 0 0] ∧ Row wr w.heap.size 26 [.int .i64 0, .int .i64 0, .slice none 0 0, .slice none 0 0, .slice none 0 0] ∧ Sc wr b lc ∧ But b w wr ∧ ob + 1 ≤ wr.heap.size)
          case atStart => exact ⟨[], none, 0, l1, rfl, by simp, HRt.out, HTA.out, Ow.nil, HO5.out, HR5.out, H5.out, HB5.out, hzw⟩
          case round =>
            clear HO5 HR5 H5 HB5 hzw
            obtain ⟨cs, A, c, lc, rfl, hcl, hRc, hta, how, hro, hrr, hsc, hb, hzw⟩ := hrel
            have HRc := Lib.hid hRc
            have HTA := Lib.hid hta
            have HIlc := Lib.hid (HIr2.out.tail hta.choose_spec)
            have hlcl : lc.length ≤ 8388608 := by omega
            have HOw := Lib.hid how
            have HRo := Lib.hid hro
            have HRr := Lib.hid hrr
            have HScr := Lib.hid hsc
            have HB := Lib.hid hb
            have HCL := Lib.hid hcl
            have hlol := hro.lt
            have o0 : wr.cell? ⟨ob, 0, none⟩ = some (.int .i64 k) := hro.cell 0
            have hcs8 : cs.length ≤ 8388608 := by omega
            clear hRc hta how hro hrr hsc hb hcl
            by_cases k8 : k = 8
            case neg =>
              have k8b : (k == 8) = false := by rw [beq_eq_false_iff_ne]; exact k8
              have HRd := Lib.hid (show R = pTailE (pPl (d - 1)) k t cs lc by rw [HRc.out, if_neg k8]; simp)
              clear k8
              go_wp2
              go_meet
              case rel => exact ⟨cs, A, c, lc, HRd.out, HTA.out, HOw.out, HRo.out, HRr.out, HScr.out, HB.out, hzw⟩
            have k8b : (k == 8) = true := by rw [k8]; rfl
            have HRd := Lib.hid (show R = (pCols (l1.length - cs.length) lc).bind (fun y => pTailE (pPl (d - 1)) k t (cs ++ y.1) y.2) by rw [HRc.out, if_pos k8])
            clear k8
            cases hs : strip2 32 35 lc with
            | none =>
              have HRe := Lib.hid (show R = pTailE (pPl (d - 1)) k t cs lc by
                rw [HRd.out]
                cases hm : l1.length - cs.length with
                | zero => simp [pCols]
                | succ m => simp [pCols, hs])
              have SK := Lib.hid (skipped2_no HScr.out hs)
              clear hs
              go_wp2_with fail
              refine SK.out.mono ?_
              rintro e w6 ⟨rfl, h6, hb6, hz6⟩
              have H6 := Lib.hid (And.intro h6 (And.intro hb6 hz6))
              clear h6 hb6 hz6
              go_wp2
              go_meet
              case rel =>
                obtain ⟨h6, hb6, hz6⟩ := H6.out
                exact ⟨cs, A, c, lc, HRe.out, HTA.out, HOw.out.only hb6 (fun j (hj : j = b) => .inl (by omega)), HRo.out.only hb6 (by omega), HRr.out.only hb6 (by omega), h6, HB.out.trans hb6, by omega⟩
            | some r2 =>
              have hlr := strip2_some hs
              have hr2n : lc.length = r2.length + 2 := by rw [hlr]; simp
              have HRe := Lib.hid (show R = (pIdx r2).bind (fun x => (pCols (l1.length - cs.length - 1) x.2).bind fun y => pTailE (pPl (d - 1)) k t (cs ++ [x.1] ++ y.1) y.2) by
                rw [HRd.out, show l1.length - cs.length = (l1.length - cs.length - 1) + 1 by have := HCL.out; omega, pCols_step hs]
                simp)
              have HIr3 := Lib.hid (HIlc.out.tail (a := [32, 35]) hlr)
              have hr2l : r2.length ≤ 8388608 := by omega
              have SK := Lib.hid (skipped2_yes HScr.out hs)
              have Hlr := Lib.hid hlr
              clear hs hlr
              go_wp2_with fail
              refine SK.out.mono ?_
              rintro e w6 ⟨rfl, h6, hb6, hz6⟩
              have H6 := Lib.hid h6
              have HB6 := Lib.hid (HB.out.trans hb6)
              have HRo6 := Lib.hid (HRo.out.only hb6 (by omega))
              have HRr6 := Lib.hid (HRr.out.only hb6 (by omega))
              have HOw6 := Lib.hid (HOw.out.only hb6 (fun j (hj : j = b) => .inl (by omega)))
              have hzw6 : ob + 1 ≤ w6.heap.size := by omega
              have hlol6 := HRo6.out.lt
              clear h6 hb6 hz6 o0
              go_wp2
              have SB := Lib.hid (fun (z : World) (hz : But b w6 z) => show z.cell? ⟨ob, 3, none⟩ = some (.slice A cs.length c) from (HRo6.out.only hz (by omega)).cell 3)
              obtain ⟨u, hu⟩ : ∃ u, w6.drew = u := ⟨_, rfl⟩
              have Bu := Lib.hid (show Below w6.heap.size w6 u from hu ▸ (Below.refl _ _).drew)
              have Hu := Lib.hid hu
              clear hu
              refine wp_region_g 7 (fun z => z.cell? ⟨ob, 3, none⟩ = some (.slice A cs.length c)) (by kernel_rfl) ?_ (fun hHeld => ?_)
              · exact SB.out _ ((Only.refl (S := fun k => k = b) w6).drew)
              rw [Hu.out] at hHeld ⊢
              refine takeG (i := 0) (v := ?v1) rfl (by kernel_rfl) (by kernel_rfl) (by kernel_rfl) (by kernel_rfl) (fun _ _ _ h => h) (Or.inl ⟨by rfl, ?hy1⟩) (by assumption) ?_
              case hy1 => ((intro w' hSw; (try dsimp only at hSw); go_simp) <;> with_reducible rfl)
              try simp only [Act.put, List.setIfInBounds_toArray, List.set_cons_zero, List.set_cons_succ]
              refine takeG (i := 1) (v := ?v2) rfl (by kernel_rfl) (by kernel_rfl) (by kernel_rfl) (by kernel_rfl) (fun _ _ _ h => h) (Or.inl ⟨by rfl, ?hy2⟩) (by assumption) ?_
              case hy2 => ((intro w' hSw; (try dsimp only at hSw); go_simp) <;> with_reducible rfl)
              try simp only [Act.put, List.setIfInBounds_toArray, List.set_cons_zero, List.set_cons_succ]
              refine takeG (i := 2) (v := ?v3) rfl (by kernel_rfl) (by kernel_rfl) (by kernel_rfl) (by kernel_rfl) (fun _ _ _ h => h) (Or.inl ⟨by rfl, ?hy3⟩) (by assumption) ?_
              case hy3 => ((intro w' hSw; (try dsimp only at hSw); go_simp) <;> with_reducible rfl)
              try simp only [Act.put, List.setIfInBounds_toArray, List.set_cons_zero, List.set_cons_succ]
              refine wpAnyG_ready (rs := [3]) (by kernel_rfl) (by simp) ?_
              refine readyG rfl (fun K hK => ?_) AllReadyG.nil
              go_simp
              go_at_call 71
              by_cases hn : ∃ n, Lib.atoiAll (wordOf r2) = .ok n
              case neg =>
                have hn' : ∀ n, Lib.atoiAll (wordOf r2) ≠ .ok n := fun n e => hn ⟨n, e⟩
                have hRn : R = none := by
                  rw [HRe.out]
                  unfold pIdx
                  split
                  · rename_i n he
                    exact absurd he (hn' n)
                  · rfl
                subst hRn
                refine (index_no (H6.out.on Bu.out) HIr3.out hr2l hn' (HV.out.on (LOW.out _ (HB6.out.below Bu.out))) hlo).mono ?_
                rintro e u1 ⟨rfl, hb1⟩
                exact ⟨rfl, rfl, (HB6.out.below Bu.out).trans hb1⟩
              obtain ⟨n, hn⟩ := hn
              have HRf := Lib.hid (show R = (pCols (l1.length - cs.length - 1) (restOf r2)).bind (fun y => pTailE (pPl (d - 1)) k t (cs ++ [n] ++ y.1) y.2) by
                rw [HRe.out]
                unfold pIdx
                rw [hn]
                rfl)
              refine (index_yes (H6.out.on Bu.out) HIr3.out hr2l hn).mono ?_
              rintro e u1 ⟨rfl, hsc1, hb1⟩
              have Bt1 := Lib.hid ((only_below (S := fun k => k = b) Bu.out).trans hb1)
              have HB1x := Lib.hid (HB6.out.trans Bt1.out)
              have Sc1 := Lib.hid hsc1
              have hz0 := Bu.out.size
              have hz1 := hb1.size
              clear hb1 hsc1 hn
              refine hK.out _ _ ?hS4 (fun hHeld => ?_)
              case hS4 => exact fun _ => SB.out _ Bt1.out
              replace hHeld := hHeld (by decide)
              clear hK K
              try simp only [Act.put, List.setIfInBounds_toArray, List.set_cons_zero, List.set_cons_succ]
              refine wpAnyG_ready (rs := [4]) (by kernel_rfl) (by simp) ?_
              refine readyG rfl (fun K hK => ?_) AllReadyG.nil
              obtain ⟨u2, hu2⟩ : ∃ z, u1.alloc (.cells #[.int .i64 n] 3) = z := ⟨_, rfl⟩
              have hb2 : Below u1.heap.size u1 u2 := by rw [← hu2]; exact balloc (Below.refl _ _) _
              have hz2 : u2.heap.size = u1.heap.size + 1 := by rw [← hu2]; simp
              have S2 := Lib.hid (show Sl 1 intC u2 u2.heap.size (some ⟨u1.heap.size, 0, none⟩) [n] by rw [← hu2]; exact Row.sl' (t := 3) intC_length ((Row.new u1 _ _).of rfl))
              have Bt2 := Lib.hid (Bt1.out.below hb2)
              have HB2x := Lib.hid (HB1x.out.below hb2)
              have Sc2 := Lib.hid (show Sc u2 b (restOf r2) from Sc1.out.on hb2)
              go_simp
              try rw [hu2]
              have Hu2 := Lib.hid hu2
              clear hu2 hb2
              refine hK.out _ _ ?hS5 (fun hHeld => ?_)
              case hS5 => exact fun _ => SB.out _ Bt2.out
              replace hHeld := hHeld (by decide)
              clear hK K
              try simp only [Act.put, List.setIfInBounds_toArray, List.set_cons_zero, List.set_cons_succ]
              refine wpAnyG_ready (rs := [5]) (by kernel_rfl) (by simp) ?_
              refine readyG rfl (fun K hK => ?_) AllReadyG.nil
              have how := HOw6.out.only Bt2.out (fun j (hj : j = b) => .inl (show j < ob + 1 by omega))
              refine step_app2 rfl (.tmp 43) (.tmp 46) 22 rfl (ob + 1) 3 _ 1 8 intC Tryz.underlying22 zeroIntT4 rfl (by decide) (by decide) intC_length intC_one _ cs rfl how (some ⟨u1.heap.size, 0, none⟩) 1 1 [n] rfl rfl S2.out (by simp; omega) (by omega) ?_
              intro v' u3 hown hgr hob3
              obtain ⟨A3, c3, hv3, hc31, hc32, _⟩ := hown.shape intC_length
              have hti3 : (cs ++ [n]).length = cs.length + 1 := by simp
              rw [hti3] at hv3 hc31
              subst hv3
              have hgo : ∀ k, (Value.slice A cs.length c).ownBlock = some k → ob + 1 ≤ k := fun k hk => (how.ty k hk).1
              have hgb : ∀ k, k < ob + 1 → k < u2.heap.size → u3.heap[k]? = u2.heap[k]? := fun k hk hl => hgr.block k hl fun e => by have := hgo k e.symm; omega
              have rr := HRo6.out.only Bt2.out (by omega)
              have rr0 := HRr6.out.only Bt2.out (by omega)
              have r3o := rr.keep (hgb ob (by omega) rr.lt)
              have r03 := Lib.hid (rr0.keep (hgb w.heap.size (by omega) rr0.lt))
              have C3 : u3.cell? ⟨ob, 3, none⟩ = some (.slice A cs.length c) := r3o.cell 3
              have F3 := r3o.frozen 3
              have HB3x := Lib.hid (HB2x.out.grown hgr fun k hk => .inr (by have := hgo k hk; omega))
              have Sc3 := Lib.hid (show Sc u3 b (restOf r2) from Sc2.out.keep (hgb b (by omega) (by omega)))
              have Hr3' := Lib.hid r3o
              have Ow3 := Lib.hid hown
              have hgr3 := hgr.size
              have hl3 := r3o.lt
              clear hown hgr hgo rr r3o rr0 how hti3
              refine hK.out _ _ ?hS6 (fun hHeld => ?_)
              case hS6 => exact fun _ => C3
              replace hHeld := hHeld (by decide)
              clear hK K
              try simp only [Act.put, List.setIfInBounds_toArray, List.set_cons_zero, List.set_cons_succ]
              refine takeG (i := 6) (v := ?v7) rfl (by kernel_rfl) (by kernel_rfl) (by kernel_rfl) (by kernel_rfl) (fun _ _ _ h => h) (Or.inl ⟨by rfl, ?hy7⟩) (by assumption) ?_
              case hy7 => ((intro w' hSw; (try dsimp only at hSw); go_simp) <;> with_reducible rfl)
              try simp only [Act.put, List.setIfInBounds_toArray, List.set_cons_zero, List.set_cons_succ]
              refine wpAnyG_ready (rs := [7]) (by kernel_rfl) (by simp) ?_
              refine readyG rfl (fun K hK => ?_) AllReadyG.nil
              go_simp
              refine hK.out _ _ ?hS991 (fun hHeld => ?_)
              case hS991 => exact fun h => absurd rfl h
              clear hK K
              try simp only [Act.put, List.setIfInBounds_toArray, List.set_cons_zero, List.set_cons_succ]
              refine wpAnyG_done (by kernel_rfl) ?_ _
              go_wp2
              go_roundg (restOf r2).length
              case measure => have := restOf_len r2; omega
              case rel =>
                have hso := Only.set (S := fun k => k = ob) (p := ⟨ob, 3, none⟩) (Only.refl u3) (.inl rfl) (.slice A3 (cs.length + 1) c3)
                have hrl2' := restOf_len r2
                refine ⟨cs ++ [n], A3, c3, restOf r2, rfl, by have := HCL.out; simp; omega, ?_, ?_, ?_, ?_, r03.out.only hso (show ¬ w.heap.size = ob by omega), Sc3.out.only hso (show ¬ b = ob by omega), HB3x.out.step hso (fun j hj => .inr (by omega)), by simp only [World.setCell, Array.size_modify]; omega⟩
                · rw [HRf.out, if_pos (by simpa using k8b)]
                  simp [Nat.sub_sub]
                · obtain ⟨a, ha⟩ := HTA.out
                  exact ⟨a ++ 32 :: 35 :: wordOf r2, by rw [ha, Hlr.out]; simp [word_rest]⟩
                · have := Ow3.out.only hso (fun j (hj : j = ob) => .inl (show j < ob + 1 by omega))
                  simpa using this
                · have := Hr3'.out.set 3 (.slice A3 (cs.length + 1) c3)
                  simpa using this
        case rest =>
          obtain ⟨cs, A, c, l2, hRt, hta, how, hro, hrr, hsc, hb, hzw⟩ := hcut
          obtain ⟨L2, hL2⟩ : ∃ n, wc.heap.size = n := ⟨_, rfl⟩
          have HIW := Lib.hid (show IntW 3 wc (fun k => ob < k ∧ k < L2) ⟨A, cs.length, c⟩ cs from IntW.of how fun k hk1 hk2 => ⟨by omega, by omega⟩)
          have HRt := Lib.hid hRt
          have HTA := Lib.hid hta
          have HIl2 := Lib.hid (HIr2.out.tail hta.choose_spec)
          have hl2l : l2.length ≤ 8388608 := by have := congrArg List.length hta.choose_spec; simp at this; omega
          have HO6 := Lib.hid hro
          have HR6 := Lib.hid hrr
          have H6 := Lib.hid hsc
          have HB6 := Lib.hid hb
          have HL2 := Lib.hid hL2
          have hLo : ob + 1 ≤ L2 := by omega
          have hneE := HK.out.2.1
          have HneE := Lib.hid hneE
          clear hRt hta how hro hrr hsc hb hL2 hneE
          go_upto_block 2 with fail
          go_cut [] (fun wx => ∃ (es : List Ex) (A1 : Option Addr) (c1 : Nat) (l3 : List UInt8), R = pEnd k (pPl (d - 1)) t cs es l3 ∧ (∃ a, restOf r = a ++ l3) ∧ IntW 3 wx (fun k => ob < k ∧ k < L2) ⟨A, cs.length, c⟩ cs ∧ (∃ z, z ≤ wx.heap.size ∧ KdsW 40 L2 z wx (.slice A1 es.length c1) es) ∧ Row wx ob 26 [.int .i64 k, .int .i64 t, .slice A1 es.length c1, .slice A cs.length c, .slice none 0 0] ∧ Row wx w.heap.size 26 [.int .i64 0, .int .i64 0, .slice none 0 0, .slice none 0 0, .slice none 0 0] ∧ Sc wx b l3 ∧ But b w wx ∧ L2 ≤ wx.heap.size)
          case first =>
            go_wp2_with fail
            go_loopg [] l2.length (fun g wr => ∃ (es : List Ex) (A1 : Option Addr) (c1 : Nat) (lc : List UInt8), g = lc.length ∧ es.length + lc.length ≤ l2.length ∧ R = (pExs (l2.length + 1 - es.length) (ne - es.length) (decide (k = 3)) lc).bind (fun y => pEnd k (pPl (d - 1)) t cs (es ++ y.1) y.2) ∧ (∃ a, restOf r = a ++ lc) ∧ IntW 3 wr (fun k => ob < k ∧ k < L2) ⟨A, cs.length, c⟩ cs ∧ (∃ z, z ≤ wr.heap.size ∧ KdsW 40 L2 z wr (.slice A1 es.length c1) es) ∧ Row wr ob 26 [.int .i64 k, .int .i64 t, .slice A1 es.length c1, .slice A cs.length c, .slice none 0 0] ∧ Row wr w.heap.size 26 [.int .i64 0, .int .i64 0, .slice none 0 0, .slice none 0 0, .slice none 0 0] ∧ Sc wr b lc ∧ But b w wr ∧ L2 ≤ wr.heap.size)
            case atStart =>
              refine ⟨[], none, 0, l2, rfl, by simp, ?_, HTA.out, HIW.out, ⟨0, Nat.zero_le _, KdsW.nil⟩, HO6.out, HR6.out, H6.out, HB6.out, by have := HL2.out; omega⟩
              rw [HRt.out]
              unfold pTailE
              rw [HneE.out]
              simp
            case round =>
              clear HO6 HR6 H6 HB6 HIW
              obtain ⟨es, A1, c1, lc, rfl, hcl, hRc, hta, hiw, ⟨zb, hzb, hkd⟩, hro, hrr, hsc, hb, hzw⟩ := hrel
              have HRc := Lib.hid hRc
              have HTA := Lib.hid hta
              have HIlc := Lib.hid (HIr2.out.tail hta.choose_spec)
              have hlcl : lc.length ≤ 8388608 := by omega
              have HIW := Lib.hid hiw
              have HKd := Lib.hid hkd
              have HRo := Lib.hid hro
              have HRr := Lib.hid hrr
              have HScr := Lib.hid hsc
              have HB := Lib.hid hb
              have HCL := Lib.hid hcl
              have hlol := hro.lt
              have o0 : wr.cell? ⟨ob, 0, none⟩ = some (.int .i64 k) := hro.cell 0
              have o2 : wr.cell? ⟨ob, 2, none⟩ = some (.slice A1 es.length c1) := hro.cell 2
              have hes8 : es.length ≤ 8388608 := by omega
              have hn1 : l2.length + 1 - es.length = (l2.length - es.length) + 1 := by omega
              have Hn1 := Lib.hid hn1
              clear hRc hta hiw hkd hro hrr hsc hb hcl hn1
              by_cases hA : es.length < ne
              · have hAi : (es.length : Int) < (ne : Int) := by omega
                have HC := Lib.hid (show 0 < ne - es.length ∨ (decide (k = 3) = true ∧ atPl lc = false) from .inl (by omega))
                by_cases h32 : ∃ r2, lc = 32 :: r2
                case neg =>
                  have h32' : ∀ r2, lc ≠ 32 :: r2 := fun r2 hr2 => h32 ⟨r2, hr2⟩
                  have hRn : R = none := by rw [HRc.out, Hn1.out]; exact pExs_bad HC.out h32' _
                  subst hRn
                  clear h32
                  go_wp2_with fail
                  refine (skip_no HScr.out h32').mono ?_
                  rintro e w6 ⟨rfl, hb6⟩
                  exact ⟨rfl, rfl, HB.out.trans hb6⟩
                obtain ⟨r2, rfl⟩ := h32
                have HRe := Lib.hid (show R = (pEx 8 r2).bind (fun x => (pExs (l2.length - es.length) (ne - es.length - 1) (decide (k = 3)) x.2).bind fun y => pEnd k (pPl (d - 1)) t cs (es ++ [x.1] ++ y.1) y.2) by
                  rw [HRc.out, Hn1.out, pExs_step HC.out]
                  simp)
                have HIr3 := Lib.hid HIlc.out.cons
                have hr2l : r2.length ≤ 8388608 := by simp at hlcl; omega
                go_wp2_with fail
                refine (skip_yes HScr.out rfl).mono ?_
                rintro e w6 ⟨rfl, h6, hb6, hz6⟩
                have H6 := Lib.hid h6
                have HB6 := Lib.hid (HB.out.trans hb6)
                have HRo6 := Lib.hid (HRo.out.only hb6 (by omega))
                have HRr6 := Lib.hid (HRr.out.only hb6 (by omega))
                have HIW6 := Lib.hid (HIW.out.carry (w' := w6) (T := fun k => ob < k ∧ k < L2) (fun _ _ h => h) (fun k hk hl => hb6.block k hl (by omega)))
                have HKd6 := Lib.hid (HKd.out.only hb6 (fun j (hj : j = b) => show j < L2 by omega))
                have hzw6 : L2 ≤ w6.heap.size := by omega
                have HZ6 := Lib.hid (show zb ≤ w6.heap.size by omega)
                have hlol6 := HRo6.out.lt
                clear h6 hb6 hz6 o0 o2
                go_wp2
                have SB := Lib.hid (fun (z : World) (hz : But b w6 z) => show z.cell? ⟨ob, 2, none⟩ = some (.slice A1 es.length c1) from (HRo6.out.only hz (by omega)).cell 2)
                obtain ⟨u, hu⟩ : ∃ u, w6.drew = u := ⟨_, rfl⟩
                have Bu := Lib.hid (show Below w6.heap.size w6 u from hu ▸ (Below.refl _ _).drew)
                have Hu := Lib.hid hu
                clear hu
                refine wp_region_g 7 (fun z => z.cell? ⟨ob, 2, none⟩ = some (.slice A1 es.length c1)) (by kernel_rfl) ?_ (fun hHeld => ?_)
                · exact SB.out _ ((Only.refl (S := fun k => k = b) w6).drew)
                rw [Hu.out] at hHeld ⊢
                refine takeG (i := 0) (v := ?v8) rfl (by kernel_rfl) (by kernel_rfl) (by kernel_rfl) (by kernel_rfl) (fun _ _ _ h => h) (Or.inl ⟨by rfl, ?hy8⟩) (by assumption) ?_
                case hy8 => ((intro w' hSw; (try dsimp only at hSw); go_simp) <;> with_reducible rfl)
                try simp only [Act.put, List.setIfInBounds_toArray, List.set_cons_zero, List.set_cons_succ]
                refine takeG (i := 1) (v := ?v9) rfl (by kernel_rfl) (by kernel_rfl) (by kernel_rfl) (by kernel_rfl) (fun _ _ _ h => h) (Or.inl ⟨by rfl, ?hy9⟩) (by assumption) ?_
                case hy9 => ((intro w' hSw; (try dsimp only at hSw); go_simp) <;> with_reducible rfl)
                try simp only [Act.put, List.setIfInBounds_toArray, List.set_cons_zero, List.set_cons_succ]
                refine takeG (i := 2) (v := ?v10) rfl (by kernel_rfl) (by kernel_rfl) (by kernel_rfl) (by kernel_rfl) (fun _ _ _ h => h) (Or.inl ⟨by rfl, ?hy10⟩) (by assumption) ?_
                case hy10 => ((intro w' hSw; (try dsimp only at hSw); go_simp) <;> with_reducible rfl)
                try simp only [Act.put, List.setIfInBounds_toArray, List.set_cons_zero, List.set_cons_succ]
                refine wpAnyG_ready (rs := [3]) (by kernel_rfl) (by simp) ?_
                refine readyG rfl (fun K hK => ?_) AllReadyG.nil
                go_simp
                go_at_call 44
                refine (expr_ok 8 (by omega) b lo r2 u (H6.out.on Bu.out) HIr3.out hr2l (HT.out.on (LOW.out _ (HB6.out.below Bu.out))) (HV.out.on (LOW.out _ (HB6.out.below Bu.out))) hlo).mono ?_
                rintro e u1 hp
                unfold XPost at hp
                cases hpx : pEx 8 r2 with
                | none =>
                  rw [hpx] at hp
                  obtain ⟨rfl, hb1⟩ := hp
                  have hRn : R = none := by rw [HRe.out, hpx]; rfl
                  subst hRn
                  exact ⟨rfl, rfl, (HB6.out.below Bu.out).trans hb1⟩
                | some y =>
                  obtain ⟨x, r3⟩ := y
                  rw [hpx] at hp
                  obtain ⟨f', he, hx, hsc1, hb1⟩ := hp
                  unfold feV at he
                  subst he
                  have hb1 : But b u u1 := hb1
                  have Bt1 := Lib.hid ((only_below (S := fun k => k = b) Bu.out).trans hb1)
                  have HB1x := Lib.hid (HB6.out.trans Bt1.out)
                  have X1 := Lib.hid hx
                  have Sc1 := Lib.hid (show Sc u1 b r3 from hsc1)
                  have hz0 := Bu.out.size
                  have hz00 := HZ6.out
                  have hz1 := hb1.size
                  have HPx := Lib.hid hpx
                  clear hb1 hx hsc1 hpx
                  refine hK.out _ _ ?hS11 (fun hHeld => ?_)
                  case hS11 => exact fun _ => SB.out _ Bt1.out
                  replace hHeld := hHeld (by decide)
                  clear hK K
                  try simp only [Act.put, List.setIfInBounds_toArray, List.set_cons_zero, List.set_cons_succ]
                  refine wpAnyG_ready (rs := [4]) (by kernel_rfl) (by simp) ?_
                  refine readyG rfl (fun K hK => ?_) AllReadyG.nil
                  obtain ⟨u2, hu2⟩ : ∃ z, u1.alloc (.cells #[.int .i64 f'.kind, .int .i64 f'.col, .bool f'.val.1, .int .i64 f'.val.2, .slice f'.sv.A f'.sv.n f'.sv.c] 40) = z := ⟨_, rfl⟩
                  have hb2 : Below u1.heap.size u1 u2 := by rw [← hu2]; exact balloc (Below.refl _ _) _
                  have hz2 : u2.heap.size = u1.heap.size + 1 := by rw [← hu2]; simp
                  have S2 := Lib.hid (show Sl 5 feC u2 u2.heap.size (some ⟨u1.heap.size, 0, none⟩) [f'] by rw [← hu2]; exact Row.sl' (t := 40) feC_length ((Row.new u1 _ _).of rfl))
                  have Bt2 := Lib.hid (Bt1.out.below hb2)
                  have HB2x := Lib.hid (HB1x.out.below hb2)
                  have X2 := Lib.hid (X1.out.keep hb2.size fun k _ hl => hb2.block k hl)
                  have Sc2 := Lib.hid (show Sc u2 b r3 from Sc1.out.on hb2)
                  go_simp
                  try rw [hu2]
                  have Hu2 := Lib.hid hu2
                  clear hu2 hb2
                  refine hK.out _ _ ?hS12 (fun hHeld => ?_)
                  case hS12 => exact fun _ => SB.out _ Bt2.out
                  replace hHeld := hHeld (by decide)
                  clear hK K
                  try simp only [Act.put, List.setIfInBounds_toArray, List.set_cons_zero, List.set_cons_succ]
                  refine wpAnyG_ready (rs := [5]) (by kernel_rfl) (by simp) ?_
                  refine readyG rfl (fun K hK => ?_) AllReadyG.nil
                  obtain ⟨fs, hfl, how, hfx⟩ := HKd6.out.only Bt2.out (fun j (hj : j = b) => show j < L2 by omega)
                  obtain ⟨fs0, hfl0, how0, _⟩ := HKd6.out
                  have X3 := Lib.hid (X2.out.mono (T := fun k => L2 ≤ k ∧ zb ≤ k ∧ (Value.slice A1 es.length c1).ownBlock ≠ some k) fun k hk1 hk => by
                    refine ⟨by omega, by omega, fun e => ?_⟩
                    have := (how0.ty k e).2.1
                    omega)
                  refine step_app2 rfl (.tmp 67) (.tmp 70) 23 rfl L2 40 _ 5 56 feC Tryz.underlying23 zeroExT3 rfl (by decide) (by decide) feC_length feC_one _ fs rfl how (some ⟨u1.heap.size, 0, none⟩) 1 1 [f'] rfl rfl S2.out (by rw [hfl]; simp; omega) (by omega) ?_
                  intro v' u3 hown hgr hob3
                  have K3 := KdsW.snoc hfl hfx (by omega) X3.out hown hgr hob3
                  obtain ⟨A3, c3, hv3, hc31, hc32⟩ := K3.shape
                  have hti3 : (es ++ [x]).length = es.length + 1 := by simp
                  rw [hti3] at hv3 hc31
                  subst hv3
                  have hgo : ∀ k, (Value.slice A1 es.length c1).ownBlock = some k → L2 ≤ k := fun k hk => (how.ty k hk).1
                  have hgb : ∀ k, k < L2 → k < u2.heap.size → u3.heap[k]? = u2.heap[k]? := fun k hk hl => hgr.block k hl fun e => by have := hgo k e.symm; omega
                  have rr := HRo6.out.only Bt2.out (by omega)
                  have rr0 := HRr6.out.only Bt2.out (by omega)
                  have r3o := rr.keep (hgb ob (by omega) rr.lt)
                  have r03 := Lib.hid (rr0.keep (hgb w.heap.size (by omega) rr0.lt))
                  have IW3 := Lib.hid ((HIW6.out.carry (w' := u2) (T := fun k => ob < k ∧ k < L2) (fun _ _ h => h) (fun k hk hl => Bt2.out.block k hl (by omega))).carry (w' := u3) (T := fun k => ob < k ∧ k < L2) (fun _ _ h => h) (fun k hk hl => hgb k hk.2 hl))
                  have C3 : u3.cell? ⟨ob, 2, none⟩ = some (.slice A1 es.length c1) := r3o.cell 2
                  have F3 := r3o.frozen 2
                  have HB3x := Lib.hid (HB2x.out.grown hgr fun k hk => .inr (by have := hgo k hk; omega))
                  have Sc3 := Lib.hid (show Sc u3 b r3 from Sc2.out.keep (hgb b (by omega) (by omega)))
                  have Hr3' := Lib.hid r3o
                  have K3' := Lib.hid K3
                  have hgr3 := hgr.size
                  have hl3 := r3o.lt
                  clear K3 hown hgr hgo rr r3o rr0 how hfx hti3
                  refine hK.out _ _ ?hS13 (fun hHeld => ?_)
                  case hS13 => exact fun _ => C3
                  replace hHeld := hHeld (by decide)
                  clear hK K
                  try simp only [Act.put, List.setIfInBounds_toArray, List.set_cons_zero, List.set_cons_succ]
                  refine takeG (i := 6) (v := ?v14) rfl (by kernel_rfl) (by kernel_rfl) (by kernel_rfl) (by kernel_rfl) (fun _ _ _ h => h) (Or.inl ⟨by rfl, ?hy14⟩) (by assumption) ?_
                  case hy14 => ((intro w' hSw; (try dsimp only at hSw); go_simp) <;> with_reducible rfl)
                  try simp only [Act.put, List.setIfInBounds_toArray, List.set_cons_zero, List.set_cons_succ]
                  refine wpAnyG_ready (rs := [7]) (by kernel_rfl) (by simp) ?_
                  refine readyG rfl (fun K hK => ?_) AllReadyG.nil
                  go_simp
                  refine hK.out _ _ ?hS9014 (fun hHeld => ?_)
                  case hS9014 => exact fun h => absurd rfl h
                  clear hK K
                  try simp only [Act.put, List.setIfInBounds_toArray, List.set_cons_zero, List.set_cons_succ]
                  refine wpAnyG_done (by kernel_rfl) ?_ _
                  go_wp2
                  go_roundg r3.length
                  case measure =>
                    obtain ⟨a, ha⟩ := pEx_tail 8 r2 x r3 HPx.out
                    have := congrArg List.length ha
                    simp at this ⊢
                    omega
                  case rel =>
                    have hso := Only.set (S := fun k => k = ob) (p := ⟨ob, 2, none⟩) (Only.refl u3) (.inl rfl) (.slice A3 (es.length + 1) c3)
                    have k4 := K3'.out.only hso (fun j (hj : j = ob) => show j < L2 by omega)
                    have hle : r3.length ≤ r2.length := by
                      obtain ⟨a, ha⟩ := pEx_tail 8 r2 x r3 HPx.out
                      have := congrArg List.length ha
                      simp at this
                      omega
                    refine ⟨es ++ [x], A3, c3, r3, rfl, by have := HCL.out; simp at this ⊢; omega, ?_, ?_, IW3.out.carry (fun _ _ h => h) (fun k hk hl => hso.block k hl (by omega)), ⟨_, by simp only [World.setCell, Array.size_modify]; exact hgr3, by simpa using k4⟩, ?_, r03.out.only hso (show ¬ w.heap.size = ob by omega), Sc3.out.only hso (show ¬ b = ob by omega), HB3x.out.step hso (fun j hj => .inr (by omega)), by simp only [World.setCell, Array.size_modify]; omega⟩
                    · rw [HRe.out, HPx.out]
                      simp only [Option.bind, List.length_append, List.length_cons, List.length_nil]
                      rw [show l2.length + 1 - (es.length + (0 + 1)) = l2.length - es.length by omega, show ne - (es.length + (0 + 1)) = ne - es.length - 1 by omega]
                    · obtain ⟨a, ha⟩ := HTA.out
                      obtain ⟨a2, ha2⟩ := pEx_tail 8 r2 x r3 HPx.out
                      exact ⟨a ++ 32 :: a2, by rw [ha, ha2]; simp⟩
                    · have := Hr3'.out.set 2 (.slice A3 (es.length + 1) c3)
                      simpa using this
              · have hAi : ¬ (es.length : Int) < (ne : Int) := by omega
                by_cases k3 : k = 3
                case neg =>
                  have k3b : (k == 3) = false := by rw [beq_eq_false_iff_ne]; exact k3
                  have HRd := Lib.hid (show R = pEnd k (pPl (d - 1)) t cs es lc by
                    rw [HRc.out, Hn1.out, pExs_stop (by rintro (h | ⟨h, _⟩); · omega
                                                        · exact k3 (of_decide_eq_true h))]
                    simp)
                  clear k3
                  go_wp2
                  go_meet
                  case rel => exact ⟨es, A1, c1, lc, HRd.out, HTA.out, HIW.out, ⟨zb, hzb, HKd.out⟩, HRo.out, HRr.out, HScr.out, HB.out, hzw⟩
                have k3b : (k == 3) = true := by rw [k3]; rfl
                have Hk3 := Lib.hid (show decide (k = 3) = true by rw [k3]; rfl)
                clear k3
                obtain ⟨q, hq⟩ : ∃ q, atPl lc = q := ⟨_, rfl⟩
                have AP := Lib.hid (atPlan_ok HScr.out HIlc.out hlcl)
                rw [hq] at AP
                cases q with
                | true =>
                  have HRd := Lib.hid (show R = pEnd k (pPl (d - 1)) t cs es lc by
                    rw [HRc.out, Hn1.out, pExs_stop (by rintro (h | ⟨_, h⟩); · omega
                                                        · rw [hq] at h; cases h)]
                    simp)
                  clear hq
                  go_wp2_with fail
                  refine AP.out.mono ?_
                  rintro e w6 ⟨rfl, hb6⟩
                  have HB6 := Lib.hid hb6
                  clear hb6
                  go_wp2
                  go_meet
                  case rel => exact ⟨es, A1, c1, lc, HRd.out, HTA.out, HIW.out.carry (fun _ _ h => h) (fun k _ hl => HB6.out.block k hl), ⟨zb, by have := HB6.out.size; omega, by obtain ⟨fs, e1, e2, e3⟩ := HKd.out; exact ⟨fs, e1, e2.on HB6.out, e3.keep HB6.out.size fun k _ hl => HB6.out.block k hl⟩⟩, HRo.out.on HB6.out, HRr.out.on HB6.out, HScr.out.on HB6.out, HB.out.below HB6.out, by have := HB6.out.size; omega⟩
                | false =>
                  have HC := Lib.hid (show 0 < ne - es.length ∨ (decide (k = 3) = true ∧ atPl lc = false) from .inr ⟨Hk3.out, hq⟩)
                  clear hq
                  go_wp2_with fail
                  refine AP.out.mono ?_
                  rintro e wq ⟨rfl, hbq⟩
                  have HIW := Lib.hid (show IntW 3 wq (fun k => ob < k ∧ k < L2) ⟨A, cs.length, c⟩ cs from HIW.out.carry (fun _ _ h => h) (fun k _ hl => hbq.block k hl))
                  have HKd := Lib.hid (show KdsW 40 L2 zb wq (.slice A1 es.length c1) es from by obtain ⟨fs, e1, e2, e3⟩ := HKd.out; exact ⟨fs, e1, e2.on hbq, e3.keep hbq.size fun k _ hl => hbq.block k hl⟩)
                  have HRo := Lib.hid (HRo.out.on hbq)
                  have HRr := Lib.hid (HRr.out.on hbq)
                  have HScr := Lib.hid (show Sc wq b lc from HScr.out.on hbq)
                  have HB := Lib.hid (HB.out.below hbq)
                  have hzb : zb ≤ wq.heap.size := by have := hbq.size; omega
                  have hzw : L2 ≤ wq.heap.size := by have := hbq.size; omega
                  have hlol := HRo.out.lt
                  clear hbq
                  by_cases h32 : ∃ r2, lc = 32 :: r2
                  case neg =>
                    have h32' : ∀ r2, lc ≠ 32 :: r2 := fun r2 hr2 => h32 ⟨r2, hr2⟩
                    have hRn : R = none := by rw [HRc.out, Hn1.out]; exact pExs_bad HC.out h32' _
                    subst hRn
                    clear h32
                    go_wp2_with fail
                    refine (skip_no HScr.out h32').mono ?_
                    rintro e w6 ⟨rfl, hb6⟩
                    exact ⟨rfl, rfl, HB.out.trans hb6⟩
                  obtain ⟨r2, rfl⟩ := h32
                  have HRe := Lib.hid (show R = (pEx 8 r2).bind (fun x => (pExs (l2.length - es.length) (ne - es.length - 1) (decide (k = 3)) x.2).bind fun y => pEnd k (pPl (d - 1)) t cs (es ++ [x.1] ++ y.1) y.2) by
                    rw [HRc.out, Hn1.out, pExs_step HC.out]
                    simp)
                  have HIr3 := Lib.hid HIlc.out.cons
                  have hr2l : r2.length ≤ 8388608 := by simp at hlcl; omega
                  go_wp2_with fail
                  refine (skip_yes HScr.out rfl).mono ?_
                  rintro e w6 ⟨rfl, h6, hb6, hz6⟩
                  have H6 := Lib.hid h6
                  have HB6 := Lib.hid (HB.out.trans hb6)
                  have HRo6 := Lib.hid (HRo.out.only hb6 (by omega))
                  have HRr6 := Lib.hid (HRr.out.only hb6 (by omega))
                  have HIW6 := Lib.hid (HIW.out.carry (w' := w6) (T := fun k => ob < k ∧ k < L2) (fun _ _ h => h) (fun k hk hl => hb6.block k hl (by omega)))
                  have HKd6 := Lib.hid (HKd.out.only hb6 (fun j (hj : j = b) => show j < L2 by omega))
                  have hzw6 : L2 ≤ w6.heap.size := by omega
                  have HZ6 := Lib.hid (show zb ≤ w6.heap.size by omega)
                  have hlol6 := HRo6.out.lt
                  clear h6 hb6 hz6 o0 o2
                  go_wp2
                  have SB := Lib.hid (fun (z : World) (hz : But b w6 z) => show z.cell? ⟨ob, 2, none⟩ = some (.slice A1 es.length c1) from (HRo6.out.only hz (by omega)).cell 2)
                  obtain ⟨u, hu⟩ : ∃ u, w6.drew = u := ⟨_, rfl⟩
                  have Bu := Lib.hid (show Below w6.heap.size w6 u from hu ▸ (Below.refl _ _).drew)
                  have Hu := Lib.hid hu
                  clear hu
                  refine wp_region_g 7 (fun z => z.cell? ⟨ob, 2, none⟩ = some (.slice A1 es.length c1)) (by kernel_rfl) ?_ (fun hHeld => ?_)
                  · exact SB.out _ ((Only.refl (S := fun k => k = b) w6).drew)
                  rw [Hu.out] at hHeld ⊢
                  refine takeG (i := 0) (v := ?v15) rfl (by kernel_rfl) (by kernel_rfl) (by kernel_rfl) (by kernel_rfl) (fun _ _ _ h => h) (Or.inl ⟨by rfl, ?hy15⟩) (by assumption) ?_
                  case hy15 => ((intro w' hSw; (try dsimp only at hSw); go_simp) <;> with_reducible rfl)
                  try simp only [Act.put, List.setIfInBounds_toArray, List.set_cons_zero, List.set_cons_succ]
                  refine takeG (i := 1) (v := ?v16) rfl (by kernel_rfl) (by kernel_rfl) (by kernel_rfl) (by kernel_rfl) (fun _ _ _ h => h) (Or.inl ⟨by rfl, ?hy16⟩) (by assumption) ?_
                  case hy16 => ((intro w' hSw; (try dsimp only at hSw); go_simp) <;> with_reducible rfl)
                  try simp only [Act.put, List.setIfInBounds_toArray, List.set_cons_zero, List.set_cons_succ]
                  refine takeG (i := 2) (v := ?v17) rfl (by kernel_rfl) (by kernel_rfl) (by kernel_rfl) (by kernel_rfl) (fun _ _ _ h => h) (Or.inl ⟨by rfl, ?hy17⟩) (by assumption) ?_
                  case hy17 => ((intro w' hSw; (try dsimp only at hSw); go_simp) <;> with_reducible rfl)
                  try simp only [Act.put, List.setIfInBounds_toArray, List.set_cons_zero, List.set_cons_succ]
                  refine wpAnyG_ready (rs := [3]) (by kernel_rfl) (by simp) ?_
                  refine readyG rfl (fun K hK => ?_) AllReadyG.nil
                  go_simp
                  go_at_call 44
                  refine (expr_ok 8 (by omega) b lo r2 u (H6.out.on Bu.out) HIr3.out hr2l (HT.out.on (LOW.out _ (HB6.out.below Bu.out))) (HV.out.on (LOW.out _ (HB6.out.below Bu.out))) hlo).mono ?_
                  rintro e u1 hp
                  unfold XPost at hp
                  cases hpx : pEx 8 r2 with
                  | none =>
                    rw [hpx] at hp
                    obtain ⟨rfl, hb1⟩ := hp
                    have hRn : R = none := by rw [HRe.out, hpx]; rfl
                    subst hRn
                    exact ⟨rfl, rfl, (HB6.out.below Bu.out).trans hb1⟩
                  | some y =>
                    obtain ⟨x, r3⟩ := y
                    rw [hpx] at hp
                    obtain ⟨f', he, hx, hsc1, hb1⟩ := hp
                    unfold feV at he
                    subst he
                    have hb1 : But b u u1 := hb1
                    have Bt1 := Lib.hid ((only_below (S := fun k => k = b) Bu.out).trans hb1)
                    have HB1x := Lib.hid (HB6.out.trans Bt1.out)
                    have X1 := Lib.hid hx
                    have Sc1 := Lib.hid (show Sc u1 b r3 from hsc1)
                    have hz0 := Bu.out.size
                    have hz00 := HZ6.out
                    have hz1 := hb1.size
                    have HPx := Lib.hid hpx
                    clear hb1 hx hsc1 hpx
                    refine hK.out _ _ ?hS18 (fun hHeld => ?_)
                    case hS18 => exact fun _ => SB.out _ Bt1.out
                    replace hHeld := hHeld (by decide)
                    clear hK K
                    try simp only [Act.put, List.setIfInBounds_toArray, List.set_cons_zero, List.set_cons_succ]
                    refine wpAnyG_ready (rs := [4]) (by kernel_rfl) (by simp) ?_
                    refine readyG rfl (fun K hK => ?_) AllReadyG.nil
                    obtain ⟨u2, hu2⟩ : ∃ z, u1.alloc (.cells #[.int .i64 f'.kind, .int .i64 f'.col, .bool f'.val.1, .int .i64 f'.val.2, .slice f'.sv.A f'.sv.n f'.sv.c] 40) = z := ⟨_, rfl⟩
                    have hb2 : Below u1.heap.size u1 u2 := by rw [← hu2]; exact balloc (Below.refl _ _) _
                    have hz2 : u2.heap.size = u1.heap.size + 1 := by rw [← hu2]; simp
                    have S2 := Lib.hid (show Sl 5 feC u2 u2.heap.size (some ⟨u1.heap.size, 0, none⟩) [f'] by rw [← hu2]; exact Row.sl' (t := 40) feC_length ((Row.new u1 _ _).of rfl))
                    have Bt2 := Lib.hid (Bt1.out.below hb2)
                    have HB2x := Lib.hid (HB1x.out.below hb2)
                    have X2 := Lib.hid (X1.out.keep hb2.size fun k _ hl => hb2.block k hl)
                    have Sc2 := Lib.hid (show Sc u2 b r3 from Sc1.out.on hb2)
                    go_simp
                    try rw [hu2]
                    have Hu2 := Lib.hid hu2
                    clear hu2 hb2
                    refine hK.out _ _ ?hS19 (fun hHeld => ?_)
                    case hS19 => exact fun _ => SB.out _ Bt2.out
                    replace hHeld := hHeld (by decide)
                    clear hK K
                    try simp only [Act.put, List.setIfInBounds_toArray, List.set_cons_zero, List.set_cons_succ]
                    refine wpAnyG_ready (rs := [5]) (by kernel_rfl) (by simp) ?_
                    refine readyG rfl (fun K hK => ?_) AllReadyG.nil
                    obtain ⟨fs, hfl, how, hfx⟩ := HKd6.out.only Bt2.out (fun j (hj : j = b) => show j < L2 by omega)
                    obtain ⟨fs0, hfl0, how0, _⟩ := HKd6.out
                    have X3 := Lib.hid (X2.out.mono (T := fun k => L2 ≤ k ∧ zb ≤ k ∧ (Value.slice A1 es.length c1).ownBlock ≠ some k) fun k hk1 hk => by
                      refine ⟨by omega, by omega, fun e => ?_⟩
                      have := (how0.ty k e).2.1
                      omega)
                    refine step_app2 rfl (.tmp 67) (.tmp 70) 23 rfl L2 40 _ 5 56 feC Tryz.underlying23 zeroExT3 rfl (by decide) (by decide) feC_length feC_one _ fs rfl how (some ⟨u1.heap.size, 0, none⟩) 1 1 [f'] rfl rfl S2.out (by rw [hfl]; simp; omega) (by omega) ?_
                    intro v' u3 hown hgr hob3
                    have K3 := KdsW.snoc hfl hfx (by omega) X3.out hown hgr hob3
                    obtain ⟨A3, c3, hv3, hc31, hc32⟩ := K3.shape
                    have hti3 : (es ++ [x]).length = es.length + 1 := by simp
                    rw [hti3] at hv3 hc31
                    subst hv3
                    have hgo : ∀ k, (Value.slice A1 es.length c1).ownBlock = some k → L2 ≤ k := fun k hk => (how.ty k hk).1
                    have hgb : ∀ k, k < L2 → k < u2.heap.size → u3.heap[k]? = u2.heap[k]? := fun k hk hl => hgr.block k hl fun e => by have := hgo k e.symm; omega
                    have rr := HRo6.out.only Bt2.out (by omega)
                    have rr0 := HRr6.out.only Bt2.out (by omega)
                    have r3o := rr.keep (hgb ob (by omega) rr.lt)
                    have r03 := Lib.hid (rr0.keep (hgb w.heap.size (by omega) rr0.lt))
                    have IW3 := Lib.hid ((HIW6.out.carry (w' := u2) (T := fun k => ob < k ∧ k < L2) (fun _ _ h => h) (fun k hk hl => Bt2.out.block k hl (by omega))).carry (w' := u3) (T := fun k => ob < k ∧ k < L2) (fun _ _ h => h) (fun k hk hl => hgb k hk.2 hl))
                    have C3 : u3.cell? ⟨ob, 2, none⟩ = some (.slice A1 es.length c1) := r3o.cell 2
                    have F3 := r3o.frozen 2
                    have HB3x := Lib.hid (HB2x.out.grown hgr fun k hk => .inr (by have := hgo k hk; omega))
                    have Sc3 := Lib.hid (show Sc u3 b r3 from Sc2.out.keep (hgb b (by omega) (by omega)))
                    have Hr3' := Lib.hid r3o
                    have K3' := Lib.hid K3
                    have hgr3 := hgr.size
                    have hl3 := r3o.lt
                    clear K3 hown hgr hgo rr r3o rr0 how hfx hti3
                    refine hK.out _ _ ?hS20 (fun hHeld => ?_)
                    case hS20 => exact fun _ => C3
                    replace hHeld := hHeld (by decide)
                    clear hK K
                    try simp only [Act.put, List.setIfInBounds_toArray, List.set_cons_zero, List.set_cons_succ]
                    refine takeG (i := 6) (v := ?v21) rfl (by kernel_rfl) (by kernel_rfl) (by kernel_rfl) (by kernel_rfl) (fun _ _ _ h => h) (Or.inl ⟨by rfl, ?hy21⟩) (by assumption) ?_
                    case hy21 => ((intro w' hSw; (try dsimp only at hSw); go_simp) <;> with_reducible rfl)
                    try simp only [Act.put, List.setIfInBounds_toArray, List.set_cons_zero, List.set_cons_succ]
                    refine wpAnyG_ready (rs := [7]) (by kernel_rfl) (by simp) ?_
                    refine readyG rfl (fun K hK => ?_) AllReadyG.nil
                    go_simp
                    refine hK.out _ _ ?hS9021 (fun hHeld => ?_)
                    case hS9021 => exact fun h => absurd rfl h
                    clear hK K
                    try simp only [Act.put, List.setIfInBounds_toArray, List.set_cons_zero, List.set_cons_succ]
                    refine wpAnyG_done (by kernel_rfl) ?_ _
                    go_wp2
                    go_roundg r3.length
                    case measure =>
                      obtain ⟨a, ha⟩ := pEx_tail 8 r2 x r3 HPx.out
                      have := congrArg List.length ha
                      simp at this ⊢
                      omega
                    case rel =>
                      have hso := Only.set (S := fun k => k = ob) (p := ⟨ob, 2, none⟩) (Only.refl u3) (.inl rfl) (.slice A3 (es.length + 1) c3)
                      have k4 := K3'.out.only hso (fun j (hj : j = ob) => show j < L2 by omega)
                      have hle : r3.length ≤ r2.length := by
                        obtain ⟨a, ha⟩ := pEx_tail 8 r2 x r3 HPx.out
                        have := congrArg List.length ha
                        simp at this
                        omega
                      refine ⟨es ++ [x], A3, c3, r3, rfl, by have := HCL.out; simp at this ⊢; omega, ?_, ?_, IW3.out.carry (fun _ _ h => h) (fun k hk hl => hso.block k hl (by omega)), ⟨_, by simp only [World.setCell, Array.size_modify]; exact hgr3, by simpa using k4⟩, ?_, r03.out.only hso (show ¬ w.heap.size = ob by omega), Sc3.out.only hso (show ¬ b = ob by omega), HB3x.out.step hso (fun j hj => .inr (by omega)), by simp only [World.setCell, Array.size_modify]; omega⟩
                      · rw [HRe.out, HPx.out]
                        simp only [Option.bind, List.length_append, List.length_cons, List.length_nil]
                        rw [show l2.length + 1 - (es.length + (0 + 1)) = l2.length - es.length by omega, show ne - (es.length + (0 + 1)) = ne - es.length - 1 by omega]
                      · obtain ⟨a, ha⟩ := HTA.out
                        obtain ⟨a2, ha2⟩ := pEx_tail 8 r2 x r3 HPx.out
                        exact ⟨a ++ 32 :: a2, by rw [ha, ha2]; simp⟩
                      · have := Hr3'.out.set 2 (.slice A3 (es.length + 1) c3)
                        simpa using this
          case rest =>
            obtain ⟨es, A1, c1, l3, hRt, hta, hiw, ⟨zb, hzb, hkd⟩, hro, hrr, hsc, hb, hzw⟩ := hcut
            obtain ⟨L3, hL3⟩ : ∃ n, wc.heap.size = n := ⟨_, rfl⟩
            have HEW := Lib.hid (show ExsW 40 wc (fun k => L2 ≤ k ∧ k < L3) ⟨A1, es.length, c1⟩ es from ExsW.of hkd fun k hk1 hk2 => ⟨hk2, by omega⟩)
            have HIW := Lib.hid hiw
            obtain ⟨d1, hd1⟩ : ∃ d1, d - 1 = d1 := ⟨_, rfl⟩
            have HRt := Lib.hid (show R = (pShut (pKids (pPl d1) nk l3)).map (fun x => (Pl.mk k t es cs x.1, x.2)) by rw [hRt, ← hd1, ← HK.out.2.2]; rfl)
            have HTA := Lib.hid hta
            have HIH := Lib.hid (show 0 < nk → PPl d1 ∧ IntKind.i64.wrap ((d : Int) - 1) = (d1 : Int) from fun h0 => by
              have hdp : 0 < d := by
                rcases Nat.eq_zero_or_pos d with h | h
                · exact absurd ⟨h0, h⟩ hdeep
                · exact h
              refine ⟨IH.out d1 (by omega), ?_⟩
              rw [show (d : Int) - 1 = (d1 : Int) by omega]
              exact IntWalk.i64_in _ (by omega))
            have HO7 := Lib.hid hro
            have HR7 := Lib.hid hrr
            have H7 := Lib.hid hsc
            have HB7 := Lib.hid hb
            have hL23 : L2 ≤ L3 := by omega
            have HL3 := Lib.hid hL3
            clear hRt hta hiw hkd hro hrr hsc hb hL3 hd1 hzb hzw zb
            go_wp2
            go_loopg [74] nk (fun g iv wr => ∃ (i : Nat) (A2 : Option Addr) (c2 : Nat) (ps : List Pl) (lc : List UInt8), i ≤ nk ∧ g = nk - i ∧ iv = .int .i64 i ∧ ps.length = i ∧ (∃ z, z ≤ wr.heap.size ∧ PdsW 40 3 26 L3 z wr (.slice A2 i c2) ps) ∧ IntW 3 wr (fun k => ob < k ∧ k < L2) ⟨A, cs.length, c⟩ cs ∧ ExsW 40 wr (fun k => L2 ≤ k ∧ k < L3) ⟨A1, es.length, c1⟩ es ∧ Row wr ob 26 [.int .i64 k, .int .i64 t, .slice A1 es.length c1, .slice A cs.length c, .slice A2 i c2] ∧ Row wr w.heap.size 26 [.int .i64 0, .int .i64 0, .slice none 0 0, .slice none 0 0, .slice none 0 0] ∧ Sc wr b lc ∧ But b w wr ∧ (∃ a, restOf r = a ++ lc) ∧ L3 ≤ wr.heap.size ∧
              R = (pShut (pKids (pPl d1) (nk - i) lc)).map (fun x => (Pl.mk k t es cs (ps ++ x.1), x.2)))
            case atStart =>
              exact ⟨0, none, 0, [], l3, by omega, by omega, rfl, rfl, ⟨0, Nat.zero_le _, PdsW.nil⟩, HIW.out, HEW.out, HO7.out, HR7.out, H7.out, HB7.out, HTA.out, by have := HL3.out; omega, HRt.out⟩
            case round =>
              clear HO7 HR7 H7 HB7 HIW HEW HRt HTA
              obtain ⟨i, A2, c2, ps, lc, hi, rfl, rfl, hel, ⟨zb, hzb, hkd⟩, hiw, hew, hro, hrr, hsc, hb, hta, hzw, hRc⟩ := hrel
              have HKd := Lib.hid hkd
              have HIW := Lib.hid hiw
              have HEW := Lib.hid hew
              have HRo := Lib.hid hro
              have HRr := Lib.hid hrr
              have HScr := Lib.hid hsc
              have HB := Lib.hid hb
              have HTA := Lib.hid hta
              have HRc := Lib.hid hRc
              have Hel := Lib.hid hel
              have hlol := hro.lt
              have HIlc := Lib.hid (HIr2.out.tail hta.choose_spec)
              have hlcl : lc.length ≤ 8388608 := by have := congrArg List.length hta.choose_spec; simp at this; omega
              clear hkd hiw hew hro hrr hsc hb hta hRc hel
              by_cases hlt : i < nk
              · have hil : (i : Int) < (nk : Int) := by omega
                by_cases h32 : ∃ r2, lc = 32 :: r2
                case neg =>
                  have h32' : ∀ r2, lc ≠ 32 :: r2 := fun r2 hr2 => h32 ⟨r2, hr2⟩
                  have hRn : R = none := by rw [HRc.out, show nk - i = (nk - i - 1) + 1 by omega]; exact pKidsP_bad h32' _
                  subst hRn
                  clear h32
                  go_wp2_with fail
                  refine (skip_no HScr.out h32').mono ?_
                  rintro e w6 ⟨rfl, hb6⟩
                  exact ⟨rfl, rfl, HB.out.trans hb6⟩
                obtain ⟨r2, rfl⟩ := h32
                have HRe := Lib.hid (show R = (pPl d1 r2).bind (fun x => (pShut (pKids (pPl d1) (nk - (i + 1)) x.2)).map fun y => (Pl.mk k t es cs (ps ++ [x.1] ++ y.1), y.2)) by
                  rw [HRc.out, show nk - i = (nk - (i + 1)) + 1 by omega, pKidsP_step]
                  simp)
                have HIr3 := Lib.hid HIlc.out.cons
                have hr2l : r2.length ≤ 8388608 := by simp at hlcl; omega
                have hwd := (HIH.out (by omega)).2
                have IHd := Lib.hid (HIH.out (by omega)).1
                go_wp2_with fail
                refine (skip_yes HScr.out rfl).mono ?_
                rintro e w6 ⟨rfl, h6, hb6, hz6⟩
                have H6 := Lib.hid h6
                have HB6 := Lib.hid (HB.out.trans hb6)
                have HRo6 := Lib.hid (HRo.out.only hb6 (by omega))
                have HRr6 := Lib.hid (HRr.out.only hb6 (by omega))
                have HIW6 := Lib.hid (HIW.out.carry (w' := w6) (T := fun k => ob < k ∧ k < L2) (fun _ _ h => h) (fun k hk hl => hb6.block k hl (by omega)))
                have HEW6 := Lib.hid (HEW.out.carry (w' := w6) (T := fun k => L2 ≤ k ∧ k < L3) (fun _ _ h => h) (fun k hk hl => hb6.block k hl (by omega)))
                have HKd6 := Lib.hid (HKd.out.only hb6 (fun j (hj : j = b) => show j < L3 by omega))
                have hzw6 : L3 ≤ w6.heap.size := by omega
                have HZ6 := Lib.hid (show zb ≤ w6.heap.size by omega)
                have hlol6 := HRo6.out.lt
                clear h6 hb6 hz6
                go_wp2
                have SB := Lib.hid (fun (z : World) (hz : But b w6 z) => show z.cell? ⟨ob, 4, none⟩ = some (.slice A2 i c2) from (HRo6.out.only hz (by omega)).cell 4)
                obtain ⟨u, hu⟩ : ∃ u, w6.drew = u := ⟨_, rfl⟩
                have Bu := Lib.hid (show Below w6.heap.size w6 u from hu ▸ (Below.refl _ _).drew)
                have Hu := Lib.hid hu
                clear hu
                refine wp_region_g 9 (fun z => z.cell? ⟨ob, 4, none⟩ = some (.slice A2 i c2)) (by kernel_rfl) ?_ (fun hHeld => ?_)
                · exact SB.out _ ((Only.refl (S := fun k => k = b) w6).drew)
                rw [Hu.out] at hHeld ⊢
                refine takeG (i := 0) (v := ?v22) rfl (by kernel_rfl) (by kernel_rfl) (by kernel_rfl) (by kernel_rfl) (fun _ _ _ h => h) (Or.inl ⟨by rfl, ?hy22⟩) (by assumption) ?_
                case hy22 => ((intro w' hSw; (try dsimp only at hSw); go_simp) <;> with_reducible rfl)
                try simp only [Act.put, List.setIfInBounds_toArray, List.set_cons_zero, List.set_cons_succ]
                refine takeG (i := 1) (v := ?v23) rfl (by kernel_rfl) (by kernel_rfl) (by kernel_rfl) (by kernel_rfl) (fun _ _ _ h => h) (Or.inl ⟨by rfl, ?hy23⟩) (by assumption) ?_
                case hy23 => ((intro w' hSw; (try dsimp only at hSw); go_simp) <;> with_reducible rfl)
                try simp only [Act.put, List.setIfInBounds_toArray, List.set_cons_zero, List.set_cons_succ]
                refine takeG (i := 2) (v := ?v24) rfl (by kernel_rfl) (by kernel_rfl) (by kernel_rfl) (by kernel_rfl) (fun _ _ _ h => h) (Or.inl ⟨by rfl, ?hy24⟩) (by assumption) ?_
                case hy24 => ((intro w' hSw; (try dsimp only at hSw); go_simp) <;> with_reducible rfl)
                try simp only [Act.put, List.setIfInBounds_toArray, List.set_cons_zero, List.set_cons_succ]
                refine takeG (i := 3) (v := ?v25) rfl (by kernel_rfl) (by kernel_rfl) (by kernel_rfl) (by kernel_rfl) (fun _ _ _ h => h) (Or.inl ⟨by rfl, ?hy25⟩) (by assumption) ?_
                case hy25 => ((intro w' hSw; (try dsimp only at hSw); go_simp) <;> with_reducible rfl)
                try simp only [Act.put, List.setIfInBounds_toArray, List.set_cons_zero, List.set_cons_succ]
                refine takeG (i := 4) (v := ?v26) rfl (by kernel_rfl) (by kernel_rfl) (by kernel_rfl) (by kernel_rfl) (fun _ _ _ h => h) (Or.inl ⟨by rfl, ?hy26⟩) (by assumption) ?_
                case hy26 => ((intro w' hSw; (try dsimp only at hSw); go_simp) <;> with_reducible rfl)
                try simp only [Act.put, List.setIfInBounds_toArray, List.set_cons_zero, List.set_cons_succ]
                refine wpAnyG_ready (rs := [5]) (by kernel_rfl) (by simp) ?_
                refine readyG rfl (fun K hK => ?_) AllReadyG.nil
                go_simp
                go_at_call 30
                refine (IHd.out b lo r2 u (H6.out.on Bu.out) HIr3.out hr2l (HT.out.on (LOW.out _ (HB6.out.below Bu.out))) (HV.out.on (LOW.out _ (HB6.out.below Bu.out))) hlo).mono ?_
                rintro e u1 hp
                unfold PPost at hp
                cases hpx : pPl d1 r2 with
                | none =>
                  rw [hpx] at hp
                  obtain ⟨rfl, hb1⟩ := hp
                  have hRn : R = none := by rw [HRe.out, hpx]; rfl
                  subst hRn
                  exact ⟨rfl, rfl, (HB6.out.below Bu.out).trans hb1⟩
                | some y =>
                  obtain ⟨x, r3⟩ := y
                  rw [hpx] at hp
                  obtain ⟨f', he, hx, hsc1, hb1⟩ := hp
                  unfold fpV at he
                  subst he
                  have hb1 : But b u u1 := hb1
                  have Bt1 := Lib.hid ((only_below (S := fun k => k = b) Bu.out).trans hb1)
                  have HB1x := Lib.hid (HB6.out.trans Bt1.out)
                  have X1 := Lib.hid hx
                  have Sc1 := Lib.hid (show Sc u1 b r3 from hsc1)
                  have hz0 := Bu.out.size
                  have hz00 := HZ6.out
                  have hz1 := hb1.size
                  have HPx := Lib.hid hpx
                  clear hb1 hx hsc1 hpx
                  refine hK.out _ _ ?hS27 (fun hHeld => ?_)
                  case hS27 => exact fun _ => SB.out _ Bt1.out
                  replace hHeld := hHeld (by decide)
                  clear hK K
                  try simp only [Act.put, List.setIfInBounds_toArray, List.set_cons_zero, List.set_cons_succ]
                  refine wpAnyG_ready (rs := [6]) (by kernel_rfl) (by simp) ?_
                  refine readyG rfl (fun K hK => ?_) AllReadyG.nil
                  obtain ⟨u2, hu2⟩ : ∃ z, u1.alloc (.cells #[.int .i64 f'.kind, .int .i64 f'.table, .slice f'.es.A f'.es.n f'.es.c, .slice f'.cs.A f'.cs.n f'.cs.c, .slice f'.ks.A f'.ks.n f'.ks.c] 26) = z := ⟨_, rfl⟩
                  have hb2 : Below u1.heap.size u1 u2 := by rw [← hu2]; exact balloc (Below.refl _ _) _
                  have hz2 : u2.heap.size = u1.heap.size + 1 := by rw [← hu2]; simp
                  have S2 := Lib.hid (show Sl 5 fpC u2 u2.heap.size (some ⟨u1.heap.size, 0, none⟩) [f'] by rw [← hu2]; exact Row.sl' (t := 26) fpC_length ((Row.new u1 _ _).of rfl))
                  have Bt2 := Lib.hid (Bt1.out.below hb2)
                  have HB2x := Lib.hid (HB1x.out.below hb2)
                  have X2 := Lib.hid (X1.out.keep hb2.size fun k _ hl => hb2.block k hl)
                  have Sc2 := Lib.hid (show Sc u2 b r3 from Sc1.out.on hb2)
                  go_simp
                  try rw [hu2]
                  have Hu2 := Lib.hid hu2
                  clear hu2 hb2
                  refine hK.out _ _ ?hS28 (fun hHeld => ?_)
                  case hS28 => exact fun _ => SB.out _ Bt2.out
                  replace hHeld := hHeld (by decide)
                  clear hK K
                  try simp only [Act.put, List.setIfInBounds_toArray, List.set_cons_zero, List.set_cons_succ]
                  refine wpAnyG_ready (rs := [7]) (by kernel_rfl) (by simp) ?_
                  refine readyG rfl (fun K hK => ?_) AllReadyG.nil
                  obtain ⟨fs, hfl, how, hfx⟩ := HKd6.out.only Bt2.out (fun j (hj : j = b) => show j < L3 by omega)
                  obtain ⟨fs0, hfl0, how0, _⟩ := HKd6.out
                  have hfli : fs.length = i := hfl.trans Hel.out
                  have X3 := Lib.hid (X2.out.mono (T := fun k => L3 ≤ k ∧ zb ≤ k ∧ (Value.slice A2 i c2).ownBlock ≠ some k) fun k hk1 hk => by
                    refine ⟨by omega, by omega, fun e => ?_⟩
                    have := (how0.ty k e).2.1
                    omega)
                  refine step_app3 rfl (.tmp 79) (.tmp 84) 24 rfl L3 26 _ 5 88 fpC Tryz.underlying24 zeroPlT4 rfl (by decide) (by decide) fpC_length fpC_one _ fs rfl how (some ⟨u1.heap.size, 0, none⟩) 1 1 [f'] rfl rfl S2.out (by rw [hfli]; simp; omega) (by omega) ?_
                  intro v' u3 hown hgr hob3
                  have K3 := PdsW.snoc hfl hfx (by omega) X3.out hown hgr hob3
                  obtain ⟨A3, c3, hv3, hc31, hc32⟩ := K3.shape
                  have hti3 : (ps ++ [x]).length = i + 1 := by have := Hel.out; simp; omega
                  rw [hti3] at hv3 hc31
                  subst hv3
                  have hgo : ∀ k, (Value.slice A2 i c2).ownBlock = some k → L3 ≤ k := fun k hk => (how.ty k hk).1
                  have hgb : ∀ k, k < L3 → k < u2.heap.size → u3.heap[k]? = u2.heap[k]? := fun k hk hl => hgr.block k hl fun e => by have := hgo k e.symm; omega
                  have rr := HRo6.out.only Bt2.out (by omega)
                  have rr0 := HRr6.out.only Bt2.out (by omega)
                  have r3o := rr.keep (hgb ob (by omega) rr.lt)
                  have r03 := Lib.hid (rr0.keep (hgb w.heap.size (by omega) rr0.lt))
                  have IW3 := Lib.hid ((HIW6.out.carry (w' := u2) (T := fun k => ob < k ∧ k < L2) (fun _ _ h => h) (fun k hk hl => Bt2.out.block k hl (by omega))).carry (w' := u3) (T := fun k => ob < k ∧ k < L2) (fun _ _ h => h) (fun k hk hl => hgb k (by omega) hl))
                  have EW3 := Lib.hid ((HEW6.out.carry (w' := u2) (T := fun k => L2 ≤ k ∧ k < L3) (fun _ _ h => h) (fun k hk hl => Bt2.out.block k hl (by omega))).carry (w' := u3) (T := fun k => L2 ≤ k ∧ k < L3) (fun _ _ h => h) (fun k hk hl => hgb k (by omega) hl))
                  have C3 : u3.cell? ⟨ob, 4, none⟩ = some (.slice A2 i c2) := r3o.cell 4
                  have F3 := r3o.frozen 4
                  have HB3x := Lib.hid (HB2x.out.grown hgr fun k hk => .inr (by have := hgo k hk; omega))
                  have Sc3 := Lib.hid (show Sc u3 b r3 from Sc2.out.keep (hgb b (by omega) (by omega)))
                  have Hr3' := Lib.hid r3o
                  have K3' := Lib.hid K3
                  have hgr3 := hgr.size
                  have hl3 := r3o.lt
                  clear K3 hown hgr hgo rr r3o rr0 how hfx hti3
                  refine hK.out _ _ ?hS29 (fun hHeld => ?_)
                  case hS29 => exact fun _ => C3
                  replace hHeld := hHeld (by decide)
                  clear hK K
                  try simp only [Act.put, List.setIfInBounds_toArray, List.set_cons_zero, List.set_cons_succ]
                  refine takeG (i := 8) (v := ?v30) rfl (by kernel_rfl) (by kernel_rfl) (by kernel_rfl) (by kernel_rfl) (fun _ _ _ h => h) (Or.inl ⟨by rfl, ?hy30⟩) (by assumption) ?_
                  case hy30 => ((intro w' hSw; (try dsimp only at hSw); go_simp) <;> with_reducible rfl)
                  try simp only [Act.put, List.setIfInBounds_toArray, List.set_cons_zero, List.set_cons_succ]
                  refine wpAnyG_ready (rs := [9]) (by kernel_rfl) (by simp) ?_
                  refine readyG rfl (fun K hK => ?_) AllReadyG.nil
                  go_simp
                  refine hK.out _ _ ?hS9777 (fun hHeld => ?_)
                  case hS9777 => exact fun h => absurd rfl h
                  clear hK K
                  try simp only [Act.put, List.setIfInBounds_toArray, List.set_cons_zero, List.set_cons_succ]
                  refine wpAnyG_done (by kernel_rfl) ?_ _
                  go_wp2
                  go_roundg (nk - (i + 1))
                  case measure => omega
                  case rel =>
                    have hso := Only.set (S := fun k => k = ob) (p := ⟨ob, 4, none⟩) (Only.refl u3) (.inl rfl) (.slice A3 (i + 1) c3)
                    have k4 := K3'.out.only hso (fun j (hj : j = ob) => show j < L3 by omega)
                    refine ⟨i + 1, A3, c3, ps ++ [x], r3, by omega, by omega, by go_num, by have := Hel.out; simp; omega, ⟨_, by simp only [World.setCell, Array.size_modify]; exact hgr3, k4⟩, IW3.out.carry (fun _ _ h => h) (fun k hk hl => hso.block k hl (by omega)), EW3.out.carry (fun _ _ h => h) (fun k hk hl => hso.block k hl (by omega)), Hr3'.out.set 4 _, r03.out.only hso (show ¬ w.heap.size = ob by omega), Sc3.out.only hso (show ¬ b = ob by omega), HB3x.out.step hso (fun j hj => .inr (by omega)), ?_, by simp only [World.setCell, Array.size_modify]; omega, ?_⟩
                    · obtain ⟨a, ha⟩ := HTA.out
                      obtain ⟨a2, ha2⟩ := pPl_tail d1 r2 x r3 HPx.out
                      exact ⟨a ++ 32 :: a2, by rw [ha, ha2]; simp⟩
                    · rw [HRe.out, HPx.out]
                      rfl
              · have hil : ¬ (i : Int) < (nk : Int) := by omega
                have hie : i = nk := by omega
                subst hie
                have HRk := Lib.hid (show R = (pShut (some (([] : List Pl), lc))).map (fun x => (Pl.mk k t es cs (ps ++ x.1), x.2)) by rw [HRc.out, Nat.sub_self]; rfl)
                by_cases h41 : ∃ r2, lc = 41 :: r2
                case neg =>
                  have h41' : ∀ r2, lc ≠ 41 :: r2 := fun r2 hr2 => h41 ⟨r2, hr2⟩
                  have hRn : R = none := by
                    rw [HRk.out]
                    cases lc with
                    | nil => rfl
                    | cons c0 r2 =>
                      have : ¬ c0 = 41 := fun e => h41' r2 (by rw [e])
                      simp [this, pShut]
                  subst hRn
                  clear h41
                  go_wp2_with fail
                  refine (skip_no HScr.out h41').mono ?_
                  rintro e w6 ⟨rfl, hb6⟩
                  exact ⟨rfl, rfl, HB.out.trans hb6⟩
                obtain ⟨r2, rfl⟩ := h41
                have hRn : R = some (.mk k t es cs ps, r2) := by rw [HRk.out]; simp [pShut]
                subst hRn
                go_wp2_with fail
                refine (skip_yes HScr.out rfl).mono ?_
                rintro e w6 ⟨rfl, h6, hb6, hz6⟩
                have H6 := Lib.hid h6
                have HB6 := Lib.hid (HB.out.trans hb6)
                have hro := HRo.out.only hb6 (by omega)
                have hrow := HRr.out.only hb6 (by omega)
                have HIW6 := Lib.hid (HIW.out.carry (w' := w6) (T := fun k => ob < k ∧ k < L2) (fun _ _ h => h) (fun k hk hl => hb6.block k hl (by omega)))
                have HEW6 := Lib.hid (HEW.out.carry (w' := w6) (T := fun k => L2 ≤ k ∧ k < L3) (fun _ _ h => h) (fun k hk hl => hb6.block k hl (by omega)))
                have HKd6 := Lib.hid (HKd.out.only hb6 (fun j (hj : j = b) => show j < L3 by omega))
                have a0 := hro.cell 0
                have a1 := hro.cell 1
                have a2 := hro.cell 2
                have a3 := hro.cell 3
                have a4 := hro.cell 4
                have c0 := hrow.cell 0
                have c1' := hrow.cell 1
                have c2' := hrow.cell 2
                have c3 := hrow.cell 3
                have c4 := hrow.cell 4
                have f0 := hrow.frozen 0
                have f1 := hrow.frozen 1
                have f2 := hrow.frozen 2
                have f3 := hrow.frozen 3
                have f4 := hrow.frozen 4
                have hl3 := hrow.lt
                clear h6 hb6 hz6 hro hrow
                go_wp2
                have hO := set5 w6 w.heap.size (.int .i64 k) (.int .i64 t) (.slice A1 es.length c1) (.slice A cs.length c) (.slice A2 i c2)
                refine bodyPost_ret (v := fpV ⟨k, t, ⟨A1, es.length, c1⟩, ⟨A, cs.length, c⟩, ⟨A2, i, c2⟩⟩) (by simp [results, Tryz.results30, go_sem, fpV, c0, c1', c2', c3, c4]) rfl ⟨_, rfl, ?_, ?_, ?_⟩
                · exact PlW.make (HEW6.out.carry (T := fun k => L2 ≤ k ∧ k < L3) (fun _ _ h => h) (fun k hk hl => hO.block k hl (by show ¬ k = w.heap.size; omega))) (HIW6.out.carry (T := fun k => ob < k ∧ k < L2) (fun _ _ h => h) (fun k hk hl => hO.block k hl (by show ¬ k = w.heap.size; omega))) (HKd6.out.only hO (fun j (hj : j = w.heap.size) => show j < L3 by omega))
                    (fun k hk => by show w.heap.size ≤ k; omega) (fun k hk => by show w.heap.size ≤ k; omega) (fun k _ hk => by show w.heap.size ≤ k; omega) (fun k hk hk2 => by omega) (fun k hk => by omega) (fun k hk => by omega)
                · exact H6.out.only hO (by omega)
                · exact HB6.out.step hO fun j hj => .inr (by omega)
theorem scPlan_ok : ∀ d : Nat, d ≤ 8 → PPl d
  | 0, h => scPlan_of 0 h fun d' hd => by omega
  | d + 1, h => scPlan_of (d + 1) h fun d' hd => by
    obtain rfl : d' = d := by omega
    exact scPlan_ok d' (by omega)
end Go.Proofs.YtmhlpjfijpomkaaGreatDoor
