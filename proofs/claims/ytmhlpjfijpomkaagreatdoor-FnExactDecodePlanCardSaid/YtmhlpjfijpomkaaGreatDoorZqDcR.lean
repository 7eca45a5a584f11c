/-
  How the program reads a plan, in plain Lean; what it reads is what was written.
-/
import Derived.Test.YtmhlpjfijpomkaaGreatDoorZqDcE
namespace Go.Qo
open Go.RowKit
set_option linter.unusedVariables false
set_option linter.unusedSimpArgs false

/-- Plans that have a text of their own: short, and a projection has something to project. -/
inductive RdOk : Nat → Pl → Prop where
  | mk {d : Nat} {p : Pl} (ht : TxOk d p) (h3 : p.kind = 3 → p.exprs ≠ []) (hks : ∀ x, x ∈ p.kids → RdOk (d - 1) x) : RdOk d p
theorem rdOk_iff {d : Nat} {p : Pl} : RdOk d p ↔ TxOk d p ∧ (p.kind = 3 → p.exprs ≠ []) ∧ ∀ x ∈ p.kids, RdOk (d - 1) x :=
  ⟨fun h => by cases h with | mk a b c => exact ⟨a, b, c⟩, fun ⟨a, b, c⟩ => .mk a b c⟩
theorem plW_rd {ws : List Int} (hwl : ws.length ≤ 4) (hws : ∀ x ∈ ws, 1 ≤ x ∧ x ≤ 6) : ∀ (d : Nat) (p : Pl), plW ws d p ≠ 0 → RdOk d p
  | d, p, h => by
    refine .mk (plW_tx hwl hws d p h) (fun h3 he => ?_) fun x hx => plW_rd hwl hws (d - 1) x (by
      obtain ⟨_, k, hk, hv⟩ := plW_kids h hx
      rw [hk]
      exact hv)
    have hz : ∀ a b, topW ws p a b = 0 := fun a b => by
      unfold topW
      rw [if_neg (by omega), if_neg (by omega), if_pos h3, he]
      split <;> rfl
    apply h
    cases d <;> unfold plW <;> split <;> first | exact hz _ _ | rfl
termination_by _ x => SizeOf.sizeOf x
decreasing_by exact Pl.kid_lt hx

/-- Two bytes that come next. -/
def strip2 (a b : UInt8) : List UInt8 → Option (List UInt8)
  | c :: d :: r => if c = a ∧ d = b then some r else none
  | _ => none
theorem strip2_yes (a b : UInt8) (r : List UInt8) : strip2 a b (a :: b :: r) = some r := by simp [strip2]
theorem strip2_some {a b : UInt8} {l r : List UInt8} (h : strip2 a b l = some r) : l = a :: b :: r := by
  match l with
  | [] => simp [strip2] at h
  | [c] => simp [strip2] at h
  | c :: d :: r' =>
    simp only [strip2] at h
    split at h
    · rename_i hc
      cases h
      rw [hc.1, hc.2]
    · cases h
theorem strip2_none {a b : UInt8} {l : List UInt8} (h : strip2 a b l = none) : ∀ r, l ≠ a :: b :: r := fun r e => by rw [e, strip2_yes] at h; cases h
def isPl (l : List UInt8) : Bool := match l with
  | [] => false
  | c :: r => if c = 40 then (kindOf plName 1 8 (wordOf r)).isSome else false
def atPl (l : List UInt8) : Bool := match strip2 32 40 l with
  | some r => (kindOf plName 1 8 (wordOf r)).isSome
  | none => false
def pCols : Nat → List UInt8 → Option (List Int × List UInt8)
  | 0, l => some ([], l)
  | n + 1, l => match strip2 32 35 l with
    | none => some ([], l)
    | some r => match pIdx r with
      | none => none
      | some (x, r') => match pCols n r' with
        | none => none
        | some (xs, r'') => some (x :: xs, r'')
def pExs : Nat → Nat → Bool → List UInt8 → Option (List Ex × List UInt8)
  | 0, _, _, _ => none
  | n + 1, need, pr, l => if 0 < need ∨ (pr = true ∧ atPl l = false) then
      (match l with
      | [] => none
      | c :: r => if c = 32 then (match pEx 8 r with
        | none => none
        | some (x, r') => match pExs n (need - 1) pr r' with
          | none => none
          | some (xs, r'') => some (x :: xs, r'')) else none)
    else some ([], l)
def nex1 (k : Int) : Nat := if k = 2 ∨ k = 3 ∨ k = 4 ∨ k = 5 then 1 else 0
def pTab (k : Int) (l : List UInt8) : Option (Int × List UInt8) := if k = 1 then (match l with
  | [] => none
  | c :: r => if c = 32 then pIdx r else none) else some (0, l)
def pCls (k : Int) (l : List UInt8) : Option (List Int × List UInt8) := if k = 8 then pCols l.length l else some ([], l)
def pEnd (k : Int) (kid : List UInt8 → Option (Pl × List UInt8)) (t : Int) (cs : List Int) (es : List Ex) (l : List UInt8) : Option (Pl × List UInt8) :=
  (pShut (pKids kid (nkids k).toNat l)).map fun x => (.mk k t es cs x.1, x.2)
def pBody (kid : List UInt8 → Option (Pl × List UInt8)) (deep : Bool) (l : List UInt8) : Option (Pl × List UInt8) := match l with
  | [] => none
  | c :: r => if c = 40 then (match kindOf plName 1 8 (wordOf r) with
    | none => none
    | some k => if 0 < nkids k ∧ deep = false then none else
      match pTab k (restOf r) with
      | none => none
      | some (t, r1) => match pCls k r1 with
        | none => none
        | some (cs, r2) => match pExs (r2.length + 1) (nex1 k) (decide (k = 3)) r2 with
          | none => none
          | some (es, r3) => pEnd k kid t cs es r3) else none
def pPl : Nat → List UInt8 → Option (Pl × List UInt8)
  | 0 => pBody (fun _ => none) false
  | d + 1 => pBody (pPl d) true

/-! ### What is read is what was written -/
theorem pKids_textA {α : Type} {tx : α → List UInt8} {txs : List α → List UInt8} (hnil : txs [] = []) (hcons : ∀ x xs, txs (x :: xs) = 32 :: (tx x ++ txs xs)) {p : List UInt8 → Option (α × List UInt8)} :
    ∀ (es : List α) (rest : List UInt8), Delim rest → (∀ x ∈ es, ∀ r, Delim r → p (tx x ++ r) = some (x, r)) → pKids p es.length (txs es ++ rest) = some (es, rest)
  | [], rest, _, _ => by rw [hnil]; rfl
  | x :: es, rest, hd, hp => by
    have h1 : txs (x :: es) ++ rest = 32 :: (tx x ++ (txs es ++ rest)) := by rw [hcons]; simp
    have hd1 : Delim (txs es ++ rest) := by
      cases es with
      | nil => rw [hnil]; simpa using hd
      | cons y ys => rw [hcons, List.cons_append]; exact Delim.cons (by decide)
    have ih := pKids_textA hnil hcons es rest hd fun y hy => hp y (List.mem_cons_of_mem _ hy)
    rw [h1, List.length_cons]
    unfold pKids
    simp [hp x (List.mem_cons_self ..) _ hd1, ih]
theorem exsText_delim {es : List Ex} {rest : List UInt8} (h : Delim rest) : Delim (exsText es ++ rest) := by
  cases es with
  | nil => simpa [exsText] using h
  | cons y ys => simp only [exsText, List.cons_append]; exact Delim.cons (by decide)
theorem plsText_delim {es : List Pl} {rest : List UInt8} (h : Delim rest) : Delim (plsText es ++ rest) := by
  cases es with
  | nil => simpa [plsText] using h
  | cons y ys => simp only [plsText, List.cons_append]; exact Delim.cons (by decide)
theorem colsText_delim {cs : List Int} {rest : List UInt8} (h : Delim rest) : Delim (colsText cs ++ rest) := by
  cases cs with
  | nil => simpa [colsText] using h
  | cons y ys => simp only [colsText, List.cons_append]; exact Delim.cons (by decide)
theorem tabText_delim {k t : Int} {rest : List UInt8} (h : Delim rest) : Delim (tabText k t ++ rest) := by
  unfold tabText
  split
  · rw [List.cons_append]; exact Delim.cons (by decide)
  · simpa using h
/-- Behind a column come no '#'. -/
def NoCol (l : List UInt8) : Prop := strip2 32 35 l = none
theorem pIdx_itoa (n : Int) (h : 0 ≤ n ∧ n ≤ 1000) {r : List UInt8} (hd : Delim r) : pIdx (Lib.itoa n ++ r) = some (n, r) := by
  obtain ⟨w1, w2⟩ := wordOf_app (itoa_noDel n) hd
  unfold pIdx
  rw [w1, w2, atoi_itoa n (by omega) (by omega)]
theorem pCols_text : ∀ (cs : List Int) (n : Nat) (rest : List UInt8), cs.length ≤ n → Delim rest → NoCol rest → (∀ c ∈ cs, 0 ≤ c ∧ c ≤ 1000) → pCols n (colsText cs ++ rest) = some (cs, rest)
  | [], n, rest, _, _, hn, _ => by
    rw [show colsText [] ++ rest = rest by simp [colsText]]
    cases n with
    | zero => rfl
    | succ n => unfold pCols; rw [hn]
  | c :: cs, 0, rest, hl, _, _, _ => by simp at hl
  | c :: cs, n + 1, rest, hl, hd, hn, hc => by
    have e : colsText (c :: cs) ++ rest = 32 :: 35 :: (Lib.itoa c ++ (colsText cs ++ rest)) := by simp [colsText]
    have ih := pCols_text cs n rest (by simp at hl; omega) hd hn fun x hx => hc x (List.mem_cons_of_mem _ hx)
    rw [e]
    unfold pCols
    rw [strip2_yes]
    dsimp only
    rw [pIdx_itoa c (hc c (List.mem_cons_self ..)) (colsText_delim hd)]
    dsimp only
    rw [ih]
theorem exText_noPl (x : Ex) {d : Int} (h : ExOk 6 d x) (rest : List UInt8) (hd : Delim rest) : atPl (32 :: (exText x ++ rest)) = false := by
  obtain ⟨h1, h2, h3, h4⟩ := exOk_iff.1 h
  have htx := exText_eq x
  unfold atPl
  cases hs : strip2 32 40 (32 :: (exText x ++ rest)) with
  | none => rfl
  | some r =>
    have hs := strip2_some hs
    have hs2 : exText x ++ rest = 40 :: r := by simpa using hs
    dsimp only
    by_cases k1 : x.kind = 1
    · rw [if_pos k1] at htx
      rw [htx] at hs2
      simp at hs2
    · rw [if_neg k1] at htx
      by_cases k2 : x.kind = 2
      · rw [if_pos k2] at htx
        obtain ⟨a, q, he, ha1, ha2, _, _⟩ := valText_head (v := x.val)
        rw [htx, he] at hs2
        have : a = 40 := by simpa using congrArg List.head? hs2
        exact absurd (by rw [this]; rfl) ha2
      · rw [if_neg k2] at htx
        have hkr : 3 ≤ x.kind ∧ x.kind ≤ 11 := by
          unfold kidsK at h1
          rw [if_neg (by omega)] at h1
          split at h1
          · omega
          · split at h1 <;> omega
        have hr : r = opText x.kind ++ (exsText x.kids ++ (41 :: rest)) := by
          rw [htx] at hs2
          simpa using hs2.symm
        obtain ⟨w1, w2⟩ := wordOf_app (opText_noDel x.kind) (exsText_delim (es := x.kids) (Delim.cons (c := 41) (l := rest) (by decide)))
        rw [hr, w1]
        have hno : ∀ (n : Nat) (lo : Int), 1 ≤ lo → lo + n ≤ 9 → kindOf plName lo n (opText x.kind) = none := by
          intro n
          induction n with
          | zero => exact fun _ _ _ => rfl
          | succ n ih =>
            intro lo h5 h6
            unfold kindOf
            rw [if_neg (name_apart (by omega) (by omega)), ih (lo + 1) (by omega) (by omega)]
        rw [hno 8 1 (by omega) (by omega)]
        rfl
theorem pExs_text (pr : Bool) : ∀ (es : List Ex) (n need : Nat) (rest : List UInt8), es.length < n → Delim rest → need ≤ es.length → (pr = false → need = es.length) → (pr = true → atPl rest = true) → (∀ x ∈ es, ExOk 6 8 x) → pExs n need pr (exsText es ++ rest) = some (es, rest)
  | [], 0, need, rest, hl, _, _, _, _, _ => by simp at hl
  | [], n + 1, need, rest, hl, hd, hn, hf, ht, he => by
    rw [show exsText [] ++ rest = rest by simp [exsText]]
    unfold pExs
    rw [if_neg]
    rintro (h | ⟨h1, h2⟩)
    · simp at hn; omega
    · rw [ht h1] at h2; cases h2
  | x :: es, 0, need, rest, hl, _, _, _, _, _ => by simp at hl
  | x :: es, n + 1, need, rest, hl, hd, hn, hf, ht, he => by
    have e : exsText (x :: es) ++ rest = 32 :: (exText x ++ (exsText es ++ rest)) := by simp [exsText]
    have hx := he x (List.mem_cons_self ..)
    have hd1 := exsText_delim (es := es) hd
    have ih := pExs_text pr es n (need - 1) rest (by simp at hl; omega) hd (by simp at hn; omega) (fun h => by have := hf h; simp at this; omega) ht fun y hy => he y (List.mem_cons_of_mem _ hy)
    rw [e]
    unfold pExs
    rw [if_pos (by
      cases pr
      · left; have := hf rfl; simp at this; omega
      · exact .inr ⟨rfl, exText_noPl x hx _ hd1⟩)]
    simp only [if_true, pEx_text 8 x _ hx hd1, ih]
theorem plText_at (p : Pl) (h : OnlyF p) (rest : List UInt8) : atPl (32 :: (plText p ++ rest)) = true ∧ isPl (plText p ++ rest) = true ∧ wordOf (plText p ++ rest).tail = plName p.kind ∧ kindOf plName 1 8 (plName p.kind) = some p.kind := by
  obtain ⟨hk, _⟩ := h
  have hd : Delim (tabText p.kind p.table ++ (colsText p.cols ++ (exsText p.exprs ++ (plsText p.kids ++ (41 :: rest))))) :=
    tabText_delim (colsText_delim (exsText_delim (plsText_delim (Delim.cons (by decide)))))
  have e : plText p ++ rest = 40 :: (plName p.kind ++ (tabText p.kind p.table ++ (colsText p.cols ++ (exsText p.exprs ++ (plsText p.kids ++ (41 :: rest)))))) := by rw [plText_eq]; simp
  obtain ⟨w1, w2⟩ := wordOf_app (plName_noDel p.kind) hd
  have hkd := kindOf_at (nm := plName) 8 1 p.kind hk.1 (by omega) fun j h5 h6 h7 => plName_inj (by omega) (by omega) h7
  refine ⟨?_, ?_, ?_, hkd⟩
  · rw [e]
    unfold atPl
    rw [strip2_yes]
    dsimp only
    rw [w1, hkd]
    rfl
  · rw [e]
    unfold isPl
    dsimp only
    rw [if_pos rfl, w1, hkd]
    rfl
  · rw [e, List.tail_cons, w1]
theorem noCol_41 (rest : List UInt8) : NoCol (41 :: rest) := by
  unfold NoCol strip2
  cases rest <;> simp
theorem noCol_pls {ps : List Pl} (rest : List UInt8) : NoCol (plsText ps ++ 41 :: rest) := by
  cases ps with
  | nil => rw [show plsText [] = [] by simp [plsText], List.nil_append]; exact noCol_41 rest
  | cons x xs =>
    have e : plsText (x :: xs) ++ 41 :: rest = 32 :: (plText x ++ (plsText xs ++ 41 :: rest)) := by simp [plsText]
    rw [e, plText_eq, List.cons_append]
    unfold NoCol strip2
    simp
theorem colsText_len1 : ∀ cs : List Int, cs.length ≤ (colsText cs).length
  | [] => by simp [colsText]
  | c :: cs => by have := colsText_len1 cs; simp [colsText]; omega
theorem exsText_len1 : ∀ es : List Ex, es.length ≤ (exsText es).length
  | [] => by simp [exsText]
  | x :: es => by have := exsText_len1 es; simp [exsText]; omega
theorem only_nex {p : Pl} (h : OnlyF p) (h3 : p.kind = 3 → p.exprs ≠ []) : nex1 p.kind ≤ p.exprs.length ∧ (p.kind ≠ 3 → nex1 p.kind = p.exprs.length) := by
  obtain ⟨hk, h2, h4, _⟩ := h
  unfold nexprs at h4
  unfold nex1
  by_cases k3 : p.kind = 3
  · have hp : 0 < p.exprs.length := List.length_pos_iff.2 (h3 k3)
    rw [if_pos (by omega)]
    exact ⟨by omega, fun h => absurd k3 h⟩
  · by_cases k2 : p.kind = 2 ∨ p.kind = 4 ∨ p.kind = 5
    · rw [if_pos k2] at h4
      rw [if_pos (by omega)]
      omega
    · rw [if_neg k2, if_neg k3] at h4
      rw [if_neg (by omega)]
      omega
/-- WHAT IS READ IS WHAT WAS WRITTEN. -/
theorem pPl_text : ∀ (d : Nat) (p : Pl) (rest : List UInt8), RdOk d p → Delim rest → pPl d (plText p ++ rest) = some (p, rest) := by
  have core : ∀ (d : Nat) (kid : List UInt8 → Option (Pl × List UInt8)) (deep : Bool) (p : Pl) (rest : List UInt8), RdOk d p → Delim rest → (0 < p.kids.length → deep = true) →
      (∀ x ∈ p.kids, ∀ r, Delim r → kid (plText x ++ r) = some (x, r)) → pBody kid deep (plText p ++ rest) = some (p, rest) := by
    intro d kid deep p rest h hd hdp hkid
    obtain ⟨htx, h3, hks⟩ := rdOk_iff.1 h
    obtain ⟨ho, he, hc, ht, hx, hcs, hdk, _⟩ := txOk_iff.1 htx
    obtain ⟨_, _, hw, hkd⟩ := plText_at p ho rest
    have hd4 : Delim (plsText p.kids ++ (41 :: rest)) := plsText_delim (Delim.cons (by decide))
    have hd3 := exsText_delim (es := p.exprs) hd4
    have hd2 := colsText_delim (cs := p.cols) hd3
    have hd1 := tabText_delim (k := p.kind) (t := p.table) hd2
    obtain ⟨w1, w2⟩ := wordOf_app (plName_noDel p.kind) hd1
    have e : plText p ++ rest = 40 :: (plName p.kind ++ (tabText p.kind p.table ++ (colsText p.cols ++ (exsText p.exprs ++ (plsText p.kids ++ (41 :: rest)))))) := by rw [plText_eq]; simp
    obtain ⟨n1, n2⟩ := only_nex ho h3
    have hpk := pKids_textA (tx := plText) (txs := plsText) (by rw [plsText]) (fun x xs => by rw [plsText]) (p := kid) p.kids (41 :: rest) (Delim.cons (by decide)) hkid
    obtain ⟨hk, h2, h4, h5, h6⟩ := ho
    have hnk : (nkids p.kind).toNat = p.kids.length := by omega
    have hT : pTab p.kind (tabText p.kind p.table ++ (colsText p.cols ++ (exsText p.exprs ++ (plsText p.kids ++ (41 :: rest))))) = some (p.table, colsText p.cols ++ (exsText p.exprs ++ (plsText p.kids ++ (41 :: rest)))) := by
      unfold pTab tabText
      by_cases k1 : p.kind = 1
      · rw [if_pos k1, if_pos k1, List.cons_append]
        dsimp only
        rw [if_pos rfl, pIdx_itoa p.table ht hd2]
      · rw [if_neg k1, if_neg k1, List.nil_append]
        have : p.table = 0 := by omega
        rw [this]
    have hC : pCls p.kind (colsText p.cols ++ (exsText p.exprs ++ (plsText p.kids ++ (41 :: rest)))) = some (p.cols, exsText p.exprs ++ (plsText p.kids ++ (41 :: rest))) := by
      unfold pCls
      by_cases k8 : p.kind = 8
      · have he0 : p.exprs = [] := List.length_eq_zero_iff.1 (by unfold nexprs at h4; rw [if_neg (by omega), if_neg (by omega)] at h4; omega)
        rw [if_pos k8]
        refine pCols_text p.cols _ _ (by have := colsText_len1 p.cols; simp; omega) hd3 ?_ hcs
        rw [he0, show exsText [] = [] by simp [exsText], List.nil_append]
        exact noCol_pls rest
      · have hc0 : p.cols = [] := List.length_eq_zero_iff.1 (by omega)
        rw [if_neg k8, hc0]
        simp [colsText]
    have hE : pExs ((exsText p.exprs ++ (plsText p.kids ++ (41 :: rest))).length + 1) (nex1 p.kind) (decide (p.kind = 3)) (exsText p.exprs ++ (plsText p.kids ++ (41 :: rest))) = some (p.exprs, plsText p.kids ++ (41 :: rest)) := by
      refine pExs_text _ p.exprs _ _ _ (by have := exsText_len1 p.exprs; simp; omega) hd4 n1 (fun h => n2 (by simpa using h)) (fun h => ?_) hx
      have k3 : p.kind = 3 := by simpa using h
      match hq : p.kids with
      | [] => rw [hq, k3] at h2; simp [nkids] at h2
      | x :: xs =>
        have hxo := (txOk_iff.1 (rdOk_iff.1 (hks x (by rw [hq]; exact List.mem_cons_self ..))).1).1
        have := (plText_at x hxo (plsText xs ++ 41 :: rest)).1
        rw [show plsText (x :: xs) ++ 41 :: rest = 32 :: (plText x ++ (plsText xs ++ 41 :: rest)) by simp [plsText]]
        exact this
    rw [e]
    unfold pBody
    dsimp only
    rw [if_pos rfl, w1, w2, hkd]
    dsimp only
    rw [if_neg (by
      rintro ⟨q1, q2⟩
      rw [hdp (by omega)] at q2
      cases q2), hT]
    dsimp only
    rw [hC]
    dsimp only
    rw [hE]
    dsimp only
    unfold pEnd
    rw [hnk, hpk]
    obtain ⟨k, t, es, cs, ks⟩ := p
    simp [pShut]
    exact ⟨rfl, rfl, rfl, rfl, rfl⟩
  intro d
  induction d with
  | zero =>
    intro p rest h hd
    obtain ⟨htx, h3, hks⟩ := rdOk_iff.1 h
    have hk0 : p.kids = [] := List.length_eq_zero_iff.1 (by
      have := (txOk_iff.1 htx).2.2.2.2.2.2.1
      rcases Nat.eq_zero_or_pos p.kids.length with e | e
      · exact e
      · have := this e; omega)
    exact core 0 _ false p rest h hd (fun h0 => by rw [hk0] at h0; simp at h0) (fun x hx => by rw [hk0] at hx; cases hx)
  | succ d ih =>
    intro p rest h hd
    exact core (d + 1) _ true p rest h hd (fun _ => rfl) fun x hx r hr => ih x r ((rdOk_iff.1 h).2.2 x hx) hr
end Go.Qo
