/-
  Several texts in one (EsD StF).
-/
import Derived.Test.YtnecmacjlggkeaaPzD
import Derived.Test.YtnecmacjlggkeaaBdD
import Derived.Test.YtnecmacjlggkeaaProg
import Derived.Test.YtnecmacjlggkeaaVal
import Derived.Test.YtnecmacjlggkeaaKids
import Derived.Deep.CutBlock
import Derived.Deep.DeepCutAuto
/-
  Statistics and estimates: in plain Lean.
-/
namespace Go.Qo
set_option linter.unusedVariables false
set_option linter.unusedSimpArgs false

/-- Statistics of a table: rows, different values, nulls. -/
structure St where
  rows : Int
  dist : List Int
  nulls : List Int
instance : Inhabited St := ⟨⟨0, [], []⟩⟩
/-- Valid for their number of columns. -/
def StOk (s : St) : Prop := ((1 ≤ s.dist.length ∧ s.dist.length ≤ 6) ∧ s.nulls.length = s.dist.length ∧ 0 ≤ s.rows ∧ s.rows ≤ 400) ∧ ∀ (i : Nat) (d n : Int), s.dist[i]? = some d → s.nulls[i]? = some n → (0 ≤ n ∧ n ≤ s.rows) ∧ (0 ≤ d ∧ d ≤ s.rows - n)
/-- The permille of rows for which a column has a value. -/
def eqlP (s : St) (c : Nat) : Int := if s.rows = 0 ∨ s.dist.getD c 0 = 0 then 0 else 1000 * (s.rows - s.nulls.getD c 0) / (s.rows * s.dist.getD c 0)
def cstP (v : Val) : Int := if v.1 = false ∧ v.2 ≠ 0 then 1000 else 0
/-- The number at i, or 0. -/
def at0 (l : List Int) (i : Nat) : Int := l.getD i 0
def kidE (ks : List Ex) (i : Nat) : Ex := ks.getD i (.mk 0 0 (false, 0) [])
/-- The permille of an expression from those of its kids. -/
def topP (s : St) (k : Int) (v : Val) (ks : List Ex) (ps : List Int) : Int :=
  if k = 2 then cstP v
  else if k = 10 then 1000 - at0 ps 0
  else if k = 8 then at0 ps 0 * at0 ps 1 / 1000
  else if k = 9 then at0 ps 0 + at0 ps 1 - at0 ps 0 * at0 ps 1 / 1000
  else if k = 6 then (if (kidE ks 0).kind = 1 ∧ (kidE ks 1).kind = 2 ∧ (kidE ks 1).val.1 = false then eqlP s (kidE ks 0).col.toNat else 100)
  else if k = 7 then 333
  else if k = 11 then (if (kidE ks 0).kind = 1 ∧ 0 < s.rows then 1000 * s.nulls.getD (kidE ks 0).col.toNat 0 / s.rows else 0)
  else 500
mutual
def Ex.perm (s : St) : Ex → Int
  | .mk k c v ks => topP s k v ks (permL s ks)
def permL (s : St) : List Ex → List Int
  | [] => []
  | e :: es => e.perm s :: permL s es
end
theorem permL_map (s : St) : ∀ es : List Ex, permL s es = es.map (Ex.perm s)
  | [] => by rw [permL]; rfl
  | e :: es => by rw [permL, permL_map s es]; rfl
theorem perm_eq (s : St) (e : Ex) : e.perm s = topP s e.kind e.val e.kids (e.kids.map (Ex.perm s)) := by
  cases e with | mk k c v ks => rw [Ex.perm, permL_map]; rfl
/-- The permille without statistics. -/
def topF (k : Int) (v : Val) (ps : List Int) : Int := if k = 2 then cstP v else if k = 8 then at0 ps 0 * at0 ps 1 / 1000 else if k = 6 then 100 else 333
mutual
def Ex.fixed : Ex → Int
  | .mk k c v ks => topF k v (fixedL ks)
def fixedL : List Ex → List Int
  | [] => []
  | e :: es => e.fixed :: fixedL es
end
theorem fixedL_map : ∀ es : List Ex, fixedL es = es.map Ex.fixed
  | [] => by rw [fixedL]; rfl
  | e :: es => by rw [fixedL, fixedL_map es]; rfl
theorem fixed_eq (e : Ex) : e.fixed = topF e.kind e.val (e.kids.map Ex.fixed) := by
  cases e with | mk k c v ks => rw [Ex.fixed, fixedL_map]; rfl
theorem cstP_range (v : Val) : 0 ≤ cstP v ∧ cstP v ≤ 1000 := by unfold cstP; split <;> omega
theorem mul_range {a b : Int} (ha : 0 ≤ a ∧ a ≤ 1000) (hb : 0 ≤ b ∧ b ≤ 1000) : 0 ≤ a * b ∧ a * b ≤ 1000000 ∧ a * b ≤ a * 1000 ∧ a * b ≤ 1000 * b ∧ a * 1000 + 1000 * b ≤ 1000000 + a * b := by
  have h1 := Int.mul_nonneg ha.1 hb.1
  have h2 : 0 ≤ a * (1000 - b) := Int.mul_nonneg ha.1 (by omega)
  have h3 : 0 ≤ (1000 - a) * b := Int.mul_nonneg (by omega) hb.1
  have h4 : 0 ≤ (1000 - a) * (1000 - b) := Int.mul_nonneg (by omega) (by omega)
  rw [Int.mul_sub] at h2 h4
  rw [Int.sub_mul] at h3 h4
  rw [Int.sub_mul] at h4
  omega
theorem at0_map {f : Ex → Int} {ks : List Ex} {i : Nat} (h : ∀ x ∈ ks, 0 ≤ f x ∧ f x ≤ 1000) : 0 ≤ at0 (ks.map f) i ∧ at0 (ks.map f) i ≤ 1000 := by
  unfold at0
  rw [List.getD_eq_getElem?_getD, List.getElem?_map]
  by_cases hi : i < ks.length
  · rw [List.getElem?_eq_getElem hi]
    exact h _ (List.getElem_mem hi)
  · rw [List.getElem?_eq_none (by omega)]
    exact ⟨Int.le_refl _, show (0 : Int) ≤ 1000 by decide⟩
theorem fixed_range : ∀ e : Ex, 0 ≤ e.fixed ∧ e.fixed ≤ 1000 := Ex.ind fun e ih => by
  rw [fixed_eq]
  unfold topF
  split
  · exact cstP_range _
  · split
    · have := mul_range (at0_map (i := 0) ih) (at0_map (i := 1) ih)
      omega
    · split <;> omega
theorem getD_stok {s : St} (h : StOk s) (c : Nat) : (0 ≤ s.nulls.getD c 0 ∧ s.nulls.getD c 0 ≤ s.rows) ∧ (0 ≤ s.dist.getD c 0 ∧ s.dist.getD c 0 ≤ 400) := by
  rw [List.getD_eq_getElem?_getD, List.getD_eq_getElem?_getD]
  by_cases hc : c < s.dist.length
  · have hn : c < s.nulls.length := by have := h.1; omega
    rw [List.getElem?_eq_getElem hc, List.getElem?_eq_getElem hn]
    have := h.2 c _ _ (List.getElem?_eq_getElem hc) (List.getElem?_eq_getElem hn)
    have := h.1
    simp only [Option.getD_some]
    omega
  · have hn : ¬ c < s.nulls.length := by have := h.1; omega
    rw [List.getElem?_eq_none (by omega), List.getElem?_eq_none (by omega)]
    have := h.1
    simp only [Option.getD_none]
    omega
theorem div_range {a b : Int} (ha : 0 ≤ a) (hb : 0 < b) (h : a ≤ 1000 * b) : 0 ≤ a / b ∧ a / b ≤ 1000 := by
  refine ⟨Int.ediv_nonneg ha (Int.le_of_lt hb), ?_⟩
  have := Int.ediv_le_ediv hb h
  rwa [Int.mul_ediv_cancel _ (by omega)] at this
theorem eqlP_range {s : St} (h : StOk s) (c : Nat) : 0 ≤ eqlP s c ∧ eqlP s c ≤ 1000 := by
  unfold eqlP
  have hg := getD_stok h c
  have hr := h.1
  split
  · omega
  · rename_i hn
    have h1 : 0 < s.rows := by omega
    have h2 : 1 ≤ s.dist.getD c 0 := by omega
    have h3 : 0 ≤ s.rows * (s.dist.getD c 0 - 1) := Int.mul_nonneg (by omega) (by omega)
    rw [Int.mul_sub, Int.mul_one] at h3
    exact div_range (by omega) (by omega) (by omega)
theorem perm_range {s : St} (h : StOk s) : ∀ e : Ex, 0 ≤ e.perm s ∧ e.perm s ≤ 1000 := Ex.ind fun e ih => by
  rw [perm_eq]
  have h0 := at0_map (i := 0) ih
  have h1 := at0_map (i := 1) ih
  have hm := mul_range h0 h1
  unfold topP
  split
  · exact cstP_range _
  split
  · omega
  split
  · omega
  split
  · omega
  split
  · split
    · exact eqlP_range h _
    · omega
  split
  · omega
  split
  · split
    · rename_i hk
      have := getD_stok h (kidE e.kids 0).col.toNat
      exact div_range (by omega) hk.2 (by omega)
    · omega
  · omega

/-! ### Plans -/
def stAt (ss : List St) (t : Int) : St := ss.getD t.toNat default
def kidP (ks : List Pl) (i : Nat) : Pl := ks.getD i (.mk 0 0 [] [] [])
/-- The permille that a filter goes by. -/
def fltP (ss : List St) (e : Ex) (kid : Pl) : Int := if kid.kind = 1 then e.perm (stAt ss kid.table) else e.fixed
def topE (ss : List St) (k t : Int) (es : List Ex) (cs : Nat) (ks : List Pl) (ns : List Int) : Int :=
  if k = 1 then (stAt ss t).rows
  else if k = 2 then at0 ns 0 * fltP ss (kidE es 0) (kidP ks 0) / 1000
  else if k = 4 then min (at0 ns 0 * at0 ns 1) 1000000000 * (kidE es 0).fixed / 1000
  else if k = 5 then max (min (at0 ns 0 * at0 ns 1) 1000000000 * (kidE es 0).fixed / 1000) (at0 ns 0)
  else if k = 6 then min (at0 ns 0 + at0 ns 1) 1000000000
  else if k = 8 ∧ cs = 0 then min (at0 ns 0) 1
  else at0 ns 0
mutual
def Pl.est (ss : List St) : Pl → Int
  | .mk k t es cs ks => topE ss k t es cs.length ks (estL ss ks)
def estL (ss : List St) : List Pl → List Int
  | [] => []
  | p :: ps => p.est ss :: estL ss ps
end
theorem estL_map (ss : List St) : ∀ ps : List Pl, estL ss ps = ps.map (Pl.est ss)
  | [] => by rw [estL]; rfl
  | p :: ps => by rw [estL, estL_map ss ps]; rfl
theorem est_eq (ss : List St) (p : Pl) : p.est ss = topE ss p.kind p.table p.exprs p.cols.length p.kids (p.kids.map (Pl.est ss)) := by
  cases p with | mk k t es cs ks => rw [Pl.est, estL_map]; rfl
/-- The sum of the estimates of all parts. -/
def costP (ss : List St) (p : Pl) : Int := (p.parts.map (Pl.est ss)).sum
def costL (ss : List St) (ps : List Pl) : Int := ((partsL ps).map (Pl.est ss)).sum
theorem costP_eq (ss : List St) (p : Pl) : costP ss p = p.est ss + costL ss p.kids := by
  unfold costP costL
  rw [parts_eq, List.map_cons, List.sum_cons]
theorem costL_take {ss : List St} {ks : List Pl} {i : Nat} (h : i < ks.length) : costL ss (ks.take (i + 1)) = costL ss (ks.take i) + costP ss ks[i] := by
  unfold costL costP
  rw [partsL_take h, List.map_append, List.sum_append]
theorem costL_nil (ss : List St) : costL ss [] = 0 := by unfold costL; rw [partsL]; rfl
def SsOk (ss : List St) : Prop := ∀ s ∈ ss, StOk s
theorem stAt_ok {ss : List St} (h : SsOk ss) (t : Int) : (0 ≤ (stAt ss t).rows ∧ (stAt ss t).rows ≤ 400) ∧ ∀ e : Ex, 0 ≤ e.perm (stAt ss t) ∧ e.perm (stAt ss t) ≤ 1000 := by
  unfold stAt
  rw [List.getD_eq_getElem?_getD]
  by_cases ht : t.toNat < ss.length
  · rw [List.getElem?_eq_getElem ht]
    have := h _ (List.getElem_mem ht)
    exact ⟨by have := this.1; simp only [Option.getD_some]; omega, perm_range this⟩
  · rw [List.getElem?_eq_none (by omega)]
    refine ⟨by decide, ?_⟩
    refine Ex.ind fun e ih => ?_
    rw [perm_eq]
    have h0 := at0_map (i := 0) ih
    have h1 := at0_map (i := 1) ih
    have hm := mul_range h0 h1
    have hr : (default : St).rows = 0 := rfl
    simp only [Option.getD_none] at h0 h1 hm ⊢
    unfold topP
    split
    · exact cstP_range _
    split
    · omega
    split
    · omega
    split
    · omega
    split
    · split
      · unfold eqlP; rw [if_pos (.inl hr)]; omega
      · omega
    split
    · omega
    split
    · rw [if_neg (fun hh => by rw [hr] at hh; exact absurd hh.2 (by decide))]; omega
    · omega
theorem at0_mapP {f : Pl → Int} {ks : List Pl} {i : Nat} {m : Int} (hm : 0 ≤ m) (h : ∀ x ∈ ks, 0 ≤ f x ∧ f x ≤ m) : 0 ≤ at0 (ks.map f) i ∧ at0 (ks.map f) i ≤ m := by
  unfold at0
  rw [List.getD_eq_getElem?_getD, List.getElem?_map]
  by_cases hi : i < ks.length
  · rw [List.getElem?_eq_getElem hi]
    exact h _ (List.getElem_mem hi)
  · rw [List.getElem?_eq_none (by omega)]
    simp only [Option.map_none, Option.getD_none]
    omega
theorem scale_le {a p : Int} (ha : 0 ≤ a) (hp : 0 ≤ p ∧ p ≤ 1000) : 0 ≤ a * p ∧ a * p ≤ a * 1000 ∧ 0 ≤ a * p / 1000 ∧ a * p / 1000 ≤ a := by
  have h1 := Int.mul_nonneg ha hp.1
  have h2 : 0 ≤ a * (1000 - p) := Int.mul_nonneg ha (by omega)
  rw [Int.mul_sub] at h2
  omega
theorem est_range {ss : List St} (h : SsOk ss) : ∀ p : Pl, 0 ≤ p.est ss ∧ p.est ss ≤ 1000000000 := Pl.ind fun p ih => by
  rw [est_eq]
  have h0 := at0_mapP (i := 0) (by decide) ih
  have h1 := at0_mapP (i := 1) (by decide) ih
  have hm := Int.mul_nonneg h0.1 h1.1
  unfold topE
  split
  · have := (stAt_ok h p.table).1; omega
  split
  · have := scale_le h0.1 (show 0 ≤ fltP ss (kidE p.exprs 0) (kidP p.kids 0) ∧ fltP ss (kidE p.exprs 0) (kidP p.kids 0) ≤ 1000 by unfold fltP; split; exact (stAt_ok h _).2 _; exact fixed_range _)
    omega
  split
  · have := scale_le (show 0 ≤ min (at0 (p.kids.map (Pl.est ss)) 0 * at0 (p.kids.map (Pl.est ss)) 1) 1000000000 by omega) (fixed_range (kidE p.exprs 0))
    omega
  split
  · have := scale_le (show 0 ≤ min (at0 (p.kids.map (Pl.est ss)) 0 * at0 (p.kids.map (Pl.est ss)) 1) 1000000000 by omega) (fixed_range (kidE p.exprs 0))
    omega
  split
  · omega
  split <;> omega
theorem sum_range {ss : List St} (h : SsOk ss) : ∀ l : List Pl, 0 ≤ (l.map (Pl.est ss)).sum ∧ (l.map (Pl.est ss)).sum ≤ 1000000000 * l.length
  | [] => by simp
  | p :: l => by
    have h1 := est_range h p
    have h2 := sum_range h l
    rw [List.map_cons, List.sum_cons, List.length_cons]
    omega
end Go.Qo

/-
  Statistics in memory; contracts of ValidStats of both.
-/
namespace Go.Proofs.Ytnecmacjlggkeaa
open Go.RowKit Go.Qo
set_option linter.unusedVariables false
set_option linter.unusedSimpArgs false

/-- The cells of statistics. -/
structure FS where
  rows : Int
  dv : SV
  nv : SV
def fsC (f : FS) : List Value := [.int .i64 f.rows, .slice f.dv.A f.dv.n f.dv.c, .slice f.nv.A f.nv.n f.nv.c]
theorem fsC_length (f : FS) : (fsC f).length = 3 := rfl
def fsV (f : FS) : Value := .agg #[.int .i64 f.rows, .slice f.dv.A f.dv.n f.dv.c, .slice f.nv.A f.nv.n f.nv.c]
def StIn (w : World) (B : Nat) (f : FS) (s : St) : Prop := f.rows = s.rows ∧ SVok f.dv s.dist.length ∧ SVok f.nv s.nulls.length ∧ Sl 1 intC w B f.dv.A s.dist ∧ Sl 1 intC w B f.nv.A s.nulls
theorem StIn.on {w w' : World} {f : FS} {s : St} (h : StIn w w.heap.size f s) (hb : Below w.heap.size w w') : StIn w' w'.heap.size f s := ⟨h.1, h.2.1, h.2.2.1, h.2.2.2.1.on hb, h.2.2.2.2.on hb⟩
def StsIn (w : World) (B : Nat) (A : Option Addr) (ss : List St) : Prop :=
  ∃ fs : List FS, fs.length = ss.length ∧ Sl 3 fsC w B A fs ∧ ∀ (i : Nat) (f : FS) (s : St), fs[i]? = some f → ss[i]? = some s → StIn w B f s
theorem StsIn.on {w w' : World} {A : Option Addr} {ss : List St} (h : StsIn w w.heap.size A ss) (hb : Below w.heap.size w w') : StsIn w' w'.heap.size A ss := by
  obtain ⟨fs, h1, h2, h3⟩ := h
  exact ⟨fs, h1, h2.on hb, fun i g x hg hx => (h3 i g x hg hx).on hb⟩
def FsAt (w : World) (b o : Nat) (f : FS) : Prop :=
  w.cell? ⟨b, o, none⟩ = some (.int .i64 f.rows) ∧ w.cell? ⟨b, o + 1, none⟩ = some (.slice f.dv.A f.dv.n f.dv.c) ∧ w.cell? ⟨b, o + 2, none⟩ = some (.slice f.nv.A f.nv.n f.nv.c)
theorem StsIn.at_ {w : World} {B : Nat} {A : Option Addr} {ss : List St} (h : StsIn w B A ss) {i : Nat} (hi : i < ss.length) : ∃ b o f, A = some ⟨b, o, none⟩ ∧ b < B ∧ FsAt w b (o + i * 3) f ∧ StIn w B f ss[i] := by
  obtain ⟨fs, h1, h2, h3⟩ := h
  have hi' : i < fs.length := by omega
  obtain ⟨b, o, hA, hB, hc⟩ := h2 (by omega)
  have hx := List.getElem?_eq_getElem hi'
  exact ⟨b, o, fs[i], hA, hB, ⟨hc i _ hx 0 _ rfl, hc i _ hx 1 _ rfl, hc i _ hx 2 _ rfl⟩, h3 i _ _ hx (List.getElem?_eq_getElem hi)⟩
theorem FsAt.below {w w' : World} {B b o : Nat} {f : FS} (h : FsAt w b o f) (hb : Below B w w') (hB : b < B) : FsAt w' b o f :=
  ⟨(hb.cell (p := ⟨_, _, none⟩) hB).trans h.1, (hb.cell (p := ⟨_, _, none⟩) hB).trans h.2.1, (hb.cell (p := ⟨_, _, none⟩) hB).trans h.2.2⟩

/-- What is asked of the columns from 0 to k. -/
def StUp (s : St) (k : Nat) : Prop := ∀ (i : Nat) (d n : Int), i < k → s.dist[i]? = some d → s.nulls[i]? = some n → (0 ≤ n ∧ n ≤ s.rows) ∧ (0 ≤ d ∧ d ≤ s.rows - n)
theorem StUp.all {s : St} (h : StUp s s.dist.length) : ∀ (i : Nat) (d n : Int), s.dist[i]? = some d → s.nulls[i]? = some n → (0 ≤ n ∧ n ≤ s.rows) ∧ (0 ≤ d ∧ d ≤ s.rows - n) :=
  fun i d n hd hn => h i d n (List.getElem?_eq_some_iff.1 hd).1 hd hn
theorem StUp.next {s : St} {k : Nat} {d n : Int} (h : StUp s k) (hd : s.dist[k]? = some d) (hn : s.nulls[k]? = some n) (h2 : (0 ≤ n ∧ n ≤ s.rows) ∧ (0 ≤ d ∧ d ≤ s.rows - n)) : StUp s (k + 1) := fun i d' n' hi hd' hn' => by
  by_cases hik : i < k
  · exact h i d' n' hik hd' hn'
  · have : i = k := by omega
    subst this
    rw [hd] at hd'
    rw [hn] at hn'
    cases hd'
    cases hn'
    exact h2
/-- Numbers as they are drawn: small. -/
def StSm (s : St) : Prop := (-1000000 ≤ s.rows ∧ s.rows ≤ 1000000) ∧ (∀ x ∈ s.dist, -1000000 ≤ x ∧ x ≤ 1000000) ∧ (∀ x ∈ s.nulls, -1000000 ≤ x ∧ x ≤ 1000000)

theorem bno {r : Bool} {p : Prop} (hr : r = true ↔ p) (h : ¬ p) : r = false := by
  cases r
  · rfl
  · exact absurd (hr.1 rfl) h

set_option maxRecDepth 20000 in
set_option maxHeartbeats 4000000 in
theorem specvalidStats_ok (s : St) (f : FS) (w : World) (r : Bool) (h : StIn w w.heap.size f s) (hsm : StSm s) (h6 : 1 ≤ s.dist.length ∧ s.dist.length ≤ 6) (hr : r = true ↔ StOk s) :
    Calls Try.prog 69 #[fsV f, .int .i64 s.dist.length] w fun e w' => e = .returned (.bool r) ∧ Below w.heap.size w w' := by
  obtain ⟨a1, ⟨a2, a2', a2''⟩, ⟨a3, a3', a3''⟩, a4, a5⟩ := h
  obtain ⟨W1, hW1⟩ : ∃ z, w.alloc (.cells #[.int .i64 s.rows, .slice f.dv.A s.dist.length f.dv.c, .slice f.nv.A s.nulls.length f.nv.c] 33) = z := ⟨_, rfl⟩
  have B1 : Below w.heap.size w W1 := by rw [← hW1]; exact balloc (Below.refl _ _) _
  have r1 : Row W1 w.heap.size 33 [.int .i64 s.rows, .slice f.dv.A s.dist.length f.dv.c, .slice f.nv.A s.nulls.length f.nv.c] := by rw [← hW1]; exact Row.new _ _ _
  have BX := Lib.hid (fun (z : World) (hz : Below W1.heap.size W1 z) => show z.cell? ⟨w.heap.size, 0, none⟩ = some (.int .i64 s.rows) ∧ z.cell? ⟨w.heap.size, 1, none⟩ = some (.slice f.dv.A s.dist.length f.dv.c) ∧ z.cell? ⟨w.heap.size, 2, none⟩ = some (.slice f.nv.A s.nulls.length f.nv.c) ∧ w.heap.size < z.heap.size from ⟨(r1.on hz).cell 0, (r1.on hz).cell 1, (r1.on hz).cell 2, (r1.on hz).lt⟩)
  have HD := Lib.hid (fun (z : World) (hz : Below W1.heap.size W1 z) => And.intro (a4.on (bch B1 hz)) (a5.on (bch B1 hz)))
  have HB1 := Lib.hid B1
  have HW1 := Lib.hid hW1
  have Hr := Lib.hid hr
  have HS := Lib.hid hsm
  have hnm : s.nulls.length ≤ maxLen := by omega
  unfold maxLen at hnm
  obtain ⟨c0, c1, c2, cl⟩ := BX.out _ (Below.refl _ _)
  unfold fsV
  rw [a1, a2, a3]
  obtain ⟨h61, h66⟩ := h6
  clear a1 a2 a2' a2'' a3 a3' a3'' a4 a5 B1 r1 hW1 hr hsm
  obtain ⟨q, hq⟩ : ∃ q, (decide (0 ≤ s.rows) && decide (s.rows ≤ 400)) = q := ⟨_, rfl⟩
  have HI := Lib.hid (fun z => inRange_ok s.rows 0 400 z q hq)
  have Hq := Lib.hid hq
  clear hq
  cases q
  · have Hz := Lib.hid (show r = false from bno Hr.out fun hs => by have := hs.1; have h2 := Hq.out; simp at h2; omega)
    go_enter Try.func69, Try.ntmps69
    go_upto_region 1 with fail
    rw [HW1.out]
    go_wp2_with fail
    refine (HI.out W1).mono ?_
    rintro e w2 ⟨rfl, rfl⟩
    go_wp2
    go_ret
    exact ⟨ret_bool Hz.out.symm, HB1.out⟩
  have Hrow := Lib.hid (show 0 ≤ s.rows ∧ s.rows ≤ 400 by have h2 := Hq.out; simpa using h2)
  by_cases hnl : s.nulls.length = s.dist.length
  case neg =>
    have hnl' : ((s.nulls.length : Int) != (s.dist.length : Int)) = true := by
      have : (s.nulls.length : Int) ≠ (s.dist.length : Int) := by omega
      simpa using this
    have Hz := Lib.hid (show r = false from bno Hr.out fun hs => hnl hs.1.2.1)
    clear hnl
    go_enter Try.func69, Try.ntmps69
    go_upto_region 1 with fail
    rw [HW1.out]
    go_wp2_with fail
    refine (HI.out W1).mono ?_
    rintro e w2 ⟨rfl, rfl⟩
    go_wp2
    go_ret
    exact ⟨ret_bool Hz.out.symm, HB1.out⟩
  case pos =>
    have hnl' : ((s.nulls.length : Int) != (s.dist.length : Int)) = false := by simp [hnl]
    have Hnl := Lib.hid hnl
    clear hnl
    go_enter Try.func69, Try.ntmps69
    go_upto_region 1 with fail
    rw [HW1.out]
    go_wp2_with fail
    refine (HI.out W1).mono ?_
    rintro e w2 ⟨rfl, rfl⟩
    go_wp2
    go_loopg [5] s.dist.length (fun g iv wr => ∃ i : Nat, i ≤ s.dist.length ∧ g = s.dist.length - i ∧ iv = .int .i64 i ∧ Below W1.heap.size W1 wr ∧ StUp s i)
    case atStart => exact ⟨0, by omega, by omega, rfl, Below.refl _ _, fun i d n hi => absurd hi (by omega)⟩
    case round =>
      obtain ⟨i, hi, rfl, rfl, hb, hup⟩ := hrel
      have HB := Lib.hid hb
      have HU := Lib.hid hup
      obtain ⟨c0, c1, c2, cl⟩ := BX.out _ hb
      clear hb hup
      by_cases hil : i < s.dist.length
      · have hiI : (i : Int) < (s.dist.length : Int) := by omega
        have hin : i < s.nulls.length := by have := Hnl.out; omega
        have hinI : (i : Int) < (s.nulls.length : Int) := by omega
        obtain ⟨bd, od, hAd, hBd, dd⟩ := (HD.out _ HB.out).1.at1 (f := Value.int .i64) hil
        obtain ⟨bn, on_, hAn, hBn, dn⟩ := (HD.out _ HB.out).2.at1 (f := Value.int .i64) hin
        rw [hAd] at c1
        rw [hAn] at c2
        obtain ⟨x, hx⟩ : ∃ x, s.dist[i] = x := ⟨_, rfl⟩
        obtain ⟨n, hn⟩ : ∃ n, s.nulls[i] = n := ⟨_, rfl⟩
        have Hx := Lib.hid (show s.dist[i]? = some x by rw [← hx]; exact List.getElem?_eq_getElem hil)
        have Hn := Lib.hid (show s.nulls[i]? = some n by rw [← hn]; exact List.getElem?_eq_getElem hin)
        have hxs : -1000000 ≤ x ∧ x ≤ 1000000 := by rw [← hx]; exact HS.out.2.1 _ (List.getElem_mem hil)
        have hns : -1000000 ≤ n ∧ n ≤ 1000000 := by rw [← hn]; exact HS.out.2.2 _ (List.getElem_mem hin)
        have hrs := HS.out.1
        have hww : IntKind.i64.wrap (s.rows - n) = s.rows - n := IntWalk.i64_in _ (by omega)
        rw [hx] at dd
        rw [hn] at dn
        obtain ⟨q1, hq1⟩ : ∃ q, (decide (0 ≤ n) && decide (n ≤ s.rows)) = q := ⟨_, rfl⟩
        obtain ⟨q2, hq2⟩ : ∃ q, (decide (0 ≤ x) && decide (x ≤ s.rows - n)) = q := ⟨_, rfl⟩
        have HI1 := Lib.hid (fun z : Aft wr.heap.size wr => (inRange_ok n 0 s.rows z.v q1 hq1).mono fun e' w' hh => show e' = .returned (.bool q1) ∧ Below z.v.heap.size z.v w' from ⟨hh.1, by rw [← hh.2]; exact Below.refl _ _⟩)
        have HI2 := Lib.hid (fun z : Aft wr.heap.size wr => (inRange_ok x 0 (s.rows - n) z.v q2 hq2).mono fun e' w' hh => show e' = .returned (.bool q2) ∧ Below z.v.heap.size z.v w' from ⟨hh.1, by rw [← hh.2]; exact Below.refl _ _⟩)
        have Hq12 := Lib.hid (And.intro hq1 hq2)
        have C0 := fun z : Aft wr.heap.size wr => z.cell cl c0
        have C1 := fun z : Aft wr.heap.size wr => z.cell cl c1
        have C2 := fun z : Aft wr.heap.size wr => z.cell cl c2
        have D1 := fun z : Aft wr.heap.size wr => z.cell hBd dd
        have D2 := fun z : Aft wr.heap.size wr => z.cell hBn dn
        clear hx hn hxs hns hrs hq1 hq2 hAd hAn c0 c1 c2 dd dn
        go_wp2
        cases q1
        · have Hz := Lib.hid (show r = false from bno Hr.out fun hs => by have h3 := hs.2 i x n Hx.out Hn.out; have h2 := Hq12.out.1; simp at h2; omega)
          refine wp_region_aft wr.heap.size (by kernel_rfl) (by kernel_rfl) ?_
          repeat (go_big_quiet_step ((go_at_call 68; exact Calls.aft (Nat.le_refl _) (HI1.out _))))
          refine wpQuiet_nil ?_
          intro w3 hw'
          obtain ⟨⟨_, hb3⟩, rfl⟩ := hw'
          go_wp2
          go_ret
          exact ⟨ret_bool Hz.out.symm, bch HB1.out (bch HB.out hb3)⟩
        · cases q2
          · have Hz := Lib.hid (show r = false from bno Hr.out fun hs => by have h3 := hs.2 i x n Hx.out Hn.out; have h2 := Hq12.out.2; simp at h2; omega)
            refine wp_region_aft wr.heap.size (by kernel_rfl) (by kernel_rfl) ?_
            repeat (go_big_quiet_step (first | (go_at_call_of 68 (Value.int .i64 n); exact Calls.aft (Nat.le_refl _) (HI1.out _)) | (go_at_call_of 68 (Value.int .i64 x); exact Calls.aft (Nat.le_refl _) (HI2.out _))))
            refine wpQuiet_nil ?_
            intro w3 hw'
            obtain ⟨⟨_, hb3⟩, rfl⟩ := hw'
            go_wp2
            go_ret
            exact ⟨ret_bool Hz.out.symm, bch HB1.out (bch HB.out hb3)⟩
          · have Hy := Lib.hid (HU.out.next Hx.out Hn.out (by have h2 := Hq12.out.1; have h3 := Hq12.out.2; simp at h2 h3; omega))
            refine wp_region_aft wr.heap.size (by kernel_rfl) (by kernel_rfl) ?_
            repeat (go_big_quiet_step (first | (go_at_call_of 68 (Value.int .i64 n); exact Calls.aft (Nat.le_refl _) (HI1.out _)) | (go_at_call_of 68 (Value.int .i64 x); exact Calls.aft (Nat.le_refl _) (HI2.out _))))
            refine wpQuiet_nil ?_
            intro w3 hw'
            obtain ⟨⟨_, hb3⟩, rfl⟩ := hw'
            go_wp2
            go_roundg (s.dist.length - (i + 1))
            case measure => omega
            case rel => exact ⟨i + 1, by omega, rfl, by go_num, bch HB.out hb3, Hy.out⟩
      · have hiI : ¬ (i : Int) < (s.dist.length : Int) := by omega
        have Hz := Lib.hid (show r = true from Hr.out.2 ⟨⟨⟨h61, h66⟩, Hnl.out, Hrow.out.1, Hrow.out.2⟩, StUp.all (show StUp s s.dist.length from (show i = s.dist.length by omega) ▸ HU.out)⟩)
        go_wp2
        go_ret
        exact ⟨ret_bool Hz.out.symm, bch HB1.out HB.out⟩
end Go.Proofs.Ytnecmacjlggkeaa
