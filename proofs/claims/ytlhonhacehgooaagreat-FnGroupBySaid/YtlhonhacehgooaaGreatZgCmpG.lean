/-
  comparisonBy once more: its function value compares wherever the blocks from lo on are as they were.
-/
import Derived.Test.YtlhonhacehgooaaGreatProg
import Derived.Test.YtlhonhacehgooaaGreatZgStI
namespace Go.Proofs.YtlhonhacehgooaaGreat
open Go.RowKit Go.Qo
set_option linter.unusedVariables false
set_option linter.unusedSimpArgs false

/-- The blocks from lo on that were there are as they were. -/
structure From (lo : Nat) (w z : World) : Prop where
  size : w.heap.size ≤ z.heap.size
  block : ∀ k, lo ≤ k → k < w.heap.size → z.heap[k]? = w.heap[k]?
theorem From.below {lo : Nat} {w z : World} (h : Below w.heap.size w z) : From lo w z := ⟨h.size, fun k _ hk => h.block k hk⟩
theorem From.trans {lo : Nat} {w a z : World} (h : From lo w a) (k : From lo a z) : From lo w z := ⟨Nat.le_trans h.size k.size, fun i hl hi => (k.block i hl (by have := h.size; omega)).trans (h.block i hl hi)⟩
theorem From.only {lo : Nat} {w z : World} {S : Nat → Prop} (h : Only S w z) (hS : ∀ k, S k → k < lo) : From lo w z := ⟨h.size, fun k hl hk => h.block k hk fun hs => by have := hS k hs; omega⟩
def IsCmpF (lo : Nat) (w : World) (v : Value) (W : Int) (cmp : Row1 → Row1 → Int) : Prop :=
  ∃ (f : FuncId) (cap : Array Value), v = .func (.func f) #[] cap ∧ Callable f ∧ ∀ z : World, From lo w z → ∀ (A A' : Option Addr) (c c' : Nat) (a b : Row1), RowOk W a → RowOk W b → Sl 2 valC z z.heap.size A a → Sl 2 valC z z.heap.size A' b →
    Calls Tryz.prog f (#[.slice A a.length c, .slice A' b.length c'] ++ cap) z fun e w' => e = .returned (.int .i64 (cmp a b)) ∧ Below z.heap.size z w'
/-- A row with its slice. -/
abbrev SR := SV × Row1
def svOf (p : SR) : SV := p.1
/-- What a sorted element is: a valid row, read in w below B. -/
def SRok (W : Int) (B : Nat) (w : World) (p : SR) : Prop := RowOk W p.2 ∧ p.1.n = p.2.length ∧ p.2.length ≤ p.1.c ∧ p.1.c ≤ maxLen ∧ Sl 2 valC w B p.1.A p.2
def srCmp (keys : List Key) (p q : SR) : Int := kCmp keys p.2 q.2
theorem SRok.only {W : Int} {B : Nat} {w w' : World} {p : SR} {S : Nat → Prop} (h : SRok W B w p) (k : Only S w w') (hB : B ≤ w.heap.size) (hS : ∀ b, S b → B ≤ b) : SRok W B w' p :=
  ⟨h.1, h.2.1, h.2.2.1, h.2.2.2.1, h.2.2.2.2.keep fun b o hb => by
    have := k.block b (by omega) fun hs => by have := hS b hs; omega
    simp only [World.cell?, this]⟩
theorem IsCmpF.g {lo g n c B : Nat} {w : World} {v : Value} {W : Int} {keys : List Key} (h : IsCmpF lo w v W (kCmp keys)) (hg : g < lo) (hB : B ≤ w.heap.size) (hBg : B ≤ g) : IsCmpG (svCell svOf) (srCmp keys) (SRok W B w) w (.slice (some ⟨g, 0, none⟩) n c) v := by
  obtain ⟨f, cap, hv, hf, hc⟩ := h
  refine ⟨f, cap, hv, hf, fun z hz x y hx hy => ?_⟩
  have hz' : From lo w z := From.only hz fun k hk => by cases hk; exact hg
  have hS : ∀ b, (Value.slice (some ⟨g, 0, none⟩) n c).ownBlock = some b → B ≤ b := fun b hb => by cases hb; exact hBg
  have h1 := (hx.only hz hB hS).2.2.2.2.more (Nat.le_trans hB hz.size)
  have h2 := (hy.only hz hB hS).2.2.2.2.more (Nat.le_trans hB hz.size)
  have := hc z hz' x.1.A y.1.A x.1.c y.1.c x.2 y.2 hx.1 hy.1 h1 h2
  unfold svCell svOf
  rw [hx.2.1, hy.2.1]
  exact this
/-- Slices with their rows. -/
theorem zip_fst {svs : List SV} {rows : List Row1} (h : svs.length = rows.length) : (svs.zip rows).map (·.1) = svs := by rw [List.map_fst_zip (by omega)]
theorem zip_snd {svs : List SV} {rows : List Row1} (h : svs.length = rows.length) : (svs.zip rows).map (·.2) = rows := by rw [List.map_snd_zip (by omega)]
theorem pairs_cells : ∀ l : List SR, (l.flatMap fun x => [svCell svOf x]) = (l.map (·.1)).flatMap svC
  | [] => rfl
  | p :: l => by
    have ih := pairs_cells l
    simpa [svCell, svOf, svC] using ih
/-- The copy of the slices holds the pairs. -/
theorem Ow.pairs {lo g n c : Nat} {w : World} {svs : List SV} {rows : List Row1} (h : Ow lo 104 1 svC w (.slice (some ⟨g, 0, none⟩) n c) svs) (hl : svs.length = rows.length) (hn : n = svs.length) : OwL (svCell svOf) lo g (svs.zip rows).length c w (svs.zip rows) := by
  have hz : (svs.zip rows).length = svs.length := by simp [hl]
  refine ⟨rfl, ?_⟩
  rw [pairs_cells, zip_fst hl, hz]
  subst hn
  exact h
theorem pairs_ok {W : Int} {w : World} {A : Option Addr} {svs : List SV} {rows : List Row1} (hl : svs.length = rows.length) (hr : ∀ r ∈ rows, RowOk W r) (h : ∀ (i : Nat) (s : SV) (xs : Row1), svs[i]? = some s → rows[i]? = some xs → SVIs 2 valC w w.heap.size s xs) :
    ∀ p ∈ svs.zip rows, SRok W w.heap.size w p := by
  intro p hp
  obtain ⟨i, hi, rfl⟩ := List.getElem_of_mem hp
  have h1 : i < svs.length := by rw [List.length_zip] at hi; omega
  have h2 : i < rows.length := by omega
  have hq := h i svs[i] rows[i] (List.getElem?_eq_getElem h1) (List.getElem?_eq_getElem h2)
  rw [List.getElem_zip]
  exact ⟨hr _ (List.getElem_mem h2), hq.1, hq.2.1, hq.2.2.1, hq.2.2.2⟩

end Go.Proofs.YtlhonhacehgooaaGreat
