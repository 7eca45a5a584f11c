import Derived.Test.YtlhonhacehgooaaGreatProg
import Derived.Test.YtlhonhacehgooaaGreatZrPln
import Derived.BigRegion
import Derived.Test.YtlhonhacehgooaaGreatZrKex
/-
  Contract of the library's insertion sort, as slices.SortStableFunc uses it at rows: it is the stable sort by the comparison.
-/
namespace Go.Proofs.YtlhonhacehgooaaGreat
open Go.RowKit Go.Qo
set_option linter.unusedVariables false
set_option linter.unusedSimpArgs false

/-- A function value that compares elements by cmp, in w and wherever the slice's own block alone has changed. -/
def IsCmpG {α : Type} (cell : α → Value) (cmp : α → α → Int) (S : α → Prop) (w : World) (dv : Value) (v : Value) : Prop :=
  ∃ (f : FuncId) (cap : Array Value), v = .func (.func f) #[] cap ∧ Callable f ∧ ∀ z : World, Only (fun i => dv.ownBlock = some i) w z → ∀ x y : α, S x → S y →
    Calls Tryz.prog f (#[cell x, cell y] ++ cap) z fun e w' => e = .returned (.int .i64 (cmp x y)) ∧ Below z.heap.size z w'
/-- The slice of n elements holds L. -/
def OwL {α : Type} (cell : α → Value) (lo g n c : Nat) (w : World) (L : List α) : Prop := L.length = n ∧ w.ownsRow lo 104 1 (.slice (some ⟨g, 0, none⟩) n c) n (L.flatMap fun x => [cell x])
section
variable {α : Type} {cell : α → Value} {lo g n c : Nat} {w w' : World} {L : List α}
theorem flat_setC : ∀ (xs : List α) (j : Nat) (y : α), (xs.flatMap fun x => [cell x]).set j (cell y) = (xs.set j y).flatMap fun x => [cell x]
  | [], j, y => by simp
  | x :: xs, 0, y => by simp
  | x :: xs, j + 1, y => by
    have ih := flat_setC xs j y
    simpa using ih
theorem OwL.at_ (h : OwL cell lo g n c w L) {i : Nat} {x : α} (hx : L[i]? = some x) : w.cell? ⟨g, i, none⟩ = some (cell x) := by
  have hl := h.1
  have hi := (List.getElem?_eq_some_iff.1 hx).1
  have h2 : Ow lo 104 1 (fun x => [cell x]) w (.slice (some ⟨g, 0, none⟩) n c) L := by unfold Ow; rw [hl]; exact h.2
  obtain ⟨g', he, _, _, _, _, _, hc⟩   := h2.head (sz := 1) (enc := fun x => [cell x]) (fun _ => rfl) (Nat.lt_of_le_of_lt (Nat.zero_le _) hi)
  cases he
  have := flat_get 1 (fun x => [cell x]) (fun _ => rfl) L i x 0 _ hx rfl
  rw [Nat.mul_one, Nat.add_zero] at this
  exact hc i _ this
theorem OwL.frozen (h : OwL cell lo g n c w L) (j : Nat) : w.frozen? ⟨g, j, none⟩ = false := h.2.frozenAt j
theorem OwL.put (h : OwL cell lo g n c w L) (j : Nat) (y : α) : OwL cell lo g n c (w.setCell ⟨g, j, none⟩ (cell y)) (L.set j y) := by
  refine ⟨by rw [List.length_set]; exact h.1, ?_⟩
  have h1 := (World.ownsRow.stored h.2 j (cell y)).1
  rwa [flat_setC] at h1
theorem OwL.on (h : OwL cell lo g n c w L) (hb : Below w.heap.size w w') : OwL cell lo g n c w' L := by
  have hl := h.1
  have h2 : Ow lo 104 1 (fun x => [cell x]) w (.slice (some ⟨g, 0, none⟩) n c) L := by unfold Ow; rw [hl]; exact h.2
  have h3 := h2.on hb
  unfold Ow at h3
  rw [hl] at h3
  exact ⟨hl, h3⟩
theorem OwL.lt (h : OwL cell lo g n c w L) : g < w.heap.size := by
  have hl := h.1
  have h2 : Ow lo 104 1 (fun x => [cell x]) w (.slice (some ⟨g, 0, none⟩) n c) L := by unfold Ow; rw [hl]; exact h.2
  exact (h2.ty g rfl).2.1
end

/-- The cell of an element that is a slice. -/
def svCell {α : Type} (sv : α → SV) (x : α) : Value := .slice (sv x).A (sv x).n (sv x).c
theorem down_done {α : Type} {cmp : α → α → Int} {S : α → Prop} (C : Cm cmp S) {xs p : List α} {x : α} {i j : Nat} (hS : ∀ r ∈ xs, S r) (hx : xs[i]? = some x) (hp : gSort cmp (xs.take i) = p) (hj : j ≤ p.length)
    (h1 : ∀ (k : Nat) (y : α), j ≤ k → p[k]? = some y → cmp x y < 0) (h2 : ∀ y, 0 < j → p[j - 1]? = some y → ¬ cmp x y < 0) : Down p x (xs.drop (i + 1)) j = gSort cmp (xs.take (i + 1)) ++ xs.drop (i + 1) := by
  have hSt : ∀ r ∈ xs.take i, S r := fun r hr => hS r (List.mem_of_mem_take hr)
  have ho := gSort_ord C hSt
  have hm : ∀ r ∈ gSort cmp (xs.take i), S r := fun r hr => hSt r ((gSort_perm C hSt).mem_iff.1 hr)
  have ht : xs.take (i + 1) = xs.take i ++ [x] := by rw [List.take_add_one, hx]; rfl
  rw [ht, gSort_snoc]
  rw [hp] at ho hm ⊢
  rw [gIns_at C (hS x (List.mem_of_getElem? hx)) hm ho hj h1 h2]
  unfold Down
  simp
set_option maxRecDepth 20000 in
set_option maxHeartbeats 2000000 in
theorem insSort_ok {α : Type} (sv : α → SV) (cmp : α → α → Int) (S : α → Prop) (C : Cm cmp S) (lo g c : Nat) (xs : List α) (v : Value) (w : World) (hn : xs.length ≤ 1048576) (hS : ∀ x ∈ xs, S x)
    (hv : IsCmpG (svCell sv) cmp S w (.slice (some ⟨g, 0, none⟩) xs.length c) v) (h : OwL (svCell sv) lo g xs.length c w xs) :
    Calls Tryz.prog 195 #[.slice (some ⟨g, 0, none⟩) xs.length c, .int .i64 0, .int .i64 xs.length, v] w fun e w' => e = .returned (.tuple #[]) ∧ OwL (svCell sv) lo g xs.length c w' (gSort cmp xs) ∧ Only (fun i => i = g) w w' := by
  obtain ⟨f, cap, rfl, hf, hcall⟩ := hv
  have Hcall := Lib.hid hcall
  have HH := Lib.hid h
  have HS := Lib.hid hS
  have hcf := fun args => hf args
  clear hcall h hS hf
  go_enter Tryz.func195, Tryz.ntmps195
  go_wp2
  go_loopg [8] (xs.length - 1) (fun gg v8 wr => ∃ i : Nat, 1 ≤ i ∧ gg = xs.length - i ∧ v8 = .int .i64 i ∧ OwL (svCell sv) lo g xs.length c wr (gSort cmp (xs.take i) ++ xs.drop i) ∧ Only (fun i => i = g) w wr)
  case atStart =>
    refine ⟨1, by omega, rfl, rfl, ?_, Only.refl _⟩
    · have : gSort cmp (xs.take 1) ++ xs.drop 1 = xs := by
        cases xs with
        | nil => rfl
        | cons x xs => simp [gSort, gIns]
      rw [this]; exact HH.out
  case round =>
    obtain ⟨i, hi1, rfl, rfl, how, hon⟩ := hrel
    have HW := Lib.hid (And.intro how hon)
    clear how hon
    by_cases hlt : i < xs.length
    · have hx := Lib.hid (List.getElem?_eq_getElem hlt)
      have hxS := Lib.hid (HS.out _ (List.getElem_mem hlt))
      generalize xs[i] = x at *
      obtain ⟨p, hp⟩ : ∃ p, gSort cmp (xs.take i) = p := ⟨_, rfl⟩
      have hpl : p.length = i := by rw [← hp, gSort_length, List.length_take]; omega
      have hSt : ∀ r ∈ xs.take i, S r := fun r hr => HS.out r (List.mem_of_mem_take hr)
      have HP := Lib.hid (And.intro hp (And.intro hpl (And.intro (gSort_ord C hSt) (fun r (hr : r ∈ gSort cmp (xs.take i)) => hSt r ((gSort_perm C hSt).mem_iff.1 hr)))))
      clear hp hpl hSt
      go_wp2
      go_loopg [9] i (fun j v9 wq => j ≤ i ∧ v9 = .int .i64 j ∧ OwL (svCell sv) lo g xs.length c wq (Down p x (xs.drop (i + 1)) j) ∧ Only (fun i => i = g) w wq ∧ ∀ (k : Nat) (y : α), j ≤ k → p[k]? = some y → cmp x y < 0)
      case atStart =>
        refine ⟨Nat.le_refl _, rfl, ?_, HW.out.2, fun k y hk hy => ?_⟩
        · have h1 := HW.out.1
          rw [HP.out.1, Down.start hx.out HP.out.2.1] at h1
          exact h1
        · have := (List.getElem?_eq_some_iff.1 hy).1
          have := HP.out.2.1
          omega
      case round =>
        obtain ⟨hji, rfl, how, hon, hpr⟩ := hrel
        obtain ⟨j, hgj⟩ : ∃ j, j = gk := ⟨_, rfl⟩
        subst hgj
        have HQ := Lib.hid (And.intro how (And.intro hon hpr))
        clear hpr
        by_cases h0 : j = 0
        · subst h0
          go_wp2
          go_quiet (fail)
          go_wp2
          go_roundg (xs.length - (i + 1))
          case measure => omega
          case rel =>
            refine ⟨i + 1, by omega, by omega, by go_num, ?_, HQ.out.2.1.below (bdrewN (Below.refl _ _) _)⟩
            rw [← down_done C HS.out hx.out HP.out.1 (Nat.zero_le _) HQ.out.2.2 (fun y h => absurd h (by omega))]
            exact HQ.out.1.on (bdrewN (Below.refl _ _) _)
        · have hj1 : j - 1 < p.length := by have := HP.out.2.1; omega
          have hy := Lib.hid (List.getElem?_eq_getElem hj1)
          have hyS := Lib.hid (show S p[j - 1] from by have := HP.out.2.2.2 p[j - 1] (by rw [HP.out.1]; exact List.getElem_mem hj1); exact this)
          generalize p[j - 1] = y at *
          have ax : wr.cell? ⟨g, j, none⟩ = some (.slice (sv x).A (sv x).n (sv x).c) := HQ.out.1.at_ (Down.at_x (by have := HP.out.2.1; omega))
          have ay : wr.cell? ⟨g, j - 1, none⟩ = some (.slice (sv y).A (sv y).n (sv y).c) := HQ.out.1.at_ (by
            have h1 := Down.at_y (p := p) (x := x) (rest := xs.drop (i + 1)) (j := j - 1) (by omega)
            rw [show j - 1 + 1 = j by omega] at h1
            rw [h1]; exact hy.out)
          have hgl := HQ.out.1.lt
          have d1 := fun z : Aft wr.heap.size wr => z.cell hgl ax
          have d2 := fun z : Aft wr.heap.size wr => z.cell hgl ay
          obtain ⟨R, hR⟩ : ∃ R, cmp x y = R := ⟨_, rfl⟩
          have HK := Lib.hid (fun z : Aft wr.heap.size wr => show Calls Tryz.prog f (#[.slice (sv x).A (sv x).n (sv x).c, .slice (sv y).A (sv y).n (sv y).c] ++ cap) z.v (fun e w' => e = .returned (.int .i64 (cmp x y)) ∧ Below z.v.heap.size z.v w') from Hcall.out z.v ((HQ.out.2.1.below z.h).mono (fun i _ hi => by subst hi; rfl)) x y hxS.out hyS.out)
          rw [hR] at HK
          have HRR := Lib.hid hR
          have i1 : IntKind.i64.wrap ((j : Int) - 1) = (j : Int) - 1 := IntWalk.i64_in _ (by omega)
          have i2 : ((j : Int) - 1).toNat = j - 1 := by omega
          have i3 : (0 : Int) ≤ (j : Int) - 1 := by omega
          have i4 : (j : Int) - 1 < (xs.length : Int) := by omega
          have i5 : (0 : Int) < (j : Int) := by omega
          have i7 : 0 < j := by omega
          have i8 : decide ((0 : Int) < (j : Int)) = true := decide_eq_true i5
          have i9 : decide (0 < j) = true := decide_eq_true i7
          have i6 : (j : Int) < (xs.length : Int) := by omega
          clear hR ax ay how
          by_cases hneg : R < 0
          · go_wp2
            refine wp_region_aft wr.heap.size (by kernel_rfl) (by kernel_rfl) ?_
            repeat (go_big_quiet_step ((exact Calls.aft (Nat.le_refl _) (HK.out _))))
            refine wpQuiet_nil ?_
            intro w1 hw'
            obtain ⟨⟨_, hb1⟩, rfl⟩ := hw'
            have HO1 := Lib.hid (HQ.out.1.on hb1)
            have ax : w1.cell? ⟨g, j, none⟩ = some (.slice (sv x).A (sv x).n (sv x).c) := HO1.out.at_ (Down.at_x (by have := HP.out.2.1; omega))
            have ay : w1.cell? ⟨g, j - 1, none⟩ = some (.slice (sv y).A (sv y).n (sv y).c) := HO1.out.at_ (by
              have h1 := Down.at_y (p := p) (x := x) (rest := xs.drop (i + 1)) (j := j - 1) (by omega)
              rw [show j - 1 + 1 = j by omega] at h1
              rw [h1]; exact hy.out)
            have f1 := HO1.out.frozen j
            have f2 := HO1.out.frozen (j - 1)
            have HB1 := Lib.hid (HQ.out.2.1.below hb1)
            have hne : ¬ (j = j - 1) := by omega
            have hne' : ¬ (j - 1 = j) := by omega
            clear hb1 d1 d2
            go_wp2
            go_region
            all_goals
              go_wp2
              go_roundg (j - 1)
              case measure => omega
              case rel =>
                have hsw := Down.swap (p := p) (rest := xs.drop (i + 1)) (x := x) (y := y) (j := j - 1) hy.out
                rw [show j - 1 + 1 = j by omega] at hsw
                have h1 := ((HO1.out.put j y).put (j - 1) x).on (Below.refl _ _).drew
                rw [hsw] at h1
                refine ⟨by omega, congrArg (Value.int IntKind.i64) (by omega), h1, ((HB1.out.set (p := ⟨g, j, none⟩) (.inl rfl) _).set (p := ⟨g, j - 1, none⟩) (.inl rfl) _).drew, fun k z hk hz => ?_⟩
                rcases Nat.lt_or_ge k j with h3 | h3
                · obtain rfl : k = j - 1 := by omega
                  rw [hy.out] at hz; cases hz
                  rw [HRR.out]; exact hneg
                · exact HQ.out.2.2 k z h3 hz
          · go_wp2
            refine wp_region_aft wr.heap.size (by kernel_rfl) (by kernel_rfl) ?_
            repeat (go_big_quiet_step ((exact Calls.aft (Nat.le_refl _) (HK.out _))))
            refine wpQuiet_nil ?_
            intro w1 hw'
            obtain ⟨⟨_, hb1⟩, rfl⟩ := hw'
            go_wp2
            go_roundg (xs.length - (i + 1))
            case measure => omega
            case rel =>
              refine ⟨i + 1, by omega, by omega, by go_num, ?_, HQ.out.2.1.below hb1⟩
              rw [← down_done C HS.out hx.out HP.out.1 (j := j) (by have := HP.out.2.1; omega) HQ.out.2.2 (fun z _ hz => by rw [hy.out] at hz; cases hz; rw [HRR.out]; omega)]
              exact HQ.out.1.on hb1
    · go_wp2
      go_end0
      have hi : xs.length ≤ i := by omega
      refine ⟨rfl, ?_, HW.out.2⟩
      have h1 := HW.out.1
      rwa [List.take_of_length_le hi, List.drop_eq_nil_of_le hi, List.append_nil] at h1

end Go.Proofs.YtlhonhacehgooaaGreat

/-
  comparisonBy once more: its function value compares wherever the blocks from lo on are as they were.
-/
namespace Go.Proofs.YtlhonhacehgooaaGreat
open Go.RowKit Go.Qo
set_option linter.unusedVariables false
set_option linter.unusedSimpArgs false

/-- The blocks from lo on that were there are as they were. -/
structure From (lo : Nat) (w z : World) : Prop where
  size : w.heap.size ≤ z.heap.size
  block : ∀ k, lo ≤ k → k < w.heap.size → z.heap[k]? = w.heap[k]?
theorem From.below {lo : Nat} {w z : World} (h : Below w.heap.size w z) : From lo w z := ⟨h.size, fun k _ hk => h.block k hk⟩
theorem From.trans {lo : Nat} {w a z : World} (h : From lo w a) (k : From lo a z) : From lo w z := ⟨Nat.le_trans h.size k.size, fun i hl hi => (k.block i hl (by have := h.size; omega)).trans (h.block i hl hi)⟩
theorem From.only {lo : Nat} {w z : World} {S : Nat → Prop} (h : Only S w z) (hS : ∀ k, S k → k < lo) : From lo w z := ⟨h.size, fun k hl hk => h.block k hk fun hs => by have := hS k hs; omega⟩
def IsCmpF (lo : Nat) (w : World) (v : Value) (W : Int) (cmp : Row1 → Row1 → Int) : Prop :=
  ∃ (f : FuncId) (cap : Array Value), v = .func (.func f) #[] cap ∧ Callable f ∧ ∀ z : World, From lo w z → ∀ (A A' : Option Addr) (c c' : Nat) (a b : Row1), RowOk W a → RowOk W b → Sl 2 valC z z.heap.size A a → Sl 2 valC z z.heap.size A' b →
    Calls Tryz.prog f (#[.slice A a.length c, .slice A' b.length c'] ++ cap) z fun e w' => e = .returned (.int .i64 (cmp a b)) ∧ Below z.heap.size z w'
/-- A row with its slice. -/
abbrev SR := SV × Row1
def svOf (p : SR) : SV := p.1
/-- What a sorted element is: a valid row, read in w below B. -/
def SRok (W : Int) (B : Nat) (w : World) (p : SR) : Prop := RowOk W p.2 ∧ p.1.n = p.2.length ∧ p.2.length ≤ p.1.c ∧ p.1.c ≤ maxLen ∧ Sl 2 valC w B p.1.A p.2
def srCmp (keys : List Key) (p q : SR) : Int := kCmp keys p.2 q.2
theorem SRok.only {W : Int} {B : Nat} {w w' : World} {p : SR} {S : Nat → Prop} (h : SRok W B w p) (k : Only S w w') (hB : B ≤ w.heap.size) (hS : ∀ b, S b → B ≤ b) : SRok W B w' p :=
  ⟨h.1, h.2.1, h.2.2.1, h.2.2.2.1, h.2.2.2.2.keep fun b o hb => by
    have := k.block b (by omega) fun hs => by have := hS b hs; omega
    simp only [World.cell?, this]⟩
theorem IsCmpF.g {lo g n c B : Nat} {w : World} {v : Value} {W : Int} {keys : List Key} (h : IsCmpF lo w v W (kCmp keys)) (hg : g < lo) (hB : B ≤ w.heap.size) (hBg : B ≤ g) : IsCmpG (svCell svOf) (srCmp keys) (SRok W B w) w (.slice (some ⟨g, 0, none⟩) n c) v := by
  obtain ⟨f, cap, hv, hf, hc⟩ := h
  refine ⟨f, cap, hv, hf, fun z hz x y hx hy => ?_⟩
  have hz' : From lo w z := From.only hz fun k hk => by cases hk; exact hg
  have hS : ∀ b, (Value.slice (some ⟨g, 0, none⟩) n c).ownBlock = some b → B ≤ b := fun b hb => by cases hb; exact hBg
  have h1 := (hx.only hz hB hS).2.2.2.2.more (Nat.le_trans hB hz.size)
  have h2 := (hy.only hz hB hS).2.2.2.2.more (Nat.le_trans hB hz.size)
  have := hc z hz' x.1.A y.1.A x.1.c y.1.c x.2 y.2 hx.1 hy.1 h1 h2
  unfold svCell svOf
  rw [hx.2.1, hy.2.1]
  exact this
/-- Slices with their rows. -/
theorem zip_fst {svs : List SV} {rows : List Row1} (h : svs.length = rows.length) : (svs.zip rows).map (·.1) = svs := by rw [List.map_fst_zip (by omega)]
theorem zip_snd {svs : List SV} {rows : List Row1} (h : svs.length = rows.length) : (svs.zip rows).map (·.2) = rows := by rw [List.map_snd_zip (by omega)]
theorem pairs_cells : ∀ l : List SR, (l.flatMap fun x => [svCell svOf x]) = (l.map (·.1)).flatMap svC
  | [] => rfl
  | p :: l => by
    have ih := pairs_cells l
    simpa [svCell, svOf, svC] using ih
/-- The copy of the slices holds the pairs. -/
theorem Ow.pairs {lo g n c : Nat} {w : World} {svs : List SV} {rows : List Row1} (h : Ow lo 104 1 svC w (.slice (some ⟨g, 0, none⟩) n c) svs) (hl : svs.length = rows.length) (hn : n = svs.length) : OwL (svCell svOf) lo g (svs.zip rows).length c w (svs.zip rows) := by
  have hz : (svs.zip rows).length = svs.length := by simp [hl]
  refine ⟨rfl, ?_⟩
  rw [pairs_cells, zip_fst hl, hz]
  subst hn
  exact h
theorem pairs_ok {W : Int} {w : World} {A : Option Addr} {svs : List SV} {rows : List Row1} (hl : svs.length = rows.length) (hr : ∀ r ∈ rows, RowOk W r) (h : ∀ (i : Nat) (s : SV) (xs : Row1), svs[i]? = some s → rows[i]? = some xs → SVIs 2 valC w w.heap.size s xs) :
    ∀ p ∈ svs.zip rows, SRok W w.heap.size w p := by
  intro p hp
  obtain ⟨i, hi, rfl⟩ := List.getElem_of_mem hp
  have h1 : i < svs.length := by rw [List.length_zip] at hi; omega
  have h2 : i < rows.length := by omega
  have hq := h i svs[i] rows[i] (List.getElem?_eq_getElem h1) (List.getElem?_eq_getElem h2)
  rw [List.getElem_zip]
  exact ⟨hr _ (List.getElem_mem h2), hq.1, hq.2.1, hq.2.2.1, hq.2.2.2⟩

end Go.Proofs.YtlhonhacehgooaaGreat

/-
  Contract of slices.SortStableFunc at rows, fewer than twenty of them.
-/
namespace Go.Proofs.YtlhonhacehgooaaGreat
open Go.RowKit Go.Qo
set_option linter.unusedVariables false
set_option linter.unusedSimpArgs false

set_option maxHeartbeats 1000000 in
theorem insNil_ok (A : Option Addr) (c : Nat) (v : Value) (w : World) :
    Calls Tryz.prog 195 #[.slice A 0 c, .int .i64 0, .int .i64 0, v] w fun e w' => e = .returned (.tuple #[]) ∧ w = w' := by
  go_enter Tryz.func195, Tryz.ntmps195
  go_wp2
  go_loopg [8] 0 (fun gg v8 wr => v8 = .int .i64 1 ∧ w = wr)
  case atStart => exact ⟨rfl, rfl⟩
  case round =>
    obtain ⟨rfl, rfl⟩ := hrel
    go_wp2
    go_end0
    exact ⟨rfl, rfl⟩
set_option maxHeartbeats 1000000 in
theorem stableNil_ok (A : Option Addr) (c : Nat) (v : Value) (w : World) :
    Calls Tryz.prog 168 #[.slice A 0 c, .int .i64 0, v] w fun e w' => e = .returned (.tuple #[]) ∧ w = w' := by
  have HI := Lib.hid (fun z => insNil_ok A c v z)
  go_enter Tryz.func168, Tryz.ntmps168
  go_wp2
  go_loopg [7, 8] 0 (fun gg v7 v8 wr => v7 = .int .i64 0 ∧ v8 = .int .i64 20 ∧ w = wr)
  case atStart => exact ⟨rfl, rfl, rfl⟩
  case round =>
    obtain ⟨rfl, rfl, rfl⟩ := hrel
    go_wp2_with fail
    refine (HI.out _).mono ?_
    rintro e w1 ⟨rfl, rfl⟩
    go_wp2
    go_loopg [6, 7, 8] 0 (fun gg v6 v7 v8 wr => v6 = .int .i64 20 ∧ w = wr)
    case atStart => exact ⟨rfl, rfl⟩
    case round =>
      obtain ⟨rfl, rfl⟩ := hrel
      go_wp2
      go_end0
      exact ⟨rfl, rfl⟩
theorem sortStableNil_ok (A : Option Addr) (c : Nat) (v : Value) (w : World) :
    Calls Tryz.prog 128 #[.slice A 0 c, v] w fun e w' => e = .returned (.tuple #[]) ∧ w = w' := by
  have HI := Lib.hid (fun z => stableNil_ok A c v z)
  go_enter Tryz.func128, Tryz.ntmps128
  go_wp2_with fail
  refine (HI.out _).mono ?_
  rintro e w1 ⟨rfl, rfl⟩
  go_wp2
  go_end0
  exact ⟨rfl, rfl⟩

section
variable {α : Type} (sv : α → SV) (cmp : α → α → Int) (S : α → Prop)
set_option maxHeartbeats 1000000 in
theorem stable_ok (C : Cm cmp S) (lo g c : Nat) (xs : List α) (v : Value) (w : World) (hn : xs.length ≤ 19) (hS : ∀ x ∈ xs, S x)
    (hv : IsCmpG (svCell sv) cmp S w (.slice (some ⟨g, 0, none⟩) xs.length c) v) (h : OwL (svCell sv) lo g xs.length c w xs) :
    Calls Tryz.prog 168 #[.slice (some ⟨g, 0, none⟩) xs.length c, .int .i64 xs.length, v] w fun e w' => e = .returned (.tuple #[]) ∧ OwL (svCell sv) lo g xs.length c w' (gSort cmp xs) ∧ Only (fun i => i = g) w w' := by
  have HI := Lib.hid (insSort_ok sv cmp S C lo g c xs v w (by omega) hS hv h)
  clear h hv hS
  have hn1 : ¬ ((20 : Int) ≤ xs.length) := by omega
  have hn2 : ¬ ((20 : Int) < xs.length) := by omega
  go_enter Tryz.func168, Tryz.ntmps168
  go_wp2
  go_loopg [7, 8] 0 (fun gg v7 v8 wr => v7 = .int .i64 0 ∧ v8 = .int .i64 20 ∧ w = wr)
  case atStart => exact ⟨rfl, rfl, rfl⟩
  case round =>
    obtain ⟨rfl, rfl, rfl⟩ := hrel
    go_wp2_with fail
    refine HI.out.mono ?_
    rintro e w1 ⟨rfl, hO, hb⟩
    have H1 := Lib.hid (And.intro hO hb)
    clear hO hb
    go_wp2
    go_loopg [6, 7, 8] 0 (fun gg v6 v7 v8 wr => v6 = .int .i64 20 ∧ w1 = wr)
    case atStart => exact ⟨rfl, rfl⟩
    case round =>
      obtain ⟨rfl, rfl⟩ := hrel
      go_wp2
      go_end0
      exact ⟨rfl, H1.out.1, H1.out.2⟩
set_option maxHeartbeats 1000000 in
theorem sortStable_ok (C : Cm cmp S) (lo g c : Nat) (xs : List α) (v : Value) (w : World) (hn : xs.length ≤ 19) (hS : ∀ x ∈ xs, S x)
    (hv : IsCmpG (svCell sv) cmp S w (.slice (some ⟨g, 0, none⟩) xs.length c) v) (h : OwL (svCell sv) lo g xs.length c w xs) :
    Calls Tryz.prog 128 #[.slice (some ⟨g, 0, none⟩) xs.length c, v] w fun e w' => e = .returned (.tuple #[]) ∧ OwL (svCell sv) lo g xs.length c w' (gSort cmp xs) ∧ Only (fun i => i = g) w w' := by
  have HI := Lib.hid (stable_ok sv cmp S C lo g c xs v w hn hS hv h)
  clear h hv hS
  go_enter Tryz.func128, Tryz.ntmps128
  go_wp2_with fail
  refine HI.out.mono ?_
  rintro e w1 ⟨rfl, hO, hb⟩
  go_wp2
  go_end0
  exact ⟨rfl, hO, hb⟩
end

end Go.Proofs.YtlhonhacehgooaaGreat
