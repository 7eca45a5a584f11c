import Derived.Test.YtcbfbgngkdiijaaProg
import Derived.Test.YtcbfbgngkdiijaaZnPln
import Derived.Laws.CopyOwn
import Derived.Test.YtcbfbgngkdiijaaZnGa
/-
  Contracts of the functions of values and rows: the laws' own, the reference's, the program's.
-/
namespace Go.Proofs.Ytcbfbgngkdiijaa
open Go.RowKit Go.Qo
set_option linter.unusedVariables false
set_option linter.unusedSimpArgs false

/-! ### Numbers -/
set_option maxHeartbeats 400000 in
theorem inRange_ok (n lo hi : Int) (w : World) (r : Bool) (hr : (decide (lo ≤ n) && decide (n ≤ hi)) = r) :
    Calls Try.prog 44 #[.int .i64 n, .int .i64 lo, .int .i64 hi] w fun e w' => e = .returned (.bool r) ∧ w = w' := by
  subst hr
  by_cases h1 : lo ≤ n <;> by_cases h2 : n ≤ hi
  all_goals
    go_enter Try.func44, Try.ntmps44
    go_wp2
    go_ret
    exact ⟨ret_bool (by simp [h1, h2]; try omega), rfl⟩

set_option maxHeartbeats 400000 in
theorem validWidth_ok (n : Int) (w : World) (r : Bool) (hr : (decide (1 ≤ n) && decide (n ≤ 6)) = r) :
    Calls Try.prog 49 #[.int .i64 n] w fun e w' => e = .returned (.bool r) ∧ w = w' := by
  subst hr
  by_cases h1 : 1 ≤ n <;> by_cases h2 : n ≤ 6
  all_goals
    go_enter Try.func49, Try.ntmps49
    go_wp2
    go_ret
    exact ⟨ret_bool (by simp [h1, h2]; try omega), rfl⟩

set_option maxHeartbeats 400000 in
theorem specValidValue_ok (v : Val) (w : World) (r : Bool) (hr : vValid v = r) :
    Calls Try.prog 83 #[.agg #[.bool v.1, .int .i64 v.2]] w fun e w' => e = .returned (.bool r) ∧ Below w.heap.size w w' := by
  subst hr
  obtain ⟨nl, n⟩ := v
  have hx : vValid (nl, n) = ((decide (-9999 ≤ n) && decide (n ≤ 9999)) && (!nl || n == 0)) := by
    unfold vValid; cases nl <;> simp
    by_cases h : n = 0 <;> simp [h]
  obtain ⟨r, hr⟩ : ∃ r, (decide (-9999 ≤ n) && decide (n ≤ 9999)) = r := ⟨_, rfl⟩
  have c1 := Lib.hid (fun w => inRange_ok n (-9999) 9999 w r hr)
  rw [hx, hr]
  clear hx hr
  cases r <;> cases nl
  all_goals
    go_enter Try.func83, Try.ntmps83
    go_wp2_with fail
    refine (c1.out _).mono ?_; rintro e w' ⟨rfl, rfl⟩
    go_wp2
    go_ret
    exact ⟨ret_bool (by simp), balloc (Below.refl _ _) _⟩

set_option maxHeartbeats 400000 in
theorem implValid_ok (v : Val) (w : World) (r : Bool) (hr : vValid v = r) :
    Calls Try.prog 91 #[.agg #[.bool v.1, .int .i64 v.2]] w fun e w' => e = .returned (.bool r) ∧ Below w.heap.size w w' := by
  subst hr
  obtain ⟨nl, n⟩ := v
  unfold vValid
  by_cases h1 : -9999 ≤ n <;> cases nl
  all_goals
    go_enter Try.func91, Try.ntmps91
    go_wp2
    go_ret
    exact ⟨ret_bool (by simp [h1]; try omega), balloc (Below.refl _ _) _⟩

theorem neqVal {x y : Val} (r : Bool) (hr : decide (x ≠ y) = r) (w : World) : (binOp .neq 64 (.agg #[.bool x.1, .int .i64 x.2]) (.agg #[.bool y.1, .int .i64 y.2])).run Try.prog w = .ok (.bool r) w := by
  have hs : Try.prog.stoodInHeld 64 = false := by kernel_rfl
  subst hr
  obtain ⟨a, b⟩ := x
  obtain ⟨c, d⟩ := y
  simp [go_sem, hs]
  by_cases h1 : a = c <;> by_cases h2 : b = d <;> simp [h1, h2]
theorem zeroVal : (Try.prog.info? 64).map (fun i => (i.zero, i.size, i.bytes)) = some (some (.agg #[.bool false, .int .i64 0]), 2, 16) := by kernel_rfl

end Go.Proofs.Ytcbfbgngkdiijaa

/-
  Contracts of the functions of sort keys: laws' own copies, sizes and comparisons.
-/
namespace Go.Proofs.Ytcbfbgngkdiijaa
open Go.RowKit Go.Qo
set_option linter.unusedVariables false
set_option linter.unusedSimpArgs false

abbrev Key := Int × Bool
def keyC (k : Key) : List Value := [.int .i64 k.1, .bool k.2]

theorem Key.at_ {w : World} {B : Nat} {A : Option Addr} {xs : List Key} (h : Sl 2 keyC w B A xs) {i : Nat} (hi : i < xs.length) :
    ∃ b off, A = some ⟨b, off, none⟩ ∧ b < B ∧ w.cell? ⟨b, off + i * 2, none⟩ = some (.int .i64 xs[i].1) ∧ w.cell? ⟨b, off + i * 2 + 1, none⟩ = some (.bool xs[i].2) :=
  Sl.at2 (f := fun k : Key => .int .i64 k.1) (g := fun k : Key => .bool k.2) h hi

end Go.Proofs.Ytcbfbgngkdiijaa

/-
  Several texts in one (Row Tab).
-/
/-
  Contracts of the functions of rows and lists of rows.
-/
namespace Go.Proofs.Ytcbfbgngkdiijaa
open Go.RowKit Go.Qo
set_option linter.unusedVariables false
set_option linter.unusedSimpArgs false

/-- Behind k rounds of a copy of a list of rows. -/
structure CopyK (w : World) (B0 : Nat) (bs : List Nat) (rows : List Row1) (k : Nat) : Prop where
  len : bs.length = k
  outer : Row w B0 99 (rowsC bs (rows.take k) ++ zeros [.slice none 0 0] (rows.length - k))
  inner : ∀ (i c : Nat) (r : Row1), bs[i]? = some c → rows[i]? = some r → Row w c 64 (r.flatMap valC)
  nodup : bs.Nodup
  low : ∀ c ∈ bs, B0 < c ∧ c < w.heap.size

theorem CopyK.below {w w1 : World} {B0 : Nat} {bs : List Nat} {rows : List Row1} {k : Nat} (h : CopyK w B0 bs rows k) (hb : Below w.heap.size w w1) : CopyK w1 B0 bs rows k :=
  ⟨h.len, h.outer.on hb, fun i c r h1 h2 => (h.inner i c r h1 h2).on hb, h.nodup, fun c hc => by have := h.low c hc; have := hb.size; omega⟩

theorem CopyK.done {w : World} {B0 : Nat} {bs : List Nat} {rows : List Row1} {k : Nat} (h : CopyK w B0 bs rows k) (hk : k = rows.length) : OwnRs valC 99 64 w B0 B0 bs rows [] := by
  subst hk
  refine ⟨h.len, h.outer.of (by rw [List.take_length, Nat.sub_self]; rfl), h.inner, h.nodup, fun c hc => ?_, Nat.le_refl _⟩
  have := h.low c hc; omega

end Go.Proofs.Ytcbfbgngkdiijaa

/-
  Contracts of the functions of tables.
-/
namespace Go.Proofs.Ytcbfbgngkdiijaa
open Go.RowKit Go.Qo
set_option linter.unusedVariables false
set_option linter.unusedSimpArgs false

end Go.Proofs.Ytcbfbgngkdiijaa

/-
  copy of a whole slice into a new one, its elements of any number of cells; contracts of copied.
-/
namespace Go.Proofs.Ytcbfbgngkdiijaa
open Go.RowKit Go.Qo
set_option linter.unusedVariables false
set_option linter.unusedSimpArgs false

theorem run_copy_new {P : Program} (w : World) (dT sT ty elem : TypeId) (g n dCap sz : Nat) (a : Addr) (sCap : Nat) (cur : Array Value) (t : TypeId) (cs : List Value)
    (hu : P.underlying dT = some (.slice elem)) (hs : (P.info? elem).map (·.size) = some sz)
    (hg : w.heap[g]? = some (.cells cur t (0, 0))) (hn : cs.length = n * sz)
    (hsrc : ∀ j v, cs[j]? = some v → w.cell? (a.add j) = some v) (hfit : cs.length = cur.size) (h1 : ∀ v ∈ cs, v.oneCell' = true) :
    (Builtin.copy_ #[dT, sT] ty #[.slice (some ⟨g, 0, none⟩) n dCap, .slice (some a) n sCap]).run P w = .ok (goInt n) (w.setRow g cs.toArray) := by
  have hl := run_loadCells_list (P := P) w a cs hsrc
  have hst := run_storeCells_at P g 0 t cs 0 cur w hg (by omega) h1
  have he : (cur.toList.take (0 + 0) ++ cs ++ cur.toList.drop (0 + 0 + cs.length)).toArray = cs.toArray := by
    have : cur.toList.drop (0 + 0 + cs.length) = [] := List.drop_eq_nil_of_le (by rw [Array.length_toList]; omega)
    rw [this]; simp
  rw [he] at hst
  cases hq : P.info? elem with
  | none => simp [hq] at hs
  | some i =>
    have hi : i.size = sz := by simpa [hq] using hs
    simp [Builtin.copy_, run_underlying hu, Builtin.lenOf, Builtin.firstCells, sizeOf, typeInfo, hq, hi, ← hn, hl, hst]
/-- What a slice reads as, cell by cell. -/
theorem slCells {α : Type} {sz : Nat} (hsz : 0 < sz) {enc : α → List Value} (he : ∀ x, (enc x).length = sz) {w : World} {B b off : Nat} {xs : List α} (h : Sl sz enc w B (some ⟨b, off, none⟩) xs) : ∀ j v, (xs.flatMap enc)[j]? = some v → w.cell? ((⟨b, off, none⟩ : Addr).add j) = some v := by
  intro j u hu
  have hj : j < xs.length * sz := by rw [← flat_length sz enc he xs]; exact (List.getElem?_eq_some_iff.1 hu).1
  have h0 : 0 < xs.length := Nat.pos_of_ne_zero fun h => by rw [h] at hj; omega
  obtain ⟨b', off', hA, _, hc⟩ := h h0
  cases hA
  have hdm : j / sz * sz + j % sz = j := by rw [Nat.mul_comm]; exact Nat.div_add_mod j sz
  have hi2 : j / sz < xs.length := (Nat.div_lt_iff_lt_mul hsz).2 hj
  have hxi := List.getElem?_eq_getElem hi2
  have hjm : j % sz < (enc xs[j / sz]).length := by rw [he]; exact Nat.mod_lt _ hsz
  have hu' := flat_get sz enc he xs (j / sz) _ (j % sz) _ hxi (List.getElem?_eq_getElem hjm)
  rw [hdm, hu] at hu'
  cases hu'
  have := hc (j / sz) _ hxi (j % sz) _ (List.getElem?_eq_getElem hjm)
  rw [Nat.add_assoc, hdm] at this
  rwa [Addr.add_lit]

end Go.Proofs.Ytcbfbgngkdiijaa

/-
  Contract: a copy of a list of flags (the program's copied[bool]).
-/
namespace Go.Proofs.Ytcbfbgngkdiijaa
open Go.RowKit Go.Qo
set_option linter.unusedVariables false
set_option linter.unusedSimpArgs false

theorem zeroBoolN : (Try.prog.info? 4).map (fun i => (i.zero, i.size, i.bytes)) = some (some (.bool false), 1, 1) := by kernel_rfl
set_option maxRecDepth 20000 in
set_option maxHeartbeats 1000000 in
theorem copiedB_ok (A : Option Addr) (c : Nat) (xs : List Bool) (w : World) (hn : xs.length ≤ 1048576) (h : Sl 1 boolC w w.heap.size A xs) :
    Calls Try.prog 32 #[.slice A xs.length c] w fun e w' => ∃ v, e = .returned v ∧ Ow w.heap.size 4 1 boolC w' v xs ∧ Below w.heap.size w w' := by
  rcases Nat.eq_zero_or_pos xs.length with h0 | h0
  · have hx : xs = [] := List.eq_nil_of_length_eq_zero h0
    subst hx
    clear h
    go_enter Try.func32, Try.ntmps32
    go_wp2
    go_ret
    exact ⟨_, rfl, Ow.nil, Below.refl _ _⟩
  · obtain ⟨b, off, rfl, hB, hc⟩ := h h0
    have hne : ((xs.length : Int) == 0) = false := by rw [beq_eq_false_iff_ne]; omega
    have hne2 : ¬ ((xs.length : Int) = 0) := by omega
    have hmk := run_make_rowN (P := Try.prog) 31 4 _ _ _ Try.underlying31 zeroBoolN .i64 .i64 xs.length (by omega) (by omega)
    have hcp := run_copy_new (P := Try.prog) (w.alloc (.cells (madeCells #[.bool false] xs.length) 4)) 31 31 3 4 w.heap.size xs.length xs.length 1 ⟨b, off, none⟩ c _ _ (xs.flatMap boolC) Try.underlying31 (by kernel_rfl) (heap_alloc_new w _) (flat_length 1 boolC boolC_length xs) (slCells (by omega) boolC_length (h.on (balloc (Below.refl _ _) _))) (by rw [flat_length 1 boolC boolC_length xs]; simp [madeCells]) (fun v hv => by obtain ⟨y, _, hy⟩ := List.mem_flatMap.1 hv; exact boolC_one y v hy)
    have hrow : Row ((w.alloc (.cells (madeCells #[.bool false] xs.length) 4)).setRow w.heap.size (xs.flatMap boolC).toArray) w.heap.size 4 (xs.flatMap boolC) := setRow_heap _ _ _ _ _ _ (heap_alloc_new w _)
    have hbel : Below w.heap.size w ((w.alloc (.cells (madeCells #[.bool false] xs.length) 4)).setRow w.heap.size (xs.flatMap boolC).toArray) := below_setRow (balloc (Below.refl _ _) _) (Nat.le_refl _) _
    have HR := Lib.hid (And.intro hrow hbel)
    clear h hc hrow hbel
    go_enter Try.func32, Try.ntmps32
    go_wp2
    go_ret
    exact ⟨_, rfl, ⟨flat_length 1 boolC boolC_length xs, .inr ⟨w.heap.size, xs.length, _, rfl, Nat.le_refl _, HR.out.1, Nat.le_refl _, by unfold maxLen; omega, by simp [flat_length 1 boolC boolC_length xs], by simp; rw [List.take_of_length_le (by rw [flat_length 1 boolC boolC_length xs]; omega)]⟩⟩, HR.out.2⟩

end Go.Proofs.Ytcbfbgngkdiijaa
