/-
  Texts that grow: slices of bytes of the call's own. No program in sight.
-/
import Derived.Test.YtmhlpjfijpomkaaGreatDoorZqPln
import Derived.Test.YtmhlpjfijpomkaaGreatDoorZqGa
import Derived.Lib.AppendStr
import Derived.Lib.UnsafeStr
import Derived.Lib.AppendIntMem
namespace Go.Qo
open Go.RowKit
set_option linter.unusedVariables false
set_option linter.unusedSimpArgs false

def ubC (b : UInt8) : List Value := [.int .u8 b.toNat]
theorem ubC_length (b : UInt8) : (ubC b).length = 1 := rfl
theorem ubC_one (b : UInt8) : ∀ u ∈ ubC b, u.oneCell' = true := by intro u hu; simp [ubC] at hu; subst hu; rfl
theorem ub_flat (l : List UInt8) : l.flatMap ubC = Lib.byteCells l := by
  induction l with
  | nil => rfl
  | cons b l ih => rw [List.flatMap_cons, ih]; rfl
section
variable {P : Program} {lo : Nat} {e : TypeId}
/-- v is a slice of the call's own that reads as the text l. -/
def Bt (lo : Nat) (e : TypeId) (w : World) (v : Value) (l : List UInt8) : Prop := Ow lo e 1 ubC w v l
theorem Bt.row {w : World} {v : Value} {l : List UInt8} (h : Bt lo e w v l) : w.ownsRow lo e 1 v l.length (Lib.byteCells l) := by
  unfold Bt Ow at h
  rwa [ub_flat] at h
theorem Bt.of {w : World} {v : Value} {l : List UInt8} (h : w.ownsRow lo e 1 v l.length (Lib.byteCells l)) : Bt lo e w v l := by
  unfold Bt Ow
  rwa [ub_flat]
theorem Bt.nil {w : World} : Bt lo e w (.slice none 0 0) [] := Ow.nil
theorem Bt.on {w w' : World} {v : Value} {l : List UInt8} (h : Bt lo e w v l) (hb : Below w.heap.size w w') : Bt lo e w' v l := Ow.on h hb
theorem Bt.low {w : World} {v : Value} {l : List UInt8} {lo' : Nat} (h : Bt lo e w v l) (hl : lo' ≤ lo) : Bt lo' e w v l := Ow.low h hl
theorem Bt.lt {w : World} {v : Value} {l : List UInt8} (h : Bt lo e w v l) : ∀ k, v.ownBlock = some k → lo ≤ k := fun k hk => (Ow.ty h k hk).1
/-- Ending in a text: a string. -/
theorem wpList_btS {w : World} {ops : Array Oper} {rest : List Oper} {o : Oper} {a : Act} {Q : Exit → Act → World → Prop} (hgd : o.guard = none) (s x : Operand) (t u : TypeId)
    (ho : o.op = .call { callee := .builtin .append, args := #[s, x], argTypes := #[t, u] }) (lo : Nat) (e : TypeId) (ht : P.underlying t = some (.slice e)) (hu : P.underlying u = some .string)
    (hi : (P.info? e).map (fun i => (i.zero, i.size, i.bytes)) = some (some (.int .u8 0), 1, 1))
    (v : Value) (l : List UInt8) (hs : a.eval s = v) (hown : Bt lo e w v l) (S : ByteArray) (m : List UInt8) (hx : a.eval x = .string S) (hS : bArr m = S)
    (hlen : l.length + m.length ≤ 1099511627776) (hlo : lo ≤ w.heap.size)
    (h : ∀ v' w', Bt lo e w' v' (l ++ m) → Below lo w w' → wpList P ops Q rest (a.put o.dst v') w') : wpList P ops Q (o :: rest) a w := by
  subst hS
  obtain ⟨i, hi, hz, hsi, hb⟩ := info_parts hi
  have hm : (bArr m).size = m.length := rfl
  refine Lib.wpList_append_own_string w hgd s x t u ho lo e i ht hu hi hz hsi hb v l.length (Lib.byteCells l) hs hown.row (bArr m) hx (by rw [hm]; unfold maxLen; omega) (by rw [hm]; omega) hlo fun v' w' h1 h2 _ => h v' w' ?_ ?_
  · refine Bt.of ?_
    rw [Lib.byteCells_append, List.length_append]
    exact h1
  · exact (Below.refl lo w).grown h2 hlo fun k hk => hown.lt k hk
/-- Ending in a text: bytes that lie in a slice. -/
theorem wpList_btL {w : World} {ops : Array Oper} {rest : List Oper} {o : Oper} {a : Act} {Q : Exit → Act → World → Prop} (hgd : o.guard = none) (s x : Operand) (t : TypeId)
    (ho : o.op = .call { callee := .builtin .append, args := #[s, x], argTypes := #[t, t] }) (lo : Nat) (e : TypeId) (ht : P.underlying t = some (.slice e))
    (hi : (P.info? e).map (fun i => (i.zero, i.size, i.bytes)) = some (some (.int .u8 0), 1, 1))
    (v : Value) (l : List UInt8) (hs : a.eval s = v) (hown : Bt lo e w v l) (A : Option Addr) (n c : Nat) (m : List UInt8) (hx : a.eval x = .slice A n c) (hn : n = m.length) (hm : Sl 1 ubC w w.heap.size A m)
    (hlen : l.length + m.length ≤ 1099511627776) (hlo : lo ≤ w.heap.size)
    (h : ∀ v' w', Bt lo e w' v' (l ++ m) → Below lo w w' → wpList P ops Q rest (a.put o.dst v') w') : wpList P ops Q (o :: rest) a w :=
  wpList_app hgd s x t ho lo e (.int .u8 0) 1 1 ubC ht hi rfl (by decide) (by decide) ubC_length ubC_one v l hs hown A n c m hx hn hm hlen hlo fun v' w' h1 h2 => h v' w' h1 ((Below.refl lo w).grown h2 hlo fun k hk => hown.lt k hk)
theorem step_btL {w : World} {ops : Array Oper} {o : Oper} {a : Act} {K : Act → World → Prop} {Q : Exit → Act → World → Prop} {E : Prop} (hgd : o.guard = none) (s x : Operand) (t : TypeId)
    (ho : o.op = .call { callee := .builtin .append, args := #[s, x], argTypes := #[t, t] }) (lo : Nat) (e : TypeId) (ht : P.underlying t = some (.slice e))
    (hi : (P.info? e).map (fun i => (i.zero, i.size, i.bytes)) = some (some (.int .u8 0), 1, 1))
    (v : Value) (l : List UInt8) (hs : a.eval s = v) (hown : Bt lo e w v l) (A : Option Addr) (n c : Nat) (m : List UInt8) (hx : a.eval x = .slice A n c) (hn : n = m.length) (hm : Sl 1 ubC w w.heap.size A m)
    (hlen : l.length + m.length ≤ 1099511627776) (hlo : lo ≤ w.heap.size)
    (h : ∀ v' w', Bt lo e w' v' (l ++ m) → Below lo w w' → K (a.put o.dst v') w') : if Region.wanted o (yielded ops a.tmps) = true then Oper.wp P o a w K Q else E :=
  step_app hgd s x t ho lo e (.int .u8 0) 1 1 ubC ht hi rfl (by decide) (by decide) ubC_length ubC_one v l hs hown A n c m hx hn hm hlen hlo fun v' w' h1 h2 => h v' w' h1 ((Below.refl lo w).grown h2 hlo fun k hk => hown.lt k hk)
end
/-- The row of one byte that a literal lays. -/
theorem ub_row {w : World} {e : TypeId} (b : UInt8) : Sl 1 ubC (w.alloc (.cells #[.int .u8 b.toNat] e)) (w.alloc (.cells #[.int .u8 b.toNat] e)).heap.size (some ⟨w.heap.size, 0, none⟩) [b] :=
  Row.sl' (t := e) ubC_length ((Row.new w e _).of rfl)
end Go.Qo
