/-
  The text of an expression, in plain Lean.
-/
import Derived.Test.YtmhlpjfijpomkaaGreatDoorExV
import Derived.Lib.ItoaNum
namespace Go.Qo
open Go.RowKit
set_option linter.unusedVariables false
set_option linter.unusedSimpArgs false

/-- A text as a value. -/
def bArr (l : List UInt8) : ByteArray := ⟨l.toArray⟩
def strV (l : List UInt8) : Value := .string ⟨l.toArray⟩
def valText (v : Val) : List UInt8 := if v.1 then [110, 117, 108, 108] else Lib.itoa v.2
def opTexts : List (List UInt8) := [[], [99, 111, 108], [118, 97, 108], [43], [45], [42], [61], [60], [97, 110, 100], [111, 114], [110, 111, 116], [110, 117, 108, 108]]
def opText (k : Int) : List UInt8 := opTexts.getD k.toNat []
mutual
def exText : Ex → List UInt8
  | .mk k c v ks => if k = 1 then 35 :: Lib.itoa c else if k = 2 then valText v else 40 :: (opText k ++ (exsText ks ++ [41]))
def exsText : List Ex → List UInt8
  | [] => []
  | x :: xs => 32 :: (exText x ++ exsText xs)
end
theorem exText_eq (e : Ex) : exText e = if e.kind = 1 then 35 :: Lib.itoa e.col else if e.kind = 2 then valText e.val else 40 :: (opText e.kind ++ (exsText e.kids ++ [41])) := by
  obtain ⟨k, c, v, ks⟩ := e
  rw [exText]
  rfl
theorem exsText_append : ∀ (a b : List Ex), exsText (a ++ b) = exsText a ++ exsText b
  | [], b => by simp [exsText]
  | x :: a, b => by simp [exsText, exsText_append a b]
theorem exsText_snoc (a : List Ex) (x : Ex) : exsText (a ++ [x]) = exsText a ++ 32 :: exText x := by rw [exsText_append]; simp [exsText]
end Go.Qo
