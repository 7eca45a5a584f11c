/-
  slices.SortFunc at no rows.
-/
import Derived.Test.YtlhonhacehgooaaGreatProg
import Derived.Test.YtlhonhacehgooaaGreatZgSfn
namespace Go.Proofs.YtlhonhacehgooaaGreat
open Go.RowKit Go.Qo
set_option linter.unusedVariables false
set_option linter.unusedSimpArgs false

set_option maxHeartbeats 1000000 in
theorem insNone_ok (A : Option Addr) (c : Nat) (v : Value) (w : World) :
    Calls Tryz.prog 195 #[.slice A 0 c, .int .i64 0, .int .i64 0, v] w fun e w' => e = .returned (.tuple #[]) ∧ w = w' := by
  go_enter Tryz.func195, Tryz.ntmps195
  go_wp2
  go_loopg [8] 0 (fun gg v8 wr => v8 = .int .i64 1 ∧ w = wr)
  case atStart => exact ⟨rfl, rfl⟩
  case round =>
    obtain ⟨rfl, rfl⟩ := hrel
    go_wp2
    go_end0
    exact ⟨rfl, rfl⟩
set_option maxRecDepth 20000 in
set_option maxHeartbeats 1000000 in
theorem pdqNone_ok (A : Option Addr) (c : Nat) (n : Int) (v : Value) (w : World) :
    Calls Tryz.prog 157 #[.slice A 0 c, .int .i64 0, .int .i64 0, .int .i64 n, v] w fun e w' => e = .returned (.tuple #[]) ∧ w = w' := by
  have HI := Lib.hid (fun z => insNone_ok A c v z)
  go_enter Tryz.func157, Tryz.ntmps157
  go_wp2
  go_loopg [1, 2, 3, 10, 11] 0 (fun gg v1 v2 v3 v10 v11 wr => v1 = .int .i64 0 ∧ v2 = .int .i64 0 ∧ w = wr)
  case atStart => exact ⟨rfl, rfl, rfl⟩
  case round =>
    obtain ⟨rfl, rfl, rfl⟩ := hrel
    go_wp2_with fail
    refine (HI.out _).mono ?_
    rintro e w1 ⟨rfl, rfl⟩
    go_wp2
    exact bodyPost_ret (results_none rfl _ _ _) rfl ⟨rfl, rfl⟩
set_option maxHeartbeats 1000000 in
theorem sortFuncNone_ok (A : Option Addr) (c : Nat) (v : Value) (w : World) :
    Calls Tryz.prog 115 #[.slice A 0 c, v] w fun e w' => e = .returned (.tuple #[]) ∧ w = w' := by
  have HI := Lib.hid (fun n z => pdqNone_ok A c n v z)
  have hl : ∀ z, Calls Tryz.prog 158 #[.int .u64 0] z fun e w' => e = .returned (.int .i64 (Lib.bitLen 0 : Nat)) ∧ w' = z := fun z => by
    have h := Any.bits_Len (SlLaysF0.n15.bits (P := Tryz.prog) (ρ := Tryz.sortRowsL_ren) { Tryz.sortRowsL with }) (0 : Int) z (by omega) (by omega)
    exact h
  have HL := Lib.hid hl
  clear hl
  go_enter Tryz.func115, Tryz.ntmps115
  go_wp2_with fail
  refine (HL.out _).mono ?_
  rintro e w0 ⟨rfl, rfl⟩
  go_wp2_with fail
  refine (HI.out _ _).mono ?_
  rintro e w1 ⟨rfl, rfl⟩
  go_wp2
  go_end0
  exact ⟨rfl, rfl⟩
end Go.Proofs.YtlhonhacehgooaaGreat
