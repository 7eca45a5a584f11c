/-
  Contract of slices.SortStableFunc at rows, fewer than twenty of them.
-/
import Derived.Test.YtlhonhacehgooaaGreatProg
import Derived.Test.YtlhonhacehgooaaGreatZgCmpG
namespace Go.Proofs.YtlhonhacehgooaaGreat
open Go.RowKit Go.Qo
set_option linter.unusedVariables false
set_option linter.unusedSimpArgs false

set_option maxHeartbeats 1000000 in
theorem insNil_ok (A : Option Addr) (c : Nat) (v : Value) (w : World) :
    Calls Tryz.prog 195 #[.slice A 0 c, .int .i64 0, .int .i64 0, v] w fun e w' => e = .returned (.tuple #[]) ∧ w = w' := by
  go_enter Tryz.func195, Tryz.ntmps195
  go_wp2
  go_loopg [8] 0 (fun gg v8 wr => v8 = .int .i64 1 ∧ w = wr)
  case atStart => exact ⟨rfl, rfl⟩
  case round =>
    obtain ⟨rfl, rfl⟩ := hrel
    go_wp2
    go_end0
    exact ⟨rfl, rfl⟩
set_option maxHeartbeats 1000000 in
theorem stableNil_ok (A : Option Addr) (c : Nat) (v : Value) (w : World) :
    Calls Tryz.prog 168 #[.slice A 0 c, .int .i64 0, v] w fun e w' => e = .returned (.tuple #[]) ∧ w = w' := by
  have HI := Lib.hid (fun z => insNil_ok A c v z)
  go_enter Tryz.func168, Tryz.ntmps168
  go_wp2
  go_loopg [7, 8] 0 (fun gg v7 v8 wr => v7 = .int .i64 0 ∧ v8 = .int .i64 20 ∧ w = wr)
  case atStart => exact ⟨rfl, rfl, rfl⟩
  case round =>
    obtain ⟨rfl, rfl, rfl⟩ := hrel
    go_wp2_with fail
    refine (HI.out _).mono ?_
    rintro e w1 ⟨rfl, rfl⟩
    go_wp2
    go_loopg [6, 7, 8] 0 (fun gg v6 v7 v8 wr => v6 = .int .i64 20 ∧ w = wr)
    case atStart => exact ⟨rfl, rfl⟩
    case round =>
      obtain ⟨rfl, rfl⟩ := hrel
      go_wp2
      go_end0
      exact ⟨rfl, rfl⟩
theorem sortStableNil_ok (A : Option Addr) (c : Nat) (v : Value) (w : World) :
    Calls Tryz.prog 128 #[.slice A 0 c, v] w fun e w' => e = .returned (.tuple #[]) ∧ w = w' := by
  have HI := Lib.hid (fun z => stableNil_ok A c v z)
  go_enter Tryz.func128, Tryz.ntmps128
  go_wp2_with fail
  refine (HI.out _).mono ?_
  rintro e w1 ⟨rfl, rfl⟩
  go_wp2
  go_end0
  exact ⟨rfl, rfl⟩

section
variable {α : Type} (sv : α → SV) (cmp : α → α → Int) (S : α → Prop)
set_option maxHeartbeats 1000000 in
theorem stable_ok (C : Cm cmp S) (lo g c : Nat) (xs : List α) (v : Value) (w : World) (hn : xs.length ≤ 19) (hS : ∀ x ∈ xs, S x)
    (hv : IsCmpG (svCell sv) cmp S w (.slice (some ⟨g, 0, none⟩) xs.length c) v) (h : OwL (svCell sv) lo g xs.length c w xs) :
    Calls Tryz.prog 168 #[.slice (some ⟨g, 0, none⟩) xs.length c, .int .i64 xs.length, v] w fun e w' => e = .returned (.tuple #[]) ∧ OwL (svCell sv) lo g xs.length c w' (gSort cmp xs) ∧ Only (fun i => i = g) w w' := by
  have HI := Lib.hid (insSort_ok sv cmp S C lo g c xs v w (by omega) hS hv h)
  clear h hv hS
  have hn1 : ¬ ((20 : Int) ≤ xs.length) := by omega
  have hn2 : ¬ ((20 : Int) < xs.length) := by omega
  go_enter Tryz.func168, Tryz.ntmps168
  go_wp2
  go_loopg [7, 8] 0 (fun gg v7 v8 wr => v7 = .int .i64 0 ∧ v8 = .int .i64 20 ∧ w = wr)
  case atStart => exact ⟨rfl, rfl, rfl⟩
  case round =>
    obtain ⟨rfl, rfl, rfl⟩ := hrel
    go_wp2_with fail
    refine HI.out.mono ?_
    rintro e w1 ⟨rfl, hO, hb⟩
    have H1 := Lib.hid (And.intro hO hb)
    clear hO hb
    go_wp2
    go_loopg [6, 7, 8] 0 (fun gg v6 v7 v8 wr => v6 = .int .i64 20 ∧ w1 = wr)
    case atStart => exact ⟨rfl, rfl⟩
    case round =>
      obtain ⟨rfl, rfl⟩ := hrel
      go_wp2
      go_end0
      exact ⟨rfl, H1.out.1, H1.out.2⟩
set_option maxHeartbeats 1000000 in
theorem sortStable_ok (C : Cm cmp S) (lo g c : Nat) (xs : List α) (v : Value) (w : World) (hn : xs.length ≤ 19) (hS : ∀ x ∈ xs, S x)
    (hv : IsCmpG (svCell sv) cmp S w (.slice (some ⟨g, 0, none⟩) xs.length c) v) (h : OwL (svCell sv) lo g xs.length c w xs) :
    Calls Tryz.prog 128 #[.slice (some ⟨g, 0, none⟩) xs.length c, v] w fun e w' => e = .returned (.tuple #[]) ∧ OwL (svCell sv) lo g xs.length c w' (gSort cmp xs) ∧ Only (fun i => i = g) w w' := by
  have HI := Lib.hid (stable_ok sv cmp S C lo g c xs v w hn hS hv h)
  clear h hv hS
  go_enter Tryz.func128, Tryz.ntmps128
  go_wp2_with fail
  refine HI.out.mono ?_
  rintro e w1 ⟨rfl, hO, hb⟩
  go_wp2
  go_end0
  exact ⟨rfl, hO, hb⟩
end

end Go.Proofs.YtlhonhacehgooaaGreat
