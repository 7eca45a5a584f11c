import Derived.Test.YtcbfbgngkdiijaaGreatProg
import Derived.Test.YtcbfbgngkdiijaaGreatZcPln
import Derived.Test.YtcbfbgngkdiijaaGreatZcRwt
import Derived.Test.YtcbfbgngkdiijaaGreatZcJsx
import Derived.Test.YtcbfbgngkdiijaaGreatZcCol
import Derived.Test.YtcbfbgngkdiijaaGreatZcGa
import Derived.Test.YtcbfbgngkdiijaaGreatZcVal
import Derived.Deep.RegionLaw
import Derived.StillTailTactics
import Derived.Test.YtcbfbgngkdiijaaGreatZcGe
import Derived.Test.YtcbfbgngkdiijaaGreatZcRsx
namespace Go.Proofs.YtcbfbgngkdiijaaGreat
open Go.RowKit Go.Qo
set_option linter.unusedVariables false
set_option linter.unusedSimpArgs false

end Go.Proofs.YtcbfbgngkdiijaaGreat

namespace Go.Proofs.YtcbfbgngkdiijaaGreat
open Go.RowKit Go.Qo
set_option linter.unusedVariables false
set_option linter.unusedSimpArgs false

end Go.Proofs.YtcbfbgngkdiijaaGreat

namespace Go.Proofs.YtcbfbgngkdiijaaGreat
open Go.RowKit Go.Qo
set_option linter.unusedVariables false
set_option linter.unusedSimpArgs false

end Go.Proofs.YtcbfbgngkdiijaaGreat

namespace Go.Proofs.YtcbfbgngkdiijaaGreat
open Go.RowKit Go.Qo
set_option linter.unusedVariables false
set_option linter.unusedSimpArgs false

def vAgg (v : Val) : Value := .agg #[.bool v.1, .int .i64 v.2]
set_option maxHeartbeats 400000 in
theorem specNumber_ok (n : Int) (w : World) : Calls Tryz.prog 122 #[.int .i64 n] w fun e w' => e = .returned (vAgg (numV n)) ∧ Below w.heap.size w w' := by
  obtain ⟨r, hr⟩ : ∃ r, (decide (-9999 ≤ n) && decide (n ≤ 9999)) = r := ⟨_, rfl⟩
  have c1 := Lib.hid (fun w => inRange_ok n (-9999) 9999 w r hr)
  cases r
  · have e : numV n = (true, 0) := by unfold numV; rw [if_neg (by simpa using hr)]
    rw [e]
    clear e hr
    go_enter Tryz.func122, Tryz.ntmps122
    go_wp2_with fail
    refine (c1.out _).mono ?_; rintro e w' ⟨rfl, rfl⟩
    go_wp2
    exact bodyPost_ret (v := .agg #[.bool true, .int .i64 0]) (by simp [results, Tryz.results122, go_sem]) rfl ⟨rfl, balloc (Below.refl _ _) _⟩
  · have e : numV n = (false, n) := by unfold numV; rw [if_pos (by simpa using hr)]
    rw [e]
    clear e hr
    go_enter Tryz.func122, Tryz.ntmps122
    go_wp2_with fail
    refine (c1.out _).mono ?_; rintro e w' ⟨rfl, rfl⟩
    go_wp2
    exact bodyPost_ret (v := .agg #[.bool false, .int .i64 n]) (by simp [results, Tryz.results122, go_sem]) rfl ⟨rfl, balloc (Below.refl _ _) _⟩

theorem below_put {B b : Nat} {a z : World} (h : Below B a z) (hb : B ≤ b) (u u' : Value) : Below B a ((z.setCell ⟨b, 0, none⟩ u).setCell ⟨b, 1, none⟩ u') := (h.setCell hb _).setCell hb _
end Go.Proofs.YtcbfbgngkdiijaaGreat

namespace Go.Proofs.YtcbfbgngkdiijaaGreat
open Go.RowKit Go.Qo
set_option linter.unusedVariables false
set_option linter.unusedSimpArgs false

end Go.Proofs.YtcbfbgngkdiijaaGreat

namespace Go.Proofs.YtcbfbgngkdiijaaGreat
open Go.RowKit Go.Qo
set_option linter.unusedVariables false
set_option linter.unusedSimpArgs false

theorem implNull_ok (w : World) : Calls Tryz.prog 111 #[] w fun e w' => e = .returned (.agg #[.bool true, .int .i64 0]) ∧ Below w.heap.size w w' := by
  go_enter Tryz.func111, Tryz.ntmps111
  go_wp2
  exact bodyPost_ret (v := .agg #[.bool true, .int .i64 0]) (by simp [results, Tryz.results111, go_sem]) rfl ⟨rfl, balloc (Below.refl _ _) _⟩
theorem implNumber_ok (n : Int) (w : World) : Calls Tryz.prog 117 #[.int .i64 n] w fun e w' => e = .returned (.agg #[.bool false, .int .i64 n]) ∧ Below w.heap.size w w' := by
  go_enter Tryz.func117, Tryz.ntmps117
  go_wp2
  exact bodyPost_ret (v := .agg #[.bool false, .int .i64 n]) (by simp [results, Tryz.results117, go_sem]) rfl ⟨rfl, balloc (Below.refl _ _) _⟩
set_option maxHeartbeats 1000000 in
theorem numberOrNull_ok (n : Int) (w : World) : Calls Tryz.prog 138 #[.int .i64 n] w fun e w' => e = .returned (vAgg (numV n)) ∧ Below w.heap.size w w' := by
  obtain ⟨r, hr⟩ : ∃ r, vValid (false, n) = r := ⟨_, rfl⟩
  have HN := Lib.hid (fun z => implNumber_ok n z)
  have HV := Lib.hid (fun z => implValid_ok (false, n) z r hr)
  have HU := Lib.hid (fun z => implNull_ok z)
  have hN : numV n = if r then (false, n) else (true, 0) := by
    unfold numV
    rw [← hr]
    simp [vValid]
  have HNV := Lib.hid hN
  have B0 := Lib.hid (balloc (Below.refl w.heap.size w) (.cells #[.bool false, .int .i64 0] 85))
  clear hN hr
  go_enter Tryz.func138, Tryz.ntmps138
  go_wp2_with fail
  refine (HN.out _).mono ?_
  rintro e w1 ⟨rfl, hb1⟩
  have hr1 := (Row.new w 85 #[.bool false, .int .i64 0]).on hb1
  have HB1 := Lib.hid (bch B0.out hb1)
  have HR1 := Lib.hid (hr1.alloc (.cells #[.bool false, .int .i64 n] 85))
  have HR2 := Lib.hid (Row.new w1 85 #[.bool false, .int .i64 n])
  clear hb1 hr1
  go_wp2_with fail
  refine (HV.out _).mono ?_
  rintro e w2 ⟨rfl, hb2⟩
  have r1 := HR1.out.on hb2
  have r2 := HR2.out.on hb2
  have HB2 := Lib.hid (bch (balloc HB1.out _) hb2)
  have HR3 := Lib.hid r1
  have q0 := r1.lt
  have q1 := r1.frozen 0
  have q2 := r1.frozen 1
  have q3 : w2.cell? ⟨w.heap.size, 0, none⟩ = some (.bool false) := r1.cell 0
  have q4 : w2.cell? ⟨w.heap.size, 1, none⟩ = some (.int .i64 0) := r1.cell 1
  have q5 : w2.cell? ⟨w1.heap.size, 0, none⟩ = some (.bool false) := r2.cell 0
  have q6 : w2.cell? ⟨w1.heap.size, 1, none⟩ = some (.int .i64 n) := r2.cell 1
  clear hb2 r1 r2
  cases r
  · go_wp2_with fail
    refine (HU.out _).mono ?_
    rintro e w3 ⟨rfl, hb3⟩
    have r3 := HR3.out.on hb3
    have HB3 := Lib.hid (bch HB2.out hb3)
    clear q0 q1 q2 q3 q4 q5 q6 hb3
    have q0 := r3.lt
    have q1 := r3.frozen 0
    have q2 := r3.frozen 1
    have q3 : w3.cell? ⟨w.heap.size, 0, none⟩ = some (.bool false) := r3.cell 0
    have q4 : w3.cell? ⟨w.heap.size, 1, none⟩ = some (.int .i64 0) := r3.cell 1
    clear r3
    go_wp2
    exact bodyPost_ret (v := .agg #[.bool true, .int .i64 0]) (by simp [results, Tryz.results138, go_sem, q0, q1, q2, q3, q4]) rfl ⟨(by rw [HNV.out]; rfl), below_put HB3.out (Nat.le_refl _) _ _⟩
  · go_wp2
    exact bodyPost_ret (v := .agg #[.bool false, .int .i64 n]) (by simp [results, Tryz.results138, go_sem, q0, q1, q2, q3, q4]) rfl ⟨(by rw [HNV.out]; rfl), below_put HB2.out (Nat.le_refl _) _ _⟩

end Go.Proofs.YtcbfbgngkdiijaaGreat

namespace Go.Proofs.YtcbfbgngkdiijaaGreat
open Go.RowKit Go.Qo
set_option linter.unusedVariables false
set_option linter.unusedSimpArgs false

end Go.Proofs.YtcbfbgngkdiijaaGreat

namespace Go.Proofs.YtcbfbgngkdiijaaGreat
open Go.RowKit Go.Qo
set_option linter.unusedVariables false
set_option linter.unusedSimpArgs false

end Go.Proofs.YtcbfbgngkdiijaaGreat

namespace Go.Proofs.YtcbfbgngkdiijaaGreat
open Go.RowKit Go.Qo
set_option linter.unusedVariables false

theorem sortStableR_ok {α : Type} (sv : α → SV) (cmp : α → α → Int) (S : α → Prop) (C : Cm cmp S) (lo g n c : Nat) (xs : List α) (v : Value) (w : World) (hx : xs.length = n) (hn : n ≤ 1048576) (hS : ∀ x ∈ xs, S x)
    (hv : IsCmpG (svCell sv) cmp S w (.slice (some ⟨g, 0, none⟩) n c) v) (h : OwL (svCell sv) lo g n c w xs) :
    Calls Tryz.prog 133 #[.slice (some ⟨g, 0, none⟩) n c, v] w fun e w' => e = .returned (.tuple #[]) ∧ OwL (svCell sv) lo g n c w' (gSort cmp xs) ∧ Only (fun i => i = g) w w' :=
  Rs.sortStable_ok sv cmp S C lo g n c xs v w hx hn hS hv h
end Go.Proofs.YtcbfbgngkdiijaaGreat
