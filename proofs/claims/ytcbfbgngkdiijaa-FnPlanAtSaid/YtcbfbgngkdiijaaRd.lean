/-
  Contracts of the reader of drawn data: newReader, pick, one.
-/
import Derived.Test.YtcbfbgngkdiijaaProg
import Derived.Test.YtcbfbgngkdiijaaPln
namespace Go.Proofs.Ytcbfbgngkdiijaa
open Go.RowKit Go.Qo
set_option linter.unusedVariables false
set_option linter.unusedSimpArgs false

/-- The reader at block b: at most 2000 bytes, its counter at most p. -/
def Rd (w : World) (b : Nat) (p : Nat) : Prop :=
  ∃ (A : Option Addr) (xs : List Int) (c : Nat) (q : Nat), xs.length ≤ 2000 ∧ (∀ x ∈ xs, 0 ≤ x ∧ x ≤ 255) ∧ Row w b 56 [.slice A xs.length c, .int .i64 q] ∧ q ≤ p ∧ Sl 1 byteC w b A xs
theorem Rd.lt {w : World} {b p : Nat} (h : Rd w b p) : b < w.heap.size := by obtain ⟨A, xs, c, q, _, _, h, _⟩ := h; exact h.lt
theorem Rd.mono {w : World} {b p p' : Nat} (h : Rd w b p) (hp : p ≤ p') : Rd w b p' := by
  obtain ⟨A, xs, c, q, h1, h2, h3, h4, h5⟩ := h
  exact ⟨A, xs, c, q, h1, h2, h3, by omega, h5⟩
theorem Rd.on {w w' : World} {b p : Nat} (h : Rd w b p) (hb : Below w.heap.size w w') : Rd w' b p := by
  obtain ⟨A, xs, c, q, h1, h2, h3, h4, h5⟩ := h
  exact ⟨A, xs, c, q, h1, h2, h3.on hb, h4, h5.below (hb.mono (by have := h3.lt; omega))⟩
theorem Rd.grown {w w' : World} {b p : Nat} {row : Option Nat} (h : Rd w b p) (hg : w.grownBy w' row) (hr : ∀ k, row = some k → b < k) : Rd w' b p := by
  obtain ⟨A, xs, c, q, h1, h2, h3, h4, h5⟩ := h
  have hl := h3.lt
  have hk : ∀ k, k ≤ b → w'.heap[k]? = w.heap[k]? := fun k hk => hg.block k (by omega) fun e => by have := hr k e.symm; omega
  exact ⟨A, xs, c, q, h1, h2, h3.keep (hk b (Nat.le_refl _)), h4, h5.keep fun k o hk' => World.cell?_of_block (w := w) (a := ⟨k, o, none⟩) (hk k (by omega))⟩
theorem Rd.set {w : World} {b p : Nat} (h : Rd w b p) {a : Addr} (ha : b < a.block) (u : Value) : Rd (w.setCell a u) b p := by
  obtain ⟨A, xs, c, q, h1, h2, h3, h4, h5⟩ := h
  exact ⟨A, xs, c, q, h1, h2, h3.far (by omega) u, h4, h5.keep fun k o hk => World.cell?_of_block (w := w) (a := ⟨k, o, none⟩) (Below.heap_setCell _ _ _ _ (show k ≠ a.block by omega))⟩

theorem bxor_i64_nonneg {a b : Int} (ha : 0 ≤ a) (ha2 : a < 9223372036854775808) (hb : 0 ≤ b) (hb2 : b < 9223372036854775808) : 0 ≤ bits .xor .i64 a b := by
  obtain ⟨m, rfl⟩ := Int.eq_ofNat_of_zero_le ha
  obtain ⟨n, rfl⟩ := Int.eq_ofNat_of_zero_le hb
  have hx : m ^^^ n < 2 ^ 63 := Nat.xor_lt_two_pow (by omega) (by omega)
  show 0 ≤ IntKind.i64.wrap ((BitVec.ofInt 64 (m : Int) ^^^ BitVec.ofInt 64 (n : Int)).toNat : Int)
  rw [BitVec.toNat_xor, ofInt_i64' m (by omega), ofInt_i64' n (by omega), IntKind.wrap_i64]
  omega
/-- What pick says of its result. -/
def Picks (n r : Int) : Prop := 0 ≤ r ∧ (1 ≤ n → r < n) ∧ (n < 1 → r = 0)

set_option maxHeartbeats 1000000 in
theorem pick_ok (b p : Nat) (n : Int) (w : World) (h : Rd w b p) (hp : p ≤ 1099511627776) :
    Calls Try.prog 14 #[.pointer (some ⟨b, 0, none⟩), .int .i64 n] w fun e w' => ∃ r : Int, e = .returned (.int .i64 r) ∧ Picks n r ∧ But b w w' ∧ w.heap.size = w'.heap.size ∧ Rd w' b (p + 1) := by
  obtain ⟨A, xs, c, q, h1, h2, h3, h4, h5⟩ := h
  have c0 : w.cell? ⟨b, 0, none⟩ = some (.slice A xs.length c) := h3.cell 0
  have c1 : w.cell? ⟨b, 1, none⟩ = some (.int .i64 q) := h3.cell 1
  have f1 := h3.frozen 1
  have hR : Rd (w.setCell ⟨b, 1, none⟩ (.int .i64 ((q : Int) + 1))) b (p + 1) := ⟨A, xs, c, q + 1, h1, h2, (h3.set 1 _).of rfl, by omega, h5.keep fun k o hk => World.cell?_of_block (w := w) (a := ⟨k, o, none⟩) (Below.heap_setCell _ _ _ _ (show k ≠ b by omega))⟩
  have hO : But b w (w.setCell ⟨b, 1, none⟩ (.int .i64 ((q : Int) + 1))) := Only.set (S := fun k => k = b) (p := ⟨b, 1, none⟩) (Only.refl w) (.inl rfl) _
  have HR := Lib.hid (And.intro hR (And.intro hO (show w.heap.size = (w.setCell ⟨b, 1, none⟩ (.int .i64 ((q : Int) + 1))).heap.size by simp [World.setCell])))
  have hq : (q : Int) ≤ 1099511627776 := by omega
  have hadd : IntKind.i64.wrap ((q : Int) + 1) = ((q + 1 : Nat) : Int) := by rw [IntWalk.i64_in _ (by omega)]; omega
  clear hR hO h3
  by_cases hn : n < 1
  · go_enter Try.func14, Try.ntmps14
    go_wp2
    go_ret
    exact ⟨0, rfl, ⟨by omega, by omega, fun _ => rfl⟩, HR.out.2.1, HR.out.2.2, HR.out.1⟩
  · by_cases h0 : xs.length = 0
    · have h0' : (xs.length : Int) = 0 := by omega
      go_enter Try.func14, Try.ntmps14
      go_wp2
      go_ret
      exact ⟨0, rfl, ⟨by omega, by omega, fun _ => rfl⟩, HR.out.2.1, HR.out.2.2, HR.out.1⟩
    · by_cases hlt : q < xs.length
      · obtain ⟨b', off, hA, hB, d1⟩ := h5.at1 hlt
        have hv := h2 _ (List.getElem_mem hlt)
        generalize xs[q] = x at *
        subst hA
        have hne : ¬ b' = b := by omega
        go_enter Try.func14, Try.ntmps14
        go_wp2
        go_ret
        exact ⟨_, rfl, ⟨Int.emod_nonneg _ (by omega), fun h => Int.emod_lt_of_pos _ (by omega), fun h => absurd h (by omega)⟩, HR.out.2.1, HR.out.2.2, HR.out.1⟩
      · have hl0 : 0 < xs.length := by omega
        have hi1 : q % xs.length < xs.length := Nat.mod_lt _ hl0
        have hi2 : (q * 7 + 3) % xs.length < xs.length := Nat.mod_lt _ hl0
        obtain ⟨b', off, hA, hB, d1⟩ := h5.at1 hi1
        obtain ⟨b'', off', hA', hB', d2⟩ := h5.at1 hi2
        have hv1 := h2 _ (List.getElem_mem hi1)
        have hv2 := h2 _ (List.getElem_mem hi2)
        subst hA
        cases hA'
        obtain ⟨x1, hx1⟩ : ∃ x1, xs[q % xs.length] = x1 := ⟨_, rfl⟩
        obtain ⟨x2, hx2⟩ : ∃ x2, xs[(q * 7 + 3) % xs.length] = x2 := ⟨_, rfl⟩
        rw [hx1] at d1 hv1
        rw [hx2] at d2 hv2
        have hne : ¬ b' = b := by omega
        have e1 : ((q : Int) % (xs.length : Int)).toNat = q % xs.length := by rw [← Int.natCast_emod, Int.toNat_natCast]
        have e2 : (((q : Int) * 7 + 3) % (xs.length : Int)).toNat = (q * 7 + 3) % xs.length := by
          have : (q : Int) * 7 + 3 = ((q * 7 + 3 : Nat) : Int) := by omega
          rw [this, ← Int.natCast_emod, Int.toNat_natCast]
        have e3 : (0 : Int) ≤ (q : Int) % (xs.length : Int) := Int.emod_nonneg _ (by omega)
        have e4 : (q : Int) % (xs.length : Int) < xs.length := Int.emod_lt_of_pos _ (by omega)
        have e5 : (0 : Int) ≤ ((q : Int) * 7 + 3) % (xs.length : Int) := Int.emod_nonneg _ (by omega)
        have e6 : ((q : Int) * 7 + 3) % (xs.length : Int) < xs.length := Int.emod_lt_of_pos _ (by omega)
        clear hx1 hx2
        have ed0 : (0 : Int) ≤ (q : Int) / (xs.length : Int) := Int.ediv_nonneg (by omega) (by omega)
        have ed1 : (q : Int) / (xs.length : Int) ≤ q := Int.ediv_le_self _ (by omega)
        obtain ⟨dv, hdv⟩ : ∃ dv, (q : Int) / (xs.length : Int) = dv := ⟨_, rfl⟩
        rw [hdv] at ed0 ed1
        obtain ⟨X, hX⟩ : ∃ X, x1 * 131 + x2 * 1117 + (q : Int) * 29 + dv * 53 = X := ⟨_, rfl⟩
        have hX0 : 0 ≤ X := by omega
        have hX1 : X ≤ 4611686018427387904 := by omega
        obtain ⟨Y, hY⟩ : ∃ Y, bits .xor .i64 X (X / 64) = Y := ⟨_, rfl⟩
        have hY0 : 0 ≤ Y := by rw [← hY]; exact bxor_i64_nonneg hX0 (by omega) (by omega) (by omega)
        go_enter Try.func14, Try.ntmps14
        go_wp2
        go_quiet (fail)
        go_wp2
        go_ret
        exact ⟨_, rfl, ⟨Int.emod_nonneg _ (by omega), fun h => Int.emod_lt_of_pos _ (by omega), fun h => absurd h (by omega)⟩, HR.out.2.1.below (bdrewN (Below.refl _ _) nq), HR.out.2.2, HR.out.1.on (bdrewN (Below.refl _ _) nq)⟩

theorem one_ok (b p : Nat) (A : Option Addr) (c : Nat) (xs : List Int) (w : World) (h : Rd w b p) (hp : p ≤ 1099511627776) (hn : 0 < xs.length) (hn2 : xs.length ≤ 1048576) (hs : Sl 1 intC w w.heap.size A xs) (hA : ∀ a, A = some a → a.block ≠ b) :
    Calls Try.prog 29 #[.pointer (some ⟨b, 0, none⟩), .slice A xs.length c] w fun e w' => ∃ r : Int, e = .returned (.int .i64 r) ∧ r ∈ xs ∧ But b w w' ∧ w.heap.size = w'.heap.size ∧ Rd w' b (p + 1) := by
  have HP := Lib.hid (pick_ok b p xs.length w h hp)
  have HS := Lib.hid (And.intro hs hA)
  clear hs hA
  go_enter Try.func29, Try.ntmps29
  go_wp2_with fail
  refine HP.out.mono ?_
  rintro e w1 ⟨r, rfl, hr, hb1, hsz, hR⟩
  have h0 := hr.1
  have h1 := hr.2.1 (by omega)
  obtain ⟨k, rfl⟩ := Int.eq_ofNat_of_zero_le h0
  have hk : k < xs.length := by omega
  obtain ⟨b', off, rfl, hB, d1⟩ := HS.out.1.at1 hk
  have hne := HS.out.2 _ rfl
  have d1' : w1.cell? ⟨b', off + k, none⟩ = some (.int .i64 xs[k]) := (World.cell?_of_block (w := w) (a := ⟨b', off + k, none⟩) (hb1.block b' hB hne)).trans d1
  have hm := List.getElem_mem hk
  generalize xs[k] = x at *
  have HB := Lib.hid (And.intro hb1 (And.intro hsz hR))
  clear hb1 hsz hR d1 hne hr
  go_wp2
  go_ret
  exact ⟨x, rfl, hm, HB.out.1, HB.out.2.1, HB.out.2.2⟩

theorem newReader_ok (A : Option Addr) (c : Nat) (xs : List Int) (w : World) (hn : xs.length ≤ c) (hc : c ≤ maxLen) (hg : ∀ x ∈ xs, 0 ≤ x ∧ x ≤ 255) (hs : Sl 1 byteC w w.heap.size A xs) :
    Calls Try.prog 12 #[.slice A xs.length c] w fun e w' => e = .returned (.pointer (some ⟨w.heap.size, 0, none⟩)) ∧ Below w.heap.size w w' ∧ Rd w' w.heap.size 0 := by
  unfold maxLen at hc
  have HS := Lib.hid hs
  clear hs
  by_cases h : xs.length ≤ 2000
  · go_enter Try.func12, Try.ntmps12
    go_wp2
    go_ret
    exact ⟨rfl, balloc (Below.refl _ _) _, A, xs, c, 0, h, hg, (Row.new _ _ _).of rfl, by omega, HS.out.keep fun b o hb => (balloc (Below.refl _ _) _).cell (p := ⟨b, o, none⟩) hb⟩
  · go_enter Try.func12, Try.ntmps12
    go_wp2
    go_ret
    have hl : (xs.take 2000).length = 2000 := by rw [List.length_take]; omega
    refine ⟨rfl, balloc (Below.refl _ _) _, A, xs.take 2000, c, 0, by omega, fun x hx => hg x (List.mem_of_mem_take hx), ?_, by omega, (HS.out.cut 2000).keep fun b o hb => (balloc (Below.refl _ _) _).cell (p := ⟨b, o, none⟩) hb⟩
    rw [hl]
    exact (Row.new _ _ _).of rfl

end Go.Proofs.Ytcbfbgngkdiijaa
