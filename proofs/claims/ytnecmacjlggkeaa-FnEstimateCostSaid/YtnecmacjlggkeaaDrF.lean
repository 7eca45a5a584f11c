/-
  Contract: DrawEstimateCost.
-/
import Derived.Test.YtnecmacjlggkeaaProg
import Derived.Test.YtnecmacjlggkeaaDrE
namespace Go.Proofs.Ytnecmacjlggkeaa
open Go.RowKit Go.Qo
set_option linter.unusedVariables false
set_option linter.unusedSimpArgs false

set_option maxRecDepth 20000 in
set_option maxHeartbeats 4000000 in
theorem drawEstimateCost_ok (A : Option Addr) (c : Nat) (xs : List Int) (w : World) (hn : xs.length ≤ c) (hc : c ≤ maxLen) (hg : ∀ x ∈ xs, 0 ≤ x ∧ x ≤ 255) (hs : Sl 1 byteC w w.heap.size A xs) :
    Calls Try.prog 14 #[.slice A xs.length c] w (GotER w) := by
  obtain ⟨W0, hW0⟩ : ∃ z, w.alloc (.cells #[.int .i64 0, .int .i64 0, .slice none 0 0, .slice none 0 0, .slice none 0 0] 27) = z := ⟨_, rfl⟩
  have b0 : Below w.heap.size w W0 := by rw [← hW0]; exact balloc (Below.refl _ _) _
  have r0 : Row W0 w.heap.size 27 [.int .i64 0, .int .i64 0, .slice none 0 0, .slice none 0 0, .slice none 0 0] := by rw [← hW0]; exact Row.new _ _ _
  have hs0 : W0.heap.size = w.heap.size + 1 := by rw [← hW0]; simp
  have HD := Lib.hid (drawEstimateRows_ok A c xs W0 hn hc hg (hs.on b0))
  have Hr0 := Lib.hid r0
  have HB0 := Lib.hid b0
  have HW0 := Lib.hid hW0
  have Hs0 := Lib.hid hs0
  clear hn hc hg hs hW0 b0 r0 hs0
  go_enter Try.func14, Try.ntmps14
  go_upto_region 1 with fail
  rw [HW0.out]
  go_wp2_with fail
  refine HD.out.mono ?_
  rintro e x1 ⟨pf, px, Af, m, cf, fs, ss, rfl, hpt, ho, hst, hsl, hm, hsm, hb⟩
  have rr := Hr0.out.on hb
  have hl := rr.lt
  have c0 := rr.cell 0
  have f0 := rr.frozen 0
  have c1 := rr.cell 1
  have f1 := rr.frozen 1
  have c2 := rr.cell 2
  have f2 := rr.frozen 2
  have c3 := rr.cell 3
  have f3 := rr.frozen 3
  have c4 := rr.cell 4
  have f4 := rr.frozen 4
  have HX := Lib.hid (And.intro hpt (And.intro ho (And.intro hst (And.intro hsl (And.intro hm (And.intro hsm hb))))))
  clear hpt ho hst hsl hm hsm hb rr
  unfold fpV
  go_wp2
  refine bodyPost_ret (v := .tuple #[fpV pf, .slice Af m cf]) (by simp [results, Try.results14, go_sem, fpV, c0, c1, c2, c3, c4]) rfl ?_
  have h5 := set5 x1 w.heap.size (.int .i64 pf.kind) (.int .i64 pf.table) (.slice pf.es.A pf.es.n pf.es.c) (.slice pf.cs.A pf.cs.n pf.cs.c) (.slice pf.ks.A pf.ks.n pf.ks.c)
  obtain ⟨hpt, ho, hst, hsl, hm, hsm, hb⟩ := HX.out
  have hs0 := Hs0.out
  exact ⟨pf, px, Af, m, cf, fs, ss, rfl, (hpt.keep h5.size fun k hk hl => h5.block k hl (show ¬ k = w.heap.size by omega)).mono fun k _ hk => by omega, (ho.only h5 fun k (hk : k = w.heap.size) => .inl (by omega)).low (by omega), ⟨hst.1, fun i f s hf hs => (((hst.2 i f s hf hs).only h5 fun k (hk : k = w.heap.size) => .inl (by omega)).low (by omega))⟩, hsl, hm, hsm, set5_belowE (bch HB0.out hb) (Nat.le_refl _) _ _ _ _ _⟩
end Go.Proofs.Ytnecmacjlggkeaa
