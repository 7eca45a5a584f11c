/-
  Contract of the program's TableOf, at valid rows.
-/
import Derived.Test.YtldndapcbgaliaaProg
import Derived.Test.YtldndapcbgaliaaUni
namespace Go.Proofs.Ytldndapcbgaliaa
open Go.RowKit Go.Qo
set_option linter.unusedVariables false
set_option linter.unusedSimpArgs false

theorem resTableOf {b : Nat} {v0 v1 : Value} {r : Bool} (tmps : Array Value) (hp : tmps.getD 4 undef = .pointer (some ⟨b, 0, none⟩)) (hr : tmps.getD 5 undef = .bool r) (w : World) (c0 : w.cell? ⟨b, 0, none⟩ = some v0) (c1 : w.cell? ⟨b, 1, none⟩ = some v1) :
    (results Try.f16 tmps).run Try.prog w = .ok (.tuple #[.agg #[v0, v1], .bool r]) w := by
  simp only [Array.getD_eq_getD_getElem?] at hp hr
  simp [results, Try.results16, go_sem, hp, hr, c0, c1]

set_option maxRecDepth 20000 in
set_option maxHeartbeats 2000000 in
theorem implTableOf_ok (W : Int) (A : Option Addr) (c : Nat) (rows : List Row1) (w : World) (hW1 : 1 ≤ W) (hW2 : W ≤ 6) (hl : rows.length ≤ 400) (hr : ∀ r ∈ rows, RowOk W r) (h : Rws w w.heap.size A rows) :
    Calls Try.prog 16 #[.int .i64 W, .slice A rows.length c] w (TabRes true W rows w) := by
  have HV := Lib.hid (fun z => validWidth_ok W z true (by simp [hW1, hW2]))
  have HH := Lib.hid (And.intro h hr)
  obtain ⟨W0, hW0⟩ : ∃ z, w.alloc (.cells #[.int .i64 0, .slice none 0 0] 25) = z := ⟨_, rfl⟩
  have B0 : Below w.heap.size w W0 := by rw [← hW0]; exact balloc (Below.refl _ _) _
  have r0 : Row W0 w.heap.size 25 [.int .i64 0, .slice none 0 0] := by rw [← hW0]; exact Row.new _ _ _
  have HW := Lib.hid hW0
  have HB0 := Lib.hid (And.intro B0 r0)
  have hlg : ¬ ((400 : Int) < (rows.length : Int)) := by omega
  clear h hr B0 r0 hW0
  go_enter Try.func16, Try.ntmps16
  go_upto_region 1 with fail
  rw [HW.out]
  go_wp2_with (go_at_call 54; refine (HV.out _).mono ?_; rintro e w' ⟨rfl, rfl⟩)
  go_loopg [19] rows.length (fun g iv wr => ∃ k : Nat, k ≤ rows.length ∧ g = rows.length - k ∧ iv = .int .i64 k ∧ Below W0.heap.size W0 wr)
  case atStart => exact ⟨0, by omega, by omega, rfl, Below.refl _ _⟩
  case round =>
    obtain ⟨k, hk, rfl, rfl, hb⟩ := hrel
    have HI := Lib.hid hb
    by_cases hlt : k < rows.length
    · obtain ⟨b3, off3, A3, C3, hA3, hB3, c3, hc3, hm3, s3⟩ := (HH.out.1.on (bch HB0.out.1 hb)).at_ hlt
      have hy := Lib.hid (List.getElem?_eq_getElem hlt)
      generalize rows[k] = x at *
      subst hA3
      have hxo := HH.out.2 x (List.mem_of_getElem? hy.out)
      have hx6 := (rowValid_len hxo.1).2
      have hxW : (((x.length : Nat) : Int) != W) = false := by simp [hxo.2]
      have HR := Lib.hid (implValidRow_ok A3 C3 x wr (by unfold maxLen; omega) s3 true hxo.1)
      clear hb s3 hc3 hm3 hxo
      go_wp2_with fail
      refine HR.out.mono ?_
      rintro e w3 ⟨rfl, hb3⟩
      have H3 := Lib.hid (bch HI.out hb3)
      clear hb3
      go_wp2
      go_roundg (rows.length - (k + 1))
      case measure => omega
      case rel => exact ⟨k + 1, by omega, rfl, by go_num, H3.out⟩
    · clear hb
      go_wp2_with fail
      refine (values_ok _ _ _ _).mono ?_
      rintro e w4 ⟨rfl, hb4, hr4⟩
      have hbw := bch (bch HB0.out.1 HI.out) hb4
      obtain ⟨svs, hsl, hsv, hin⟩ := HH.out.1.on hbw
      obtain ⟨ps, hp1, hp2, hps⟩ := psOf (W := W) hsl HH.out.2 hin
      have hpl : ps.length = rows.length := by rw [← hp2, List.length_map]
      have HC := collect_ok W ps.length 106 #[.pointer (some ⟨wr.heap.size, 0, none⟩)] ps w4 entersValues1 (valuesIt_ok W wr.heap.size A c ps w4 (by omega) (by rw [hpl]; exact hr4) (by rw [hp1]; exact hsv) hps)
      rw [hp2] at HC
      have HC := Lib.hid HC
      have R4 := Lib.hid (And.intro hbw ((HB0.out.2.on HI.out).on hb4))
      clear hb4 hr4 hbw hsl hsv hin hp1 hp2 hps hpl
      go_wp2_with fail
      refine HC.out.mono ?_
      rintro e w5 ⟨v5, cp, rfl, hcp, how, hcc, hb5⟩
      obtain ⟨A5, c5, rfl, _, _, _⟩ := how.shape svC_length
      generalize (cp.map (·.1)).length = nn at how ⊢
      have r2 := R4.out.2.on hb5
      have e0 : w5.cell? ⟨w.heap.size, 0, none⟩ = some (.int .i64 0) := r2.cell 0
      have e1 : w5.cell? ⟨w.heap.size, 1, none⟩ = some (.slice none 0 0) := r2.cell 1
      have f0 := r2.frozen 0
      have f1 := r2.frozen 1
      have l2 := r2.lt
      have F5 := Lib.hid (And.intro hcp (And.intro how (And.intro hcc (And.intro hb5 r2))))
      clear hcp how hcc hb5 r2
      go_wp2
      refine bodyPost_ret (resTableOf (b := w.heap.size) (r := true) _ rfl rfl _ (v0 := .int .i64 W) (v1 := .slice A5 nn c5) (by simp [go_sem, e0, e1, l2]) (by simp [go_sem, e0, e1, l2])) rfl ?_
      obtain ⟨hcp, how, hcc, hb5, r2⟩ := F5.out
      exact TabRes.yes hcp how hcc R4.out.1 hb5 r2 (Nat.le_refl _)
end Go.Proofs.Ytldndapcbgaliaa
