/-
  Contract: the states of columns (the reference's statesOf).
-/
import Derived.Test.YtcbfbgngkdiijaaProg
import Derived.Test.YtcbfbgngkdiijaaZnNuS
import Derived.Test.YtcbfbgngkdiijaaZnPln
import Derived.Deep.CutBlock
namespace Go.Proofs.Ytcbfbgngkdiijaa
open Go.RowKit Go.Qo
set_option linter.unusedVariables false
set_option linter.unusedSimpArgs false

theorem zeroIntN : (Try.prog.info? 3).map (fun i => (i.zero, i.size, i.bytes)) = some (some (.int .i64 0), 1, 8) := by kernel_rfl
set_option maxRecDepth 20000 in
set_option maxHeartbeats 2000000 in
theorem specStatesOf_ok (A : Option Addr) (c : Nat) (xs : List Bool) (w : World) (hn : xs.length ≤ 1048576) (h : Sl 1 boolC w w.heap.size A xs) :
    Calls Try.prog 38 #[.slice A xs.length c] w fun e w' => ∃ v, e = .returned v ∧ Below w.heap.size w w' ∧ Ow w.heap.size 3 1 intC w' v (stsI xs) := by
  obtain ⟨W4, hW4⟩ : ∃ z, w.alloc (.cells #[] 3) = z := ⟨_, rfl⟩
  have b4 : Below w.heap.size w W4 := by rw [← hW4]; exact balloc (Below.refl _ _) _
  have HO4 := Lib.hid (show Ow w.heap.size 3 1 intC W4 (.slice (some ⟨w.heap.size, 0, none⟩) 0 0) ([] : List Int) by rw [← hW4]; exact Ow.lit (xs := ([] : List Int)) rfl rfl (Nat.le_refl _) (by decide))
  have HB4 := Lib.hid b4
  have HW4 := Lib.hid hW4
  have HS := Lib.hid h
  have hyl := stsI_len xs
  clear hW4 b4 h
  go_enter Try.func38, Try.ntmps38
  go_upto_region 2 with fail
  rw [HW4.out]
  go_wp2
  go_loopg [3, 4] xs.length (fun g v iv wr => ∃ (i : Nat), i ≤ xs.length ∧ g = xs.length - i ∧ iv = .int .i64 i ∧ Ow w.heap.size 3 1 intC wr v ((stsI xs).take i) ∧ Below w.heap.size w wr)
  case atStart => exact ⟨0, by omega, by omega, rfl, HO4.out, HB4.out⟩
  case round =>
    obtain ⟨i, hi, rfl, rfl, how, hb⟩ := hrel
    have HO := Lib.hid how
    have HB := Lib.hid hb
    have hsz := hb.size
    clear how hb
    by_cases hil : i < xs.length
    · have hiI : (i : Int) < (xs.length : Int) := by omega
      obtain ⟨b, off, rfl, hB, c1⟩ := Sl.at1 (f := fun x : Bool => Value.bool x) (HS.out.below HB.out) hil
      have hy : (stsI xs).take (i + 1) = (stsI xs).take i ++ [if xs[i] = true then 7 else 3] := by
        rw [List.take_add_one]
        unfold stsI
        rw [List.getElem?_map, List.getElem?_eq_getElem hil]
        rfl
      have Hy := Lib.hid hy
      have htl : ((stsI xs).take i).length ≤ 1048576 := by rw [List.length_take]; omega
      obtain ⟨n, hnn⟩ : ∃ n : Int, (if xs[i] = true then 7 else 3) = n := ⟨_, rfl⟩
      obtain ⟨U, hU⟩ : ∃ z, wr.alloc (.cells #[.int .i64 n] 3) = z := ⟨_, rfl⟩
      have hub : Below wr.heap.size wr U := by rw [← hU]; exact balloc (Below.refl _ _) _
      have HB5 := Lib.hid (bch HB.out hub)
      have HO5 := Lib.hid (HO.out.on hub)
      have HS5 := Lib.hid (show Sl 1 intC U U.heap.size (some ⟨wr.heap.size, 0, none⟩) [n] by rw [← hU]; exact Row.sl' (t := 3) intC_length ((Row.new wr _ _).of rfl))
      have hsz6 : w.heap.size ≤ U.heap.size := HB5.out.size
      generalize xs[i] = x at *
      cases x
      · simp at hnn
        subst hnn
        have HU := Lib.hid hU
        clear hU hub hy
        go_wp2_with (at_builtin; rw [HU.out]; refine wpList_app rfl (.tmp 19) (.tmp 20) 24 rfl w.heap.size 3 _ 1 8 intC Try.underlying24 zeroIntN rfl (by decide) (by decide) intC_length intC_one _ ((stsI xs).take i) rfl HO5.out (some ⟨wr.heap.size, 0, none⟩) 1 1 [3] rfl rfl HS5.out (by simp; omega) hsz6 ?_; intro v' w' hown hgr)
        go_roundg (xs.length - (i + 1))
        case measure => omega
        case rel => exact ⟨i + 1, by omega, rfl, by go_num, by rw [Hy.out]; exact hown, HB5.out.grown hgr hsz6 fun k hk => (HO5.out.ty k hk).1⟩
      · simp at hnn
        subst hnn
        have HU := Lib.hid hU
        clear hU hub hy
        go_wp2_with (at_builtin; rw [HU.out]; refine wpList_app rfl (.tmp 16) (.tmp 17) 24 rfl w.heap.size 3 _ 1 8 intC Try.underlying24 zeroIntN rfl (by decide) (by decide) intC_length intC_one _ ((stsI xs).take i) rfl HO5.out (some ⟨wr.heap.size, 0, none⟩) 1 1 [7] rfl rfl HS5.out (by simp; omega) hsz6 ?_; intro v' w' hown hgr)
        go_roundg (xs.length - (i + 1))
        case measure => omega
        case rel => exact ⟨i + 1, by omega, rfl, by go_num, by rw [Hy.out]; exact hown, HB5.out.grown hgr hsz6 fun k hk => (HO5.out.ty k hk).1⟩
    · have hiI : ¬ (i : Int) < (xs.length : Int) := by omega
      have hie : i = xs.length := by omega
      have HIE := Lib.hid hie
      go_wp2
      go_ret
      refine ⟨_, rfl, HB.out, ?_⟩
      have := HO.out
      rwa [List.take_of_length_le (by rw [HIE.out, stsI_len]; exact Nat.le_refl _)] at this
end Go.Proofs.Ytcbfbgngkdiijaa
