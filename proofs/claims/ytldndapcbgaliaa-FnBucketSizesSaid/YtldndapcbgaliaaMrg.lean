/-
  Contract of eachMerged: the program's, whatever visits the rows.
-/
import Derived.Test.YtldndapcbgaliaaProg
import Derived.Test.YtldndapcbgaliaaCol
import Derived.Test.YtldndapcbgaliaaTab
import Derived.Test.YtldndapcbgaliaaPln
namespace Go.Proofs.Ytldndapcbgaliaa
open Go.RowKit Go.Qo
set_option linter.unusedVariables false
set_option linter.unusedSimpArgs false

theorem head_drop {α : Type} {l : List α} {k : Nat} {x : α} {r : List α} (h : l.drop k = x :: r) : l[k]? = some x ∧ l.drop (k + 1) = r := by
  refine ⟨?_, ?_⟩
  · have := congrArg (fun l => l[0]?) h
    simpa using this
  · rw [← List.drop_drop, h]; rfl

set_option maxHeartbeats 2000000 in
theorem eachMerged_ok (W W' : Int) (A A' : Option Addr) (c c' : Nat) (ps : List SRw) (ys : List Row1) (f : FuncId) (hf : EntersF f) (cap : Array Value) (J Jx : Nat → World → Prop) (w0 w : World) (hw : Below w0.heap.size w0 w) (hsz : w0.heap.size ≤ w.heap.size)
    (hn : ps.length ≤ 1048576) (hn' : ys.length ≤ 1048576) (hA : Sl 1 svC w0 w0.heap.size A (ps.map (·.1))) (hS : ∀ p ∈ ps, SRs W w0 p) (h' : Rws w0 w0.heap.size A' ys)
    (hJb : ∀ k z1 z2, J k z1 → Below z1.heap.size z1 z2 → J k z2)
    (hV : ∀ (k : Nat) (m : Bool) (p : SRw) (z : World), J k z → ps[k]? = some p → (merged (ps.map (·.2)) ys)[k]? = some (p.2, m) →
      Calls Try.prog f (#[.slice p.1.A p.2.length p.1.c, .bool m] ++ cap) z fun e z' => (e = .returned (.bool true) ∧ J (k + 1) z' ∧ KpC w0.heap.size z z') ∨ (e = .returned (.bool false) ∧ Jx k z'))
    (h0 : J 0 w) :
    Calls Try.prog 72 #[.agg #[.int .i64 W, .slice A ps.length c], .agg #[.int .i64 W', .slice A' ys.length c'], .func (.func f) #[] cap] w
      fun e w' => e = .returned (.tuple #[]) ∧ (J ps.length w' ∨ ∃ k, k < ps.length ∧ Jx k w') := by
  have HV := Lib.hid hV
  have HJ := Lib.hid hJb
  have HH := Lib.hid (And.intro hA (And.intro hS h'))
  have HW := Lib.hid hw
  have hcf := fun args => hf args
  have H0 := Lib.hid (hJb _ _ _ h0 (balloc (balloc (Below.refl _ _) (.cells #[.int .i64 W, .slice A ps.length c] 25)) (.cells #[.int .i64 W', .slice A' ys.length c'] 25)))
  clear hV hJb hA hS h' hw h0 hf
  go_enter Try.func72, Try.ntmps72
  go_wp2
  go_loopg [6, 13] (ps.length) (fun g nx i wr => ∃ k j : Nat, k ≤ ps.length ∧ j ≤ ys.length ∧ g = ps.length - k ∧ i = .int .i64 k ∧ nx = .int .i64 j ∧ Below w0.heap.size w0 wr ∧ w.heap.size + 1 < wr.heap.size ∧
    Row wr (w.heap.size + 1) 25 [.int .i64 W', .slice A' ys.length c'] ∧ J k wr ∧ (merged (ps.map (·.2)) ys).drop k = merged ((ps.map (·.2)).drop k) (ys.drop j))
  case atStart => exact ⟨0, 0, by omega, by omega, by omega, rfl, rfl, HW.out.trans ((((Below.refl _ _).alloc (Nat.le_refl _) _).alloc (by simp) _).mono hsz), by simp, Row.second _ _ _ _, H0.out, rfl⟩
  case round =>
    obtain ⟨k, j, hk, hj, rfl, rfl, rfl, hb, hsz2, hbox, hJ, hm⟩ := hrel
    have Hm := Lib.hid hm
    have Hbox := Lib.hid hbox
    have HJk := Lib.hid hJ
    have hzz : w0.heap.size ≤ wr.heap.size := by omega
    clear hm hbox hJ
    by_cases hlt : k < ps.length
    · have hpk := Lib.hid (List.getElem?_eq_getElem hlt)
      have hSp := HH.out.2.1 _ (List.getElem_mem hlt)
      generalize ps[k] = p at *
      obtain ⟨s, x⟩ := p
      obtain ⟨b, off, rfl, hB, hcs⟩ := (HH.out.1.below hb).at1 (f := fun s : SV => Value.slice s.A s.n s.c) (i := k) (by rw [List.length_map]; exact hlt)
      have hpm : (ps.map (·.1))[k]'(by rw [List.length_map]; exact hlt) = s := by
        have h1 := hpk.out
        rw [List.getElem_map]
        rw [List.getElem?_eq_getElem hlt] at h1
        rw [Option.some.inj h1]
      rw [hpm] at hcs
      have hx : (ps.map (·.2))[k]? = some x := by rw [List.getElem?_map, hpk.out]; rfl
      have hsn : s.n = x.length := hSp.2.1
      rw [hsn] at hcs
      have hx6 : x.length ≤ 6 := (rowValid_len hSp.1.1).2
      have hcell : wr.cell? ⟨b, off + k, none⟩ = some (.slice s.A x.length s.c) := hcs
      have HX := Lib.hid hx
      have S1 := Lib.hid ((hSp.2.2.2.2).below hb |>.more hzz)
      have hbz : b < wr.heap.size := by omega
      clear hpm hx hsn hSp hcs
      go_wp2
      obtain ⟨wo, rfl⟩ : ∃ wo : World, wo = wr := ⟨_, rfl⟩
      go_loopg [6] (ys.length - j) (fun g nx wr => ∃ j' : Nat, j' ≤ ys.length ∧ g = ys.length - j' ∧ nx = .int .i64 j' ∧ Below wo.heap.size wo wr ∧ (ys.drop j).dropWhile (fun b => decide (rpCmp b x < 0)) = (ys.drop j').dropWhile (fun b => decide (rpCmp b x < 0)))
      case atStart => exact ⟨j, by omega, rfl, rfl, Below.refl _ _, rfl⟩
      case round =>
        obtain ⟨j', hj', rfl, rfl, hb2, hd⟩ := hrel
        have Hd := Lib.hid hd
        clear hd
        have bx : wr.cell? ⟨w.heap.size + 1, 1, none⟩ = some (.slice A' ys.length c') := (Hbox.out.on hb2).cell 1
        have hs2 := hb2.size
        by_cases hlt2 : j' < ys.length
        · obtain ⟨b', off', A2, C2, rfl, hB2, c2, hc2, hm2, s2⟩ := ((HH.out.2.2.below (hb.trans (hb2.mono hzz))).more (show w0.heap.size ≤ wr.heap.size by omega)).at_ hlt2
          have hy := Lib.hid (List.getElem?_eq_getElem hlt2)
          generalize ys[j'] = y at *
          obtain ⟨R, hR⟩ : ∃ R, rpCmp y x = R := ⟨_, rfl⟩
          have HK := Lib.hid (implCompareRows_ok A2 s.A C2 s.c y x wr (by omega) (by unfold maxLen; omega) s2 (S1.out.on hb2))
          rw [hR] at HK
          have HR := Lib.hid hR
          have HL := Lib.hid (And.intro hc2 hm2)
          have S2 := Lib.hid s2
          clear hR s2 hc2 hm2
          by_cases hneg : R < 0
          · go_wp2_with (go_at_call 105; refine HK.out.mono ?_; rintro e w1 ⟨rfl, hb3⟩)
            go_roundg (ys.length - (j' + 1))
            case measure => omega
            case rel => exact ⟨j' + 1, by omega, rfl, by go_num, bch hb2 (by assumption), Hd.out.trans (dropWhile_step hy.out (by rw [HR.out]; simp [hneg]))⟩
          · go_wp2_with fail
            refine HK.out.mono ?_; rintro e w1 ⟨rfl, hb3⟩
            have bx1 : w1.cell? ⟨w.heap.size + 1, 1, none⟩ = some (.slice (some ⟨b', off', none⟩) ys.length c') := ((Hbox.out.on hb2).on hb3).cell 1
            have c2' : w1.cell? ⟨b', off' + j', none⟩ = some (.slice A2 y.length C2) := (hb3.cell (p := ⟨b', _, none⟩) hB2).trans c2
            have HK2 := Lib.hid (implCompareRows_ok A2 s.A C2 s.c y x w1 (by have := HL.out; omega) (by unfold maxLen; omega) (S2.out.on hb3) ((S1.out.on hb2).on hb3))
            rw [HR.out] at HK2
            have Hb3 := Lib.hid hb3
            clear hb3
            go_wp2_with fail
            refine HK2.out.mono ?_; rintro e w2 ⟨rfl, hb4⟩
            have hbb : Below wo.heap.size wo w2 := bch (bch hb2 Hb3.out) hb4
            have HBB := Lib.hid hbb
            have HJ2 := Lib.hid (HJ.out _ _ _ HJk.out hbb)
            clear hbb hb4
            by_cases hz : R = 0
            · subst hz
              obtain ⟨q1, q2⟩ := head_drop (Hm.out.trans (merged_eq HX.out Hd.out hy.out HR.out))
              have HVk := Lib.hid (HV.out k true (s, x) w2 HJ2.out hpk.out q1)
              have HM := Lib.hid q2
              clear q1 q2
              go_wp2_with fail
              refine HVk.out.mono ?_
              rintro e w3 (⟨rfl, hJ3, hk3⟩ | ⟨rfl, hx3⟩)
              · have HJ3 := Lib.hid (And.intro hJ3 hk3)
                clear hJ3 hk3
                go_wp2_with fail
                go_roundg (ps.length - (k + 1))
                case measure => omega
                case rel =>
                  have h3 := HJ3.out.2
                  have hz2 := HBB.out.size
                  refine ⟨k + 1, j' + 1, by omega, by omega, rfl, by go_num, by go_num, hb.trans ((HBB.out.mono hzz).trans (h3.belowN (by omega))), by have := h3.size; omega, (Hbox.out.on HBB.out).kp2 h3 (by decide) (by decide), HJ3.out.1, HM.out⟩
              · have HX3 := Lib.hid hx3
                clear hx3
                go_wp2_with fail
                exact bodyPost_ret (results_none rfl _ _ _) rfl ⟨rfl, .inr ⟨k, hlt, HX3.out⟩⟩
            · have hzb : (R == 0) = false := by simp [hz]
              have Hz := Lib.hid hz
              clear hz
              obtain ⟨q1, q2⟩ := head_drop (Hm.out.trans (merged_ne HX.out Hd.out hy.out (by rw [HR.out]; omega) (by rw [HR.out]; exact Hz.out)))
              have HVk := Lib.hid (HV.out k false (s, x) w2 HJ2.out hpk.out q1)
              have HM := Lib.hid q2
              clear q1 q2
              go_wp2_with fail
              refine HVk.out.mono ?_
              rintro e w3 (⟨rfl, hJ3, hk3⟩ | ⟨rfl, hx3⟩)
              · have HJ3 := Lib.hid (And.intro hJ3 hk3)
                clear hJ3 hk3
                go_wp2_with fail
                go_roundg (ps.length - (k + 1))
                case measure => omega
                case rel =>
                  have h3 := HJ3.out.2
                  have hz2 := HBB.out.size
                  refine ⟨k + 1, j', by omega, by omega, rfl, by go_num, rfl, hb.trans ((HBB.out.mono hzz).trans (h3.belowN (by omega))), by have := h3.size; omega, (Hbox.out.on HBB.out).kp2 h3 (by decide) (by decide), HJ3.out.1, HM.out⟩
              · have HX3 := Lib.hid hx3
                clear hx3
                go_wp2_with fail
                exact bodyPost_ret (results_none rfl _ _ _) rfl ⟨rfl, .inr ⟨k, hlt, HX3.out⟩⟩
        · have HJ2 := Lib.hid (HJ.out _ _ _ HJk.out hb2)
          have HBB := Lib.hid hb2
          obtain ⟨q1, q2⟩ := head_drop (Hm.out.trans (merged_end HX.out Hd.out (by omega)))
          have HVk := Lib.hid (HV.out k false (s, x) wr HJ2.out hpk.out q1)
          have HM := Lib.hid q2
          clear q1 q2
          go_wp2_with fail
          refine HVk.out.mono ?_
          rintro e w3 (⟨rfl, hJ3, hk3⟩ | ⟨rfl, hx3⟩)
          · have HJ3 := Lib.hid (And.intro hJ3 hk3)
            clear hJ3 hk3
            go_wp2_with fail
            go_roundg (ps.length - (k + 1))
            case measure => omega
            case rel =>
              have h3 := HJ3.out.2
              have hz2 := HBB.out.size
              refine ⟨k + 1, j', by omega, by omega, rfl, by go_num, rfl, hb.trans ((HBB.out.mono hzz).trans (h3.belowN (by omega))), by have := h3.size; omega, (Hbox.out.on HBB.out).kp2 h3 (by decide) (by decide), HJ3.out.1, HM.out⟩
          · have HX3 := Lib.hid hx3
            clear hx3
            go_wp2_with fail
            exact bodyPost_ret (results_none rfl _ _ _) rfl ⟨rfl, .inr ⟨k, hlt, HX3.out⟩⟩
    · go_wp2
      go_end0
      have hk2 : k = ps.length := by omega
      exact ⟨rfl, .inl (hk2 ▸ HJk.out)⟩
end Go.Proofs.Ytldndapcbgaliaa
