/-
  Contracts of the comparison closures: a key's, 'then', the one by all keys.
-/
import Derived.Test.YtldndapcbgaliaaProg
import Derived.Test.YtldndapcbgaliaaOrdW
import Derived.Test.YtldndapcbgaliaaPln
namespace Go.Proofs.Ytldndapcbgaliaa
open Go.RowKit Go.Qo
set_option linter.unusedVariables false
set_option linter.unusedSimpArgs false

/-- A call of function f is entered. -/
def Callable (f : FuncId) : Prop := ∀ (args : Array Value) (w : World), (callFunc f args).run Try.prog w = .ok (.enter f args) w
theorem callable_of {f : FuncId} {fn : Func} (h : Try.prog.funcs[f]? = some fn) (hn : (fn.name == "runtime.NumGoroutine") = false) (hb : fn.body.isNone = false) : Callable f := by
  intro args w
  simp [callFunc, go_sem, h, hn, hb]
  rw [if_neg (by simpa using hn), if_neg (by intro h0; rw [h0] at hb; simp at hb)]
/-- A function value that compares valid rows of width W by cmp, in w and later. -/
def IsCmp (w : World) (v : Value) (W : Int) (cmp : Row1 → Row1 → Int) : Prop :=
  ∃ (f : FuncId) (cap : Array Value), v = .func (.func f) #[] cap ∧ Callable f ∧ ∀ z : World, Below w.heap.size w z → ∀ (A A' : Option Addr) (c c' : Nat) (a b : Row1), RowOk W a → RowOk W b → Sl 2 valC z z.heap.size A a → Sl 2 valC z z.heap.size A' b →
    Calls Try.prog f (#[.slice A a.length c, .slice A' b.length c'] ++ cap) z fun e w' => e = .returned (.int .i64 (cmp a b)) ∧ Below z.heap.size z w'
theorem IsCmp.on {w w1 : World} {v : Value} {W : Int} {cmp : Row1 → Row1 → Int} (h : IsCmp w v W cmp) (hb : Below w.heap.size w w1) : IsCmp w1 v W cmp := by
  obtain ⟨f, cap, hv, hf, hc⟩ := h
  exact ⟨f, cap, hv, hf, fun z hz => hc z (bch hb hz)⟩

set_option maxHeartbeats 400000 in
theorem cmpZero_ok (A A' : Option Addr) (n n' c c' : Nat) (w : World) :
    Calls Try.prog 107 #[.slice A n c, .slice A' n' c'] w fun e w' => e = .returned (.int .i64 0) ∧ w = w' := by
  go_enter Try.func107, Try.ntmps107
  go_wp2
  go_ret
  exact ⟨rfl, rfl⟩

set_option maxHeartbeats 400000 in
theorem cmpKey_ok (A A' : Option Addr) (c c' : Nat) (a b : Row1) (W : Int) (col : Int) (dn : Bool) (pk : Nat) (w : World) (ha : RowOk W a) (hb : RowOk W b) (h : Sl 2 valC w w.heap.size A a) (h' : Sl 2 valC w w.heap.size A' b) (hc : 0 ≤ col ∧ col < W)
    (k0 : w.cell? ⟨pk, 0, none⟩ = some (.int .i64 col)) (k1 : w.cell? ⟨pk, 1, none⟩ = some (.bool dn)) :
    Calls Try.prog 129 #[.slice A a.length c, .slice A' b.length c', .pointer (some ⟨pk, 0, none⟩)] w fun e w' => e = .returned (.int .i64 (key1 (col, dn) a b)) ∧ Below w.heap.size w w' := by
  obtain ⟨cn, rfl⟩ := Int.eq_ofNat_of_zero_le hc.1
  have hl1 : cn < a.length := by have := ha.2; omega
  have hl2 : cn < b.length := by have := hb.2; omega
  have hm1 : a.length ≤ 6 := (rowValid_len ha.1).2
  have hm2 : b.length ≤ 6 := (rowValid_len hb.1).2
  obtain ⟨ba, oa, hAa, hBa, a1, a2⟩ := Val.at_ h hl1
  obtain ⟨bb, ob, hAb, hBb, b1, b2⟩ := Val.at_ h' hl2
  have hva := ha.vals a[cn] (by simp)
  have hvb := hb.vals b[cn] (by simp)
  have hkey := Lib.hid (show key1 ((cn : Int), dn) a b = if dn then - vCmp a[cn] b[cn] else vCmp a[cn] b[cn] by unfold key1; rw [getV_eq hl1, getV_eq hl2])
  clear ha hb h h' hc
  generalize a[cn] = x at *
  generalize b[cn] = y at *
  cases hAa
  cases hAb
  have hpk := World.block_lt_of_cell? w _ k0
  have d1 := fun z : Aft w.heap.size w => z.cell hpk k0
  have d3 := fun z : Aft w.heap.size w => z.cell (by omega) a1
  have d4 := fun z : Aft w.heap.size w => z.cell (by omega) a2
  have d5 := fun z : Aft w.heap.size w => z.cell (by omega) b1
  have d6 := fun z : Aft w.heap.size w => z.cell (by omega) b2
  cases dn
  · have Hk := Lib.hid (fun w => implCompare_ok x y w)
    rw [pCmp_eq x y hva hvb] at Hk
    go_enter Try.func129, Try.ntmps129
    go_wp2
    refine wp_region_aft w.heap.size (by kernel_rfl) (by kernel_rfl) ?_
    repeat (go_big_quiet_step ((go_at_call 127; exact Calls.aft (Nat.le_refl _) (Hk.out _))))
    refine wpQuiet_nil ?_
    intro w1 hw'
    obtain ⟨⟨_, hb1⟩, rfl⟩ := hw'
    go_wp2
    go_ret
    exact ⟨ret_int (by rw [hkey.out]; simp), hb1⟩
  · have Hk := Lib.hid (fun w => implCompare_ok y x w)
    rw [pCmp_eq y x hvb hva, vCmp_anti hva hvb] at Hk
    go_enter Try.func129, Try.ntmps129
    go_wp2
    refine wp_region_aft w.heap.size (by kernel_rfl) (by kernel_rfl) ?_
    repeat (go_big_quiet_step ((go_at_call 127; exact Calls.aft (Nat.le_refl _) (Hk.out _))))
    refine wpQuiet_nil ?_
    intro w1 hw'
    obtain ⟨⟨_, hb1⟩, rfl⟩ := hw'
    go_wp2
    go_ret
    exact ⟨ret_int (by rw [hkey.out]; simp), hb1⟩

theorem callKey : Callable 129 := callable_of Try.func129 (by kernel_rfl) (by kernel_rfl)
theorem callThen : Callable 128 := callable_of Try.func128 (by kernel_rfl) (by kernel_rfl)
theorem callZero : Callable 107 := callable_of Try.func107 (by kernel_rfl) (by kernel_rfl)

set_option maxRecDepth 100000 in
set_option maxHeartbeats 400000 in
theorem cmpThen_ok (A A' : Option Addr) (n n' c c' : Nat) (pc pn : Nat) (w : World) (f : FuncId) (hf : Callable f) (cap : Array Value) (pk : Nat) (r1 r2 : Int)
    (k0 : w.cell? ⟨pc, 0, none⟩ = some (.func (.func f) #[] cap)) (k1 : w.cell? ⟨pn, 0, none⟩ = some (.func (.func 129) #[] #[.pointer (some ⟨pk, 0, none⟩)]))
    (h1 : Calls Try.prog f (#[.slice A n c, .slice A' n' c'] ++ cap) w fun e w' => e = .returned (.int .i64 r1) ∧ Below w.heap.size w w')
    (h2 : ∀ z, Below w.heap.size w z → Calls Try.prog 129 #[.slice A n c, .slice A' n' c', .pointer (some ⟨pk, 0, none⟩)] z fun e w' => e = .returned (.int .i64 r2) ∧ Below z.heap.size z w') :
    Calls Try.prog 128 #[.slice A n c, .slice A' n' c', .pointer (some ⟨pc, 0, none⟩), .pointer (some ⟨pn, 0, none⟩)] w fun e w' => e = .returned (.int .i64 (if r1 ≠ 0 then r1 else r2)) ∧ Below w.heap.size w w' := by
  have H1 := Lib.hid h1
  have H2 := Lib.hid h2
  clear h1 h2
  have hcf := hf (#[.slice A n c, .slice A' n' c'] ++ cap)
  have hpn := World.block_lt_of_cell? w _ k1
  clear hf
  by_cases h0 : r1 = 0
  · subst h0
    rw [if_neg (by simp)]
    go_enter Try.func128, Try.ntmps128
    go_wp2_with fail
    refine H1.out.mono ?_; rintro e w1 ⟨rfl, hb1⟩
    have k1' := (hb1.cell (p := ⟨pn, 0, none⟩) hpn).trans k1
    have Hb1 := Lib.hid hb1
    clear hb1
    go_wp2_with fail
    refine (H2.out _ Hb1.out).mono ?_; rintro e w2 ⟨rfl, hb2⟩
    go_wp2
    go_ret
    exact ⟨rfl, bch Hb1.out hb2⟩
  · rw [if_pos h0]
    have hne : (r1 != 0) = true := by simp [h0]
    clear h0
    go_enter Try.func128, Try.ntmps128
    go_wp2_with fail
    refine H1.out.mono ?_; rintro e w1 ⟨rfl, hb1⟩
    go_wp2
    go_ret
    exact ⟨rfl, hb1⟩

set_option maxHeartbeats 400000 in
theorem sortKeyComparison_ok (col : Int) (dn : Bool) (w : World) :
    Calls Try.prog 109 #[.agg #[.int .i64 col, .bool dn]] w fun e w' => e = .returned (.func (.func 129) #[] #[.pointer (some ⟨w.heap.size, 0, none⟩)]) ∧ w' = w.alloc (.cells #[.int .i64 col, .bool dn] 109) := by
  go_enter Try.func109, Try.ntmps109
  go_wp2
  go_ret
  exact ⟨rfl, rfl⟩

set_option maxHeartbeats 400000 in
theorem then_ok (f g : Fn) (cf cg : Array Value) (w : World) :
    Calls Try.prog 108 #[.func f #[] cf, .func g #[] cg] w fun e w' => e = .returned (.func (.func 128) #[] #[.pointer (some ⟨w.heap.size, 0, none⟩), .pointer (some ⟨w.heap.size + 1, 0, none⟩)]) ∧ w' = (w.alloc (.cells #[.func f #[] cf] 81)).alloc (.cells #[.func g #[] cg] 81) := by
  go_enter Try.func108, Try.ntmps108
  go_wp2
  go_ret
  exact ⟨rfl, rfl⟩

theorem newAt {w : World} {n : Nat} {t : TypeId} (c : Array Value) (cs : List Value) (hn : n = w.heap.size) (hc : c.toList = cs) : Row (w.alloc (.cells c t)) n t cs := by
  subst hn; subst hc; exact Row.new w t c

theorem IsCmp.zero (w : World) (W : Int) : IsCmp w (.func (.func 107) #[] #[]) W (kCmp []) :=
  ⟨_, _, rfl, callZero, fun z hz A A' c c' a b _ _ _ _ => (cmpZero_ok A A' a.length b.length c c' z).mono fun e w' ⟨he, hw⟩ => ⟨he, hw ▸ Below.refl _ _⟩⟩

theorem IsCmp.next {w w1 : World} {f : FuncId} {cap : Array Value} {W col : Int} {dn : Bool} {keys : List Key} {pc pn pk : Nat} (h : IsCmp w (.func (.func f) #[] cap) W (kCmp keys)) (hb : Below w.heap.size w w1) (hc : 0 ≤ col ∧ col < W)
    (k0 : Row w1 pc 81 [.func (.func f) #[] cap]) (k1 : Row w1 pn 81 [.func (.func 129) #[] #[.pointer (some ⟨pk, 0, none⟩)]]) (k2 : Row w1 pk 109 [.int .i64 col, .bool dn]) :
    IsCmp w1 (.func (.func 128) #[] #[.pointer (some ⟨pc, 0, none⟩), .pointer (some ⟨pn, 0, none⟩)]) W (kCmp (keys ++ [(col, dn)])) := by
  obtain ⟨f', cap', hv, hf, hcall⟩ := h
  simp only [Value.func.injEq, Fn.func.injEq, true_and] at hv
  obtain ⟨rfl, rfl⟩ := hv
  refine ⟨_, _, rfl, callThen, fun z hz A A' c c' a b ha hb' hA hA' => ?_⟩
  have r1 := hcall z (bch hb hz) A A' c c' a b ha hb' hA hA'
  rw [kCmp_snoc]
  exact cmpThen_ok A A' a.length b.length c c' pc pn z f hf cap pk _ _ ((k0.on hz).cell 0) ((k1.on hz).cell 0) r1 fun y hy =>
    cmpKey_ok A A' c c' a b W col dn pk y ha hb' (hA.on hy) (hA'.on hy) hc (((k2.on hz).on hy).cell 0) (((k2.on hz).on hy).cell 1)

set_option maxHeartbeats 1000000 in
theorem comparisonBy_ok (A : Option Addr) (c : Nat) (keys : List Key) (W : Int) (w : World) (hn : keys.length ≤ maxLen) (h : Sl 2 keyC w w.heap.size A keys) (hk : KeysOk W keys) :
    Calls Try.prog 60 #[.slice A keys.length c] w fun e w' => ∃ (f : FuncId) (cap : Array Value), e = .returned (.func (.func f) #[] cap) ∧ Below w.heap.size w w' ∧ IsCmp w' (.func (.func f) #[] cap) W (kCmp keys) := by
  unfold maxLen at hn
  have Hk := Lib.hid hk
  clear hk
  go_enter Try.func60, Try.ntmps60
  go_wp2
  go_loopg [3, 8] (keys.length) (fun g v i wr => ∃ (k : Nat) (f : FuncId) (cap : Array Value), k ≤ keys.length ∧ g = keys.length - k ∧ i = .int .i64 k ∧ v = .func (.func f) #[] cap ∧ Below w.heap.size w wr ∧ IsCmp wr (.func (.func f) #[] cap) W (kCmp (keys.take k)))
  case atStart => exact ⟨0, _, _, by omega, by omega, rfl, rfl, Below.refl _ _, IsCmp.zero _ _⟩
  case round =>
    obtain ⟨k, f, cap, hk, rfl, rfl, rfl, hb, hc⟩ := hrel
    have Hc := Lib.hid hc
    clear hc
    by_cases hlt : k < keys.length
    · obtain ⟨b, off, hA, hB, c1, c2⟩ := Key.at_ (h.below hb) hlt
      have hx := Lib.hid (List.getElem?_eq_getElem hlt)
      generalize keys[k] = x at *
      cases hA
      obtain ⟨col, dn⟩ := x
      dsimp only at *
      have S1 := Lib.hid (fun w => sortKeyComparison_ok col dn w)
      have S2 := Lib.hid (fun g cg w => then_ok (.func f) g cap cg w)
      go_wp2_with fail
      refine (S1.out _).mono ?_; rintro e w1 ⟨rfl, rfl⟩
      go_wp2_with fail
      refine (S2.out _ _ _).mono ?_; rintro e w2 ⟨rfl, rfl⟩
      go_wp2_with fail
      go_roundg (keys.length - (k + 1))
      case measure => omega
      case rel =>
        refine ⟨k + 1, _, _, by omega, rfl, by go_num, rfl, balloc (balloc (balloc (balloc hb _) _) _) _, ?_⟩
        have e : keys.take (k + 1) = keys.take k ++ [(col, dn)] := by rw [List.take_add_one, hx.out]; rfl
        rw [e]
        refine Hc.out.next (pk := wr.heap.size + 1) (balloc (balloc (balloc (balloc (Below.refl _ _) _) _) _) _) (Hk.out.at_ hx.out) ?_ ?_ ?_
        · exact (newAt _ _ (by simp) rfl).alloc _
        · exact newAt _ _ (by simp) rfl
        · exact ((newAt _ _ (by simp) rfl).alloc _).alloc _
    · go_wp2
      go_ret
      exact ⟨f, cap, rfl, hb, by have := Hc.out; rwa [List.take_of_length_le (by omega)] at this⟩

end Go.Proofs.Ytldndapcbgaliaa
