/-
  Contracts of slices.Values (as a source of rows), slices.Concat of two, and the program's UnionAll.
-/
import Derived.Test.YtldndapcbgaliaaProg
import Derived.Test.YtldndapcbgaliaaCol
import Derived.Test.YtldndapcbgaliaaExc
import Derived.Lib.AppendZeros
import Derived.Deep.DeepCutAuto
import Derived.Deep.RegionHeld3
namespace Go.Proofs.Ytldndapcbgaliaa
open Go.RowKit Go.Qo
set_option linter.unusedVariables false
set_option linter.unusedSimpArgs false
attribute [local go_sem] Oper.semAt_some

theorem Ow.sl' {lo : Nat} {w : World} {A : Option Addr} {n c : Nat} {svs : List SV} (h : Ow lo 41 1 svC w (.slice A n c) svs) : Sl 1 svC w w.heap.size A svs := by
  obtain ⟨A2, c2, e, _, _, h2⟩ := h.shape svC_length
  injection e with e1 e2 e3
  subst e1
  exact h2.sl
theorem SRs.on {W : Int} {w w' : World} {p : SRw} (h : SRs W w p) (hb : Below w.heap.size w w') : SRs W w' p := ⟨h.1, h.2.1, h.2.2.1, h.2.2.2.1, h.2.2.2.2.on hb⟩
set_option maxRecDepth 100000 in
set_option maxHeartbeats 2000000 in
theorem valuesIt_ok (W : Int) (pb : Nat) (A : Option Addr) (c : Nat) (ps : List SRw) (w : World) (hn : ps.length ≤ 1048576) (hRa : Row w pb 23 [.slice A ps.length c]) (hA : Sl 1 svC w w.heap.size A (ps.map (·.1))) (hS : ∀ p ∈ ps, SRs W w p) :
    SeqStopsK Fence.wide 5 Try.prog 106 #[.pointer (some ⟨pb, 0, none⟩)] (fun x : Src W w => #[encSR x.1]) (KpC w.heap.size)
      (fun xs => xs.map (·.1) = ps) (fun pre => pre.map (·.1) <+: ps) ps.length w := by
  intro l J Jx z hz hJ hJx hY h0
  have a0 : z.cell? ⟨pb, 0, none⟩ = some (.slice A ps.length c) := (hRa.on hz).cell 0
  have HA := Lib.hid hA
  have HS := Lib.hid hS
  have HY := Lib.hid hY
  have HZ := Lib.hid hz
  clear hA hS hY hz hRa
  show CallsIn _ _ _ _ #[.func (.yield l) #[] #[], .pointer (some ⟨pb, 0, none⟩)] _ _
  refine callsIn_of_wp Try.func106 rfl trivial ?_ rfl
  simp only [Try.ntmps106, List.size_toArray, List.length_cons, List.length_nil, Nat.reduceAdd, Nat.reduceSub, Array.replicate_succ, Array.replicate_zero, List.push_toArray, List.append_toArray, List.nil_append, List.cons_append]
  gi_wp2
  gi_loopw [7] (fun i wr => ∃ (k : Nat) (pre : List (Src W w)), k ≤ ps.length ∧ i = .int .i64 k ∧ pre.map (·.1) = ps.take k ∧ J pre wr ∧ Below w.heap.size w wr)
    (fun i _ => ps.length - (intOf i).toNat)
  case atStart => exact ⟨0, [], Nat.zero_le _, rfl, rfl, h0, HZ.out⟩
  case round =>
    obtain ⟨k, pre, hk, rfl, hpre, hJs, hb⟩ := hrel
    by_cases hlt : k < ps.length
    · obtain ⟨p, hp⟩ : ∃ p, ps[k]? = some p := ⟨_, List.getElem?_eq_getElem hlt⟩
      have hps := HS.out p (List.mem_of_getElem? hp)
      obtain ⟨b, off, hAA, hB, hc⟩ := HA.out (by rw [List.length_map]; omega)
      subst hAA
      have c2 : wr.cell? ⟨b, off + k, none⟩ = some (.slice p.1.A p.1.n p.1.c) := by
        rw [hb.cell (p := ⟨b, _, none⟩) hB]
        have := hc k p.1 (by rw [List.getElem?_map, hp]; rfl) 0 _ rfl
        rwa [Nat.mul_one, Nat.add_zero] at this
      have hlen : pre.length < ps.length := by
        have := congrArg List.length hpre
        rw [List.length_map, List.length_take] at this
        omega
      have hyl := HY.out pre ⟨p, hps⟩ wr hJs hlen
      change YieldAt _ _ _ l #[.slice p.1.A p.1.n p.1.c] wr _ at hyl
      obtain ⟨fn, tmps, assign, body, hy, hR⟩ := hyl
      have HP := Lib.hid (And.intro hp (And.intro hpre (And.intro hJs hb)))
      clear hp hpre hc hlen hb hJs
      gi_wp2
      refine hR.mono ?_
      rintro e W3 (⟨rfl, hJ3, hk3⟩ | ⟨rfl, hJx3⟩)
      · have H3 := Lib.hid (And.intro hJ3 hk3)
        clear hJ3 hk3
        gi_wp2
        go_roundw
        case rel =>
          refine ⟨k + 1, pre ++ [⟨p, hps⟩], by omega, by simp, ?_, H3.out.1, HP.out.2.2.2.trans (H3.out.2.belowN HP.out.2.2.2.size)⟩
          rw [List.map_append, HP.out.2.1, List.take_add_one, HP.out.1]
          rfl
        case measure => simp [intOf]; omega
      · have H3 := Lib.hid hJx3
        clear hJx3
        gi_wp2
        refine bodyPost_ret (results_none rfl _ _ _) rfl ?_
        refine ⟨⟨_, rfl⟩, .inr ⟨_, ?_, H3.out⟩⟩
        rw [List.map_append, HP.out.2.1]
        have e : ps.take k ++ [p] = ps.take (k + 1) := by rw [List.take_add_one, HP.out.1]; rfl
        show ps.take k ++ [p] <+: ps
        rw [e]
        exact List.take_prefix _ _
    · obtain rfl : k = ps.length := by omega
      gi_wp2
      go_end0
      exact ⟨⟨_, rfl⟩, .inl ⟨pre, by rw [hpre, List.take_length], hJs⟩⟩
theorem entersValues1 : EntersF 106 := enters_of Try.func106 (by kernel_rfl) rfl
set_option maxHeartbeats 1000000 in
theorem values_ok (A : Option Addr) (n c : Nat) (w : World) :
    Calls Try.prog 57 #[.slice A n c] w fun e w' => e = .returned (.func (.func 106) #[] #[.pointer (some ⟨w.heap.size, 0, none⟩)]) ∧ Below w.heap.size w w' ∧ Row w' w.heap.size 23 [.slice A n c] := by
  go_enter Try.func57, Try.ntmps57
  go_wp2
  go_ret
  exact ⟨rfl, balloc (Below.refl _ _) _, Row.new _ _ _⟩

/-- append, as it runs. -/
theorem wpList_runs {P : Program} {w : World} {ops : Array Oper} {rest : List Oper} {o : Oper} {a : Act} {Q : Exit → Act → World → Prop} (hgd : o.guard = none) (s x : Operand) (t tn : TypeId)
    (ho : o.op = .call { callee := .builtin .append, args := #[s, x], argTypes := #[t, tn] }) (v u : Value) (hs : a.eval s = v) (hx : a.eval x = u) {r : Value} {w1 : World} (hrun : (Builtin.append_ #[t, tn] o.type #[v, u]).run P w = .ok r w1)
    (h : wpList P ops Q rest (a.put o.dst r) w1) : wpList P ops Q (o :: rest) a w := by
  refine wpList_plain hgd fun K hK => ?_
  unfold Oper.wp
  simp [execOp, ho, resolve, invoke, builtin, hs, hx, hrun, Result.andThen]
  exact hK _ _ h

end Go.Proofs.Ytldndapcbgaliaa
