/-
  Contracts of slices.Values (as a source of rows), slices.Concat of two, and the program's UnionAll.
-/
import Derived.Test.YtfjpmifdmpoocaaProg
import Derived.Test.YtfjpmifdmpoocaaCol
import Derived.Test.YtfjpmifdmpoocaaExc
import Derived.Lib.AppendZeros
import Derived.Deep.DeepCutAuto
import Derived.Deep.RegionHeld3
namespace Go.Proofs.Ytfjpmifdmpoocaa
open Go.RowKit Go.Qo
set_option linter.unusedVariables false
set_option linter.unusedSimpArgs false
attribute [local go_sem] Oper.semAt_some

theorem Ow.sl' {lo : Nat} {w : World} {A : Option Addr} {n c : Nat} {svs : List SV} (h : Ow lo 40 1 svC w (.slice A n c) svs) : Sl 1 svC w w.heap.size A svs := by
  obtain ⟨A2, c2, e, _, _, h2⟩ := h.shape svC_length
  injection e with e1 e2 e3
  subst e1
  exact h2.sl
theorem SRs.on {W : Int} {w w' : World} {p : SRw} (h : SRs W w p) (hb : Below w.heap.size w w') : SRs W w' p := ⟨h.1, h.2.1, h.2.2.1, h.2.2.2.1, h.2.2.2.2.on hb⟩
set_option maxRecDepth 100000 in
set_option maxHeartbeats 2000000 in
theorem valuesIt_ok (W : Int) (pb : Nat) (A : Option Addr) (c : Nat) (ps : List SRw) (w : World) (hn : ps.length ≤ 1048576) (hRa : Row w pb 23 [.slice A ps.length c]) (hA : Sl 1 svC w w.heap.size A (ps.map (·.1))) (hS : ∀ p ∈ ps, SRs W w p) :
    SeqStopsK Fence.wide 5 Try.prog 93 #[.pointer (some ⟨pb, 0, none⟩)] (fun x : Src W w => #[encSR x.1]) (KpC w.heap.size)
      (fun xs => xs.map (·.1) = ps) (fun pre => pre.map (·.1) <+: ps) ps.length w := by
  intro l J Jx z hz hJ hJx hY h0
  have a0 : z.cell? ⟨pb, 0, none⟩ = some (.slice A ps.length c) := (hRa.on hz).cell 0
  have HA := Lib.hid hA
  have HS := Lib.hid hS
  have HY := Lib.hid hY
  have HZ := Lib.hid hz
  clear hA hS hY hz hRa
  show CallsIn _ _ _ _ #[.func (.yield l) #[] #[], .pointer (some ⟨pb, 0, none⟩)] _ _
  refine callsIn_of_wp Try.func93 rfl trivial ?_ rfl
  simp only [Try.ntmps93, List.size_toArray, List.length_cons, List.length_nil, Nat.reduceAdd, Nat.reduceSub, Array.replicate_succ, Array.replicate_zero, List.push_toArray, List.append_toArray, List.nil_append, List.cons_append]
  gi_wp2
  gi_loopw [7] (fun i wr => ∃ (k : Nat) (pre : List (Src W w)), k ≤ ps.length ∧ i = .int .i64 k ∧ pre.map (·.1) = ps.take k ∧ J pre wr ∧ Below w.heap.size w wr)
    (fun i _ => ps.length - (intOf i).toNat)
  case atStart => exact ⟨0, [], Nat.zero_le _, rfl, rfl, h0, HZ.out⟩
  case round =>
    obtain ⟨k, pre, hk, rfl, hpre, hJs, hb⟩ := hrel
    by_cases hlt : k < ps.length
    · obtain ⟨p, hp⟩ : ∃ p, ps[k]? = some p := ⟨_, List.getElem?_eq_getElem hlt⟩
      have hps := HS.out p (List.mem_of_getElem? hp)
      obtain ⟨b, off, hAA, hB, hc⟩ := HA.out (by rw [List.length_map]; omega)
      subst hAA
      have c2 : wr.cell? ⟨b, off + k, none⟩ = some (.slice p.1.A p.1.n p.1.c) := by
        rw [hb.cell (p := ⟨b, _, none⟩) hB]
        have := hc k p.1 (by rw [List.getElem?_map, hp]; rfl) 0 _ rfl
        rwa [Nat.mul_one, Nat.add_zero] at this
      have hlen : pre.length < ps.length := by
        have := congrArg List.length hpre
        rw [List.length_map, List.length_take] at this
        omega
      have hyl := HY.out pre ⟨p, hps⟩ wr hJs hlen
      change YieldAt _ _ _ l #[.slice p.1.A p.1.n p.1.c] wr _ at hyl
      obtain ⟨fn, tmps, assign, body, hy, hR⟩ := hyl
      have HP := Lib.hid (And.intro hp (And.intro hpre (And.intro hJs hb)))
      clear hp hpre hc hlen hb hJs
      gi_wp2
      refine hR.mono ?_
      rintro e W3 (⟨rfl, hJ3, hk3⟩ | ⟨rfl, hJx3⟩)
      · have H3 := Lib.hid (And.intro hJ3 hk3)
        clear hJ3 hk3
        gi_wp2
        go_roundw
        case rel =>
          refine ⟨k + 1, pre ++ [⟨p, hps⟩], by omega, by simp, ?_, H3.out.1, HP.out.2.2.2.trans (H3.out.2.belowN HP.out.2.2.2.size)⟩
          rw [List.map_append, HP.out.2.1, List.take_add_one, HP.out.1]
          rfl
        case measure => simp [intOf]; omega
      · have H3 := Lib.hid hJx3
        clear hJx3
        gi_wp2
        refine bodyPost_ret (results_none rfl _ _ _) rfl ?_
        refine ⟨⟨_, rfl⟩, .inr ⟨_, ?_, H3.out⟩⟩
        rw [List.map_append, HP.out.2.1]
        have e : ps.take k ++ [p] = ps.take (k + 1) := by rw [List.take_add_one, HP.out.1]; rfl
        show ps.take k ++ [p] <+: ps
        rw [e]
        exact List.take_prefix _ _
    · obtain rfl : k = ps.length := by omega
      gi_wp2
      go_end0
      exact ⟨⟨_, rfl⟩, .inl ⟨pre, by rw [hpre, List.take_length], hJs⟩⟩
theorem entersValues1 : EntersF 93 := enters_of Try.func93 (by kernel_rfl) rfl
set_option maxHeartbeats 1000000 in
theorem values_ok (A : Option Addr) (n c : Nat) (w : World) :
    Calls Try.prog 64 #[.slice A n c] w fun e w' => e = .returned (.func (.func 93) #[] #[.pointer (some ⟨w.heap.size, 0, none⟩)]) ∧ Below w.heap.size w w' ∧ Row w' w.heap.size 23 [.slice A n c] := by
  go_enter Try.func64, Try.ntmps64
  go_wp2
  go_ret
  exact ⟨rfl, balloc (Below.refl _ _) _, Row.new _ _ _⟩

/-- append, as it runs. -/
theorem wpList_runs {P : Program} {w : World} {ops : Array Oper} {rest : List Oper} {o : Oper} {a : Act} {Q : Exit → Act → World → Prop} (hgd : o.guard = none) (s x : Operand) (t tn : TypeId)
    (ho : o.op = .call { callee := .builtin .append, args := #[s, x], argTypes := #[t, tn] }) (v u : Value) (hs : a.eval s = v) (hx : a.eval x = u) {r : Value} {w1 : World} (hrun : (Builtin.append_ #[t, tn] o.type #[v, u]).run P w = .ok r w1)
    (h : wpList P ops Q rest (a.put o.dst r) w1) : wpList P ops Q (o :: rest) a w := by
  refine wpList_plain hgd fun K hK => ?_
  unfold Oper.wp
  simp [execOp, ho, resolve, invoke, builtin, hs, hx, hrun, Result.andThen]
  exact hK _ _ h

set_option maxRecDepth 20000 in
set_option maxHeartbeats 1000000 in
theorem grow0_ok (n : Nat) (m : Int) (hmn : m = n) (w : World) (hn : n ≤ 1048576) :
    Calls Try.prog 94 #[.slice none 0 0, .int .i64 m] w fun e w' => ∃ A c, e = .returned (.slice A 0 c) ∧ Ow w.heap.size 40 1 svC w' (.slice A 0 c) [] ∧ Below w.heap.size w w' := by
  subst hmn
  have h2 : IntKind.i64.wrap (n : Int) = (n : Int) := IntWalk.i64_in _ (by omega)
  rcases Nat.eq_zero_or_pos n with h0 | h0
  · subst h0
    go_enter Try.func94, Try.ntmps94
    go_wp2
    go_ret
    exact ⟨none, 0, rfl, Ow.nil, Below.refl _ _⟩
  · obtain ⟨i, hi, hz, hsi, hby⟩ := info_parts zeroRow
    have happ := Go.Lib.run_append_nil_zeros (P := Try.prog) w 23 3 23 40 i (.slice none 0 0) .i64 .i64 Try.underlying23 Try.underlying3 hi hz n h0 (by rw [hsi]; decide) (by omega) (by rw [hby]; omega)
    have h3 : (0 : Int) < (n : Int) := by omega
    have h4 := grownCap_ge w n 0 40
    have h5 := grownCap_le_maxLen w n 0 40 (by unfold maxLen; omega)
    generalize hcap : grownCap w n 0 40 = cap at *
    have hsz : (Builtin.zeroCells (Value.slice none 0 0).cells n ++ Builtin.zeroCells (Value.slice none 0 0).cells (cap - n)).size = cap := by
      simp [Builtin.zeroCells, Value.cells]
      omega
    generalize hcs : (Builtin.zeroCells (Value.slice none 0 0).cells n ++ Builtin.zeroCells (Value.slice none 0 0).cells (cap - n)) = cs at *
    have HC := Lib.hid (And.intro h4 (And.intro h5 hsz))
    clear hsz hcap hcs hi hz hsi hby
    have HA := Lib.hid happ
    clear happ
    go_enter Try.func94, Try.ntmps94
    go_wp2_with (at_builtin; refine wpList_runs rfl (.tmp 20) (.tmp 21) 23 3 rfl _ _ rfl rfl HA.out ?_)
    go_ret
    refine ⟨_, _, rfl, ⟨by simp, .inr ⟨w.heap.size, cap, cs, rfl, Nat.le_refl _, ?_, Nat.zero_le _, HC.out.2.1, by rw [HC.out.2.2]; simp, by simp⟩⟩, ?_⟩
    · exact (Row.new w.drew 40 cs).trans (by simp)
    · exact balloc (Below.refl _ _).drew _

set_option maxRecDepth 20000 in
set_option maxHeartbeats 2000000 in
theorem concat2_ok (b off k0 : Nat) (A1 A2 : Option Addr) (n1 n2 c1 c2 : Nat) (xs ys : List SV) (w : World) (h1 : n1 = xs.length) (h2 : n2 = ys.length) (hn1 : n1 ≤ 4096) (hn2 : n2 ≤ 4096) (hb : b < w.heap.size) (a0 : w.cell? ⟨b, off, none⟩ = some (.slice A1 n1 c1)) (a1 : w.cell? ⟨b, off + 1, none⟩ = some (.slice A2 n2 c2))
    (hx : Sl 1 svC w w.heap.size A1 xs) (hy : Sl 1 svC w w.heap.size A2 ys) :
    Calls Try.prog 65 #[.slice (some ⟨b, off, none⟩) 2 k0] w fun e w' => ∃ A c, e = .returned (.slice A (n1 + n2) c) ∧ Ow w.heap.size 40 1 svC w' (.slice A (n1 + n2) c) (xs ++ ys) ∧ Below w.heap.size w w' := by
  have HG := Lib.hid (grow0_ok (n1 + n2) ((n1 : Int) + (n2 : Int)) (by omega) w (by omega))
  have HX := Lib.hid (And.intro hx hy)
  have HN := Lib.hid (And.intro h1 h2)
  clear hx hy h1 h2
  go_enter Try.func65, Try.ntmps65
  go_wp2
  go_loopg [3, 11] 2 (fun g s iv wr => w = wr ∧ ((g = 2 ∧ s = .int .i64 0 ∧ iv = .int .i64 0) ∨ (g = 1 ∧ s = .int .i64 (n1 : Nat) ∧ iv = .int .i64 1) ∨ (g = 0 ∧ s = .int .i64 ((n1 : Int) + (n2 : Int)) ∧ iv = .int .i64 2)))
  case atStart => exact ⟨rfl, .inl ⟨rfl, rfl, rfl⟩⟩
  case round =>
    obtain ⟨hww, (⟨rfl, rfl, rfl⟩ | ⟨rfl, rfl, rfl⟩ | ⟨rfl, rfl, rfl⟩)⟩ := hrel
    all_goals
      subst hww
    · go_wp2
      go_roundg 1
      case measure => omega
      case rel => exact ⟨rfl, .inr (.inl ⟨rfl, by go_num, by go_num⟩)⟩
    · have e2 : ¬ ((n1 : Int) + (n2 : Int) < 0) := by omega
      go_wp2
      go_roundg 0
      case measure => omega
      case rel => exact ⟨rfl, .inr (.inr ⟨rfl, by go_num, by go_num⟩)⟩
    · go_wp2_with fail
      refine HG.out.mono ?_
      rintro e w1 ⟨A3, c3, rfl, how, hb1⟩
      have H1 := Lib.hid (And.intro how hb1)
      have d0 : w1.cell? ⟨b, off, none⟩ = some (.slice A1 n1 c1) := (hb1.cell (p := ⟨b, _, none⟩) hb).trans a0
      have d1 : w1.cell? ⟨b, off + 1, none⟩ = some (.slice A2 n2 c2) := (hb1.cell (p := ⟨b, _, none⟩) hb).trans a1
      clear how hb1 a0 a1
      go_wp2
      go_loopg [6, 27] 2 (fun g v iv wr => Below wr.heap.size wr wr ∧ (w.heap.size ≤ wr.heap.size ∧ Below w.heap.size w wr) ∧ ((g = 2 ∧ iv = .int .i64 0 ∧ Ow w.heap.size 40 1 svC wr v []) ∨ (g = 1 ∧ iv = .int .i64 1 ∧ Ow w.heap.size 40 1 svC wr v xs) ∨ (g = 0 ∧ iv = .int .i64 2 ∧ Ow w.heap.size 40 1 svC wr v (xs ++ ys))))
      case atStart => exact ⟨Below.refl _ _, ⟨H1.out.2.size, H1.out.2⟩, .inl ⟨rfl, rfl, H1.out.1⟩⟩
      case round =>
        obtain ⟨_, ⟨hz, hbw⟩, (⟨rfl, rfl, how⟩ | ⟨rfl, rfl, how⟩ | ⟨rfl, rfl, how⟩)⟩ := hrel
        all_goals
          have f0 : wr.cell? ⟨b, off, none⟩ = some (.slice A1 n1 c1) := (hbw.cell (p := ⟨b, _, none⟩) hb).trans (by have := (H1.out.2.cell (p := ⟨b, off, none⟩) hb); rw [← this]; exact d0)
          have f1 : wr.cell? ⟨b, off + 1, none⟩ = some (.slice A2 n2 c2) := (hbw.cell (p := ⟨b, _, none⟩) hb).trans (by have := (H1.out.2.cell (p := ⟨b, off + 1, none⟩) hb); rw [← this]; exact d1)
          have HW := Lib.hid (And.intro how hbw)
          have SX := Lib.hid (HX.out.1.on hbw)
          have SY := Lib.hid (HX.out.2.on hbw)
        · obtain ⟨A4, c4, rfl, _, _, _⟩ := how.shape svC_length
          clear how hbw
          go_wp2_with (at_builtin; refine wpList_app rfl (.tmp 31) (.tmp 32) 23 rfl w.heap.size 40 _ 1 24 svC Try.underlying23 zeroRow rfl (by decide) (by decide) svC_length svC_one _ ([] : List SV) rfl HW.out.1 A1 n1 c1 xs rfl HN.out.1 SX.out (by have := HN.out; simp; omega) hz ?_; intro v4 w4 how4 hgr4; have H4 := Lib.hid (And.intro how4 hgr4); clear how4 hgr4)
          go_roundg 1
          case measure => omega
          case rel =>
            have hb4 : Below w.heap.size w w4 := HW.out.2.grown H4.out.2 hz fun q hq => (HW.out.1.ty q hq).1
            exact ⟨Below.refl _ _, ⟨hb4.size, hb4⟩, .inr (.inl ⟨rfl, by go_num, by simpa using H4.out.1⟩)⟩
        · obtain ⟨A4, c4, rfl, _, _, _⟩ := how.shape svC_length
          clear how hbw
          go_wp2_with (at_builtin; refine wpList_app rfl (.tmp 31) (.tmp 32) 23 rfl w.heap.size 40 _ 1 24 svC Try.underlying23 zeroRow rfl (by decide) (by decide) svC_length svC_one _ xs rfl HW.out.1 A2 n2 c2 ys rfl HN.out.2 SY.out (by have := HN.out; omega) hz ?_; intro v4 w4 how4 hgr4; have H4 := Lib.hid (And.intro how4 hgr4); clear how4 hgr4)
          go_roundg 0
          case measure => omega
          case rel =>
            have hb4 : Below w.heap.size w w4 := HW.out.2.grown H4.out.2 hz fun q hq => (HW.out.1.ty q hq).1
            exact ⟨Below.refl _ _, ⟨hb4.size, hb4⟩, .inr (.inr ⟨rfl, by go_num, H4.out.1⟩)⟩
        · obtain ⟨A4, c4, rfl, _, _, _⟩ := how.shape svC_length
          have hl : (xs ++ ys).length = n1 + n2 := by rw [List.length_append, HN.out.1, HN.out.2]
          have HL := Lib.hid hl
          clear how hbw hl
          go_wp2
          go_ret
          exact ⟨A4, c4, by have h1 := HN.out.1; have h2 := HN.out.2; simp [h1, h2], by have := HW.out.1; rw [HL.out] at this; exact this, HW.out.2⟩

theorem resUnionAll {b : Nat} {v0 v1 : Value} {r : Bool} (tmps : Array Value) (hp : tmps.getD 4 undef = .pointer (some ⟨b, 0, none⟩)) (hr : tmps.getD 5 undef = .bool r) (w : World) (c0 : w.cell? ⟨b, 0, none⟩ = some v0) (c1 : w.cell? ⟨b, 1, none⟩ = some v1) :
    (results Try.f31 tmps).run Try.prog w = .ok (.tuple #[.agg #[v0, v1], .bool r]) w := by
  simp only [Array.getD_eq_getD_getElem?] at hp hr
  simp [results, Try.results31, go_sem, hp, hr, c0, c1]

set_option maxRecDepth 20000 in
set_option maxHeartbeats 4000000 in
theorem implUnionAll_ok (W W' : Int) (A A' : Option Addr) (c c' : Nat) (xs ys : List Row1) (w : World) (hn : xs.length ≤ 1048576) (hn' : ys.length ≤ 1048576) (h : Rws w w.heap.size A xs) (h' : Rws w w.heap.size A' ys) (q : Bool) (hq : q = true ↔ (TabOk W xs ∧ TabOk W' ys ∧ W = W')) :
    Calls Try.prog 31 #[.agg #[.int .i64 W, .slice A xs.length c], .agg #[.int .i64 W', .slice A' ys.length c']] w (TabRes q W (xs ++ ys) w) := by
  have Hq := Lib.hid hq
  obtain ⟨t1, ht1⟩ : ∃ q : Bool, q = true ↔ TabOk W xs := ⟨_, @decide_eq_true_iff _ (Classical.propDecidable _)⟩
  obtain ⟨t2, ht2⟩ : ∃ q : Bool, q = true ↔ TabOk W' ys := ⟨_, @decide_eq_true_iff _ (Classical.propDecidable _)⟩
  have H1 := Lib.hid (fun (z : World) (hz : Below w.heap.size w z) => implValidTable_ok W A c xs z (by unfold maxLen; omega) (h.on hz) t1 ht1)
  have H2 := Lib.hid (fun (z : World) (hz : Below w.heap.size w z) => implValidTable_ok W' A' c' ys z (by unfold maxLen; omega) (h'.on hz) t2 ht2)
  have HH := Lib.hid (And.intro h h')
  have HQ1 := Lib.hid ht1
  have HQ2 := Lib.hid ht2
  clear hq ht1 ht2 h h'
  obtain ⟨W0, hW0⟩ : ∃ z, ((w.alloc (.cells #[.int .i64 W, .slice A xs.length c] 25)).alloc (.cells #[.int .i64 W', .slice A' ys.length c'] 25)).alloc (.cells #[.int .i64 0, .slice none 0 0] 25) = z := ⟨_, rfl⟩
  have B0 : Below w.heap.size w W0 := by rw [← hW0]; exact balloc (balloc (balloc (Below.refl _ _) _) _) _
  have r0 : Row W0 w.heap.size 25 [.int .i64 W, .slice A xs.length c] := by rw [← hW0]; exact ((Row.new _ _ _).alloc _).alloc _
  have r1 : Row W0 (w.heap.size + 1) 25 [.int .i64 W', .slice A' ys.length c'] := by rw [← hW0]; exact (Row.second _ _ _ _).alloc _
  have r2 : Row W0 (w.heap.size + 2) 25 [.int .i64 0, .slice none 0 0] := by rw [← hW0]; exact Row.third _ _ _ _ _
  have HW := Lib.hid hW0
  have HB0 := Lib.hid B0
  have HR0 := Lib.hid (And.intro r0 (And.intro r1 r2))
  have a0 : W0.cell? ⟨w.heap.size, 0, none⟩ = some (.int .i64 W) := r0.cell 0
  have a1 : W0.cell? ⟨w.heap.size, 1, none⟩ = some (.slice A xs.length c) := r0.cell 1
  have NO := Lib.hid (fun (w2 : World) (H2 : Below w.heap.size w w2) => show TabRes false W (xs ++ ys) w (.returned (.tuple #[.agg #[.int .i64 0, .slice none 0 0], .bool false])) ((w2.setCell ⟨w.heap.size + 2, 0, none⟩ (.int .i64 0)).setCell ⟨w.heap.size + 2, 1, none⟩ (.slice none 0 0)) from
    TabRes.no ((H2.setCell (p := ⟨w.heap.size + 2, 0, none⟩) (by simp) _).setCell (p := ⟨w.heap.size + 2, 1, none⟩) (by simp) _))
  clear B0 r0 r1 r2 hW0
  cases t1
  · have hf : q = false := bfalse Hq.out fun ht => by have := HQ1.out.2 ht.1; cases this
    subst hf
    go_enter Try.func31, Try.ntmps31
    go_upto_region 1 with fail
    rw [HW.out]
    go_wp2_with fail
    refine (H1.out _ HB0.out).mono ?_
    rintro e w1 ⟨rfl, hb1⟩
    have r2 := HR0.out.2.2.on hb1
    have e0 : w1.cell? ⟨w.heap.size + 2, 0, none⟩ = some (.int .i64 0) := r2.cell 0
    have e1 : w1.cell? ⟨w.heap.size + 2, 1, none⟩ = some (.slice none 0 0) := r2.cell 1
    have f0 := r2.frozen 0
    have f1 := r2.frozen 1
    have l2 := r2.lt
    have H1' := Lib.hid (bch HB0.out hb1)
    clear hb1 r2
    go_wp2
    refine bodyPost_ret (resUnionAll (b := w.heap.size + 2) (r := false) _ rfl rfl _ (v0 := .int .i64 0) (v1 := .slice none 0 0) (by simp [go_sem, e0, e1, l2]) (by simp [go_sem, e0, e1, l2])) rfl ?_
    exact NO.out _ H1'.out
  · by_cases hg : t2 = true ∧ W = W'
    · obtain ⟨rfl, hWW⟩ := hg
      have hf : q = true := Hq.out.2 ⟨HQ1.out.1 rfl, HQ2.out.1 rfl, hWW⟩
      subst hf
      subst hWW
      have hww : (W != W) = false := by simp
      have hT1 := HQ1.out.1 rfl
      have hT2 := HQ2.out.1 rfl
      have HT := Lib.hid (And.intro hT1 hT2)
      have hx4 : xs.length ≤ 400 := hT1.2.2.1
      have hy4 : ys.length ≤ 400 := hT2.2.2.1
      clear hT1 hT2
      go_enter Try.func31, Try.ntmps31
      go_upto_region 1 with fail
      rw [HW.out]
      go_wp2_with fail
      refine (H1.out _ HB0.out).mono ?_
      rintro e w1 ⟨rfl, hb1⟩
      have r1 := HR0.out.2.1.on hb1
      have b0 : w1.cell? ⟨w.heap.size + 1, 0, none⟩ = some (.int .i64 W) := r1.cell 0
      have b1 : w1.cell? ⟨w.heap.size + 1, 1, none⟩ = some (.slice A' ys.length c') := r1.cell 1
      have H1' := Lib.hid (bch HB0.out hb1)
      have R1 := Lib.hid (And.intro (HR0.out.1.on hb1) (And.intro r1 (HR0.out.2.2.on hb1)))
      clear hb1 r1 a0 a1
      go_wp2_with fail
      refine (H2.out _ H1'.out).mono ?_
      rintro e w2 ⟨rfl, hb2⟩
      have H2' := Lib.hid (bch H1'.out hb2)
      have R2 := Lib.hid (And.intro (R1.out.1.on hb2) (And.intro (R1.out.2.1.on hb2) (R1.out.2.2.on hb2)))
      have KC := Lib.hid (fun (z : World) (hz : Below w2.heap.size w2 z) => show ((z.cell? ⟨w.heap.size, 0, none⟩ = some (.int .i64 W) ∧ z.cell? ⟨w.heap.size, 1, none⟩ = some (.slice A xs.length c)) ∧ (z.cell? ⟨w.heap.size + 1, 0, none⟩ = some (.int .i64 W) ∧ z.cell? ⟨w.heap.size + 1, 1, none⟩ = some (.slice A' ys.length c'))) from
        ⟨⟨(R2.out.1.on hz).cell 0, (R2.out.1.on hz).cell 1⟩, ⟨(R2.out.2.1.on hz).cell 0, (R2.out.2.1.on hz).cell 1⟩⟩)
      have KS := Lib.hid (fun (z : World) (hz : Below w2.heap.size w2 z) (u u' : Value) => show ((((z.setCell ⟨w.heap.size + 2, 0, none⟩ u).setCell ⟨w.heap.size + 2, 1, none⟩ u').cell? ⟨w.heap.size, 0, none⟩ = some (.int .i64 W) ∧ ((z.setCell ⟨w.heap.size + 2, 0, none⟩ u).setCell ⟨w.heap.size + 2, 1, none⟩ u').cell? ⟨w.heap.size, 1, none⟩ = some (.slice A xs.length c)) ∧ (((z.setCell ⟨w.heap.size + 2, 0, none⟩ u).setCell ⟨w.heap.size + 2, 1, none⟩ u').cell? ⟨w.heap.size + 1, 0, none⟩ = some (.int .i64 W) ∧ ((z.setCell ⟨w.heap.size + 2, 0, none⟩ u).setCell ⟨w.heap.size + 2, 1, none⟩ u').cell? ⟨w.heap.size + 1, 1, none⟩ = some (.slice A' ys.length c'))) from
        have k0 := (((R2.out.1.on hz).far (p := ⟨w.heap.size + 2, 0, none⟩) (by simp) u).far (p := ⟨w.heap.size + 2, 1, none⟩) (by simp) u')
        have k1 := (((R2.out.2.1.on hz).far (p := ⟨w.heap.size + 2, 0, none⟩) (by simp) u).far (p := ⟨w.heap.size + 2, 1, none⟩) (by simp) u')
        ⟨⟨k0.cell 0, k0.cell 1⟩, ⟨k1.cell 0, k1.cell 1⟩⟩)
      obtain ⟨svs1, hl1, hv1, hin1⟩ := HH.out.1.on H2'.out
      obtain ⟨svs2, hl2, hv2, hin2⟩ := HH.out.2.on H2'.out
      obtain ⟨ps1, hp11, hp12, hps1⟩ := psOf (W := W) hl1 (tabRows1 HT.out.1) hin1
      obtain ⟨ps2, hp21, hp22, hps2⟩ := psOf (W := W) hl2 (tabRows1 HT.out.2) hin2
      have HV := Lib.hid (And.intro hv1 hv2)
      have HL := Lib.hid (And.intro hl1 hl2)
      have HP := Lib.hid (show (ps1 ++ ps2).map (·.1) = svs1 ++ svs2 ∧ (ps1 ++ ps2).map (·.2) = xs ++ ys ∧ (∀ p ∈ ps1 ++ ps2, SRs W w2 p) ∧ (ps1 ++ ps2).length = xs.length + ys.length from
        ⟨by rw [List.map_append, hp11, hp21], by rw [List.map_append, hp12, hp22], fun p hp => by rcases List.mem_append.1 hp with h | h; exact hps1 p h; exact hps2 p h, by rw [List.length_append, ← hp12, ← hp22, List.length_map, List.length_map]⟩)
      have BC := Lib.hid (show Below w2.heap.size w2 (w2.alloc (.cells #[.slice A xs.length c, .slice A' ys.length c'] 23)).drew from (balloc (Below.refl _ w2) _).drew)
      have RC := Lib.hid (show Row (w2.alloc (.cells #[.slice A xs.length c, .slice A' ys.length c'] 23)).drew w2.heap.size 23 [.slice A xs.length c, .slice A' ys.length c'] from (Row.new w2 _ _).drew)
      have HCC := Lib.hid (concat2_ok w2.heap.size 0 2 A A' xs.length ys.length c c' svs1 svs2 _ HL.out.1.symm HL.out.2.symm (by omega) (by omega) RC.out.lt (RC.out.cell 0) (RC.out.cell 1) (HV.out.1.on BC.out) (HV.out.2.on BC.out))
      have D2 := Lib.hid (show Below w2.heap.size w2 w2.drew from (Below.refl _ _).drew)
      have x2 := KC.out _ D2.out
      clear hb2 b0 b1 hl1 hl2 hv1 hv2 hin1 hin2 hp11 hp12 hps1 hp21 hp22 hps2
      have y2 := KC.out _ (Below.refl _ _)
      go_wp2_with fail
      clear y2
      go_region_held3 (fun z => (z.cell? ⟨w.heap.size, 0, none⟩ = some (.int .i64 W) ∧ z.cell? ⟨w.heap.size, 1, none⟩ = some (.slice A xs.length c)) ∧ (z.cell? ⟨w.heap.size + 1, 0, none⟩ = some (.int .i64 W) ∧ z.cell? ⟨w.heap.size + 1, 1, none⟩ = some (.slice A' ys.length c')))
        (first | assumption | exact KC.out _ (balloc D2.out _) | exact KC.out _ BC.out | exact KC.out _ H3.out | exact KC.out _ H4.out | exact KC.out _ H5.out | exact KS.out _ H5.out _ _)
        (first
          | (go_at_call 48; refine (HCOL.out).mono ?_; rintro e w5 ⟨v5, cp, rfl, hcp, how5, hcc, hb5⟩; obtain ⟨A5, c5, rfl, _, _, _⟩ := how5.shape svC_length; generalize (cp.map (·.1)).length = nn at how5 ⊢; have H5 := Lib.hid (bch H4.out hb5); have x5 := KC.out _ H5.out; have r2 := R2.out.2.2.on H5.out; have e0 : w5.cell? ⟨w.heap.size + 2, 0, none⟩ = some (.int .i64 0) := r2.cell 0; have e1 : w5.cell? ⟨w.heap.size + 2, 1, none⟩ = some (.slice none 0 0) := r2.cell 1; have f0 := r2.frozen 0; have f1 := r2.frozen 1; have l2 := r2.lt; have F5 := Lib.hid (And.intro hcp (And.intro how5 (And.intro hcc (And.intro hb5 r2)))); clear hcp how5 hcc hb5 r2)
          | (go_at_call 64; refine (values_ok _ _ _ _).mono ?_; rintro e w4 ⟨rfl, hb4, hr4⟩; have H4 := Lib.hid (bch H3.out hb4); have x4 := KC.out _ H4.out; have HCOL := Lib.hid (collect_ok W (ps1 ++ ps2).length 93 #[.pointer (some ⟨w3.heap.size, 0, none⟩)] (ps1 ++ ps2) w4 entersValues1 (valuesIt_ok W w3.heap.size A3 c3 (ps1 ++ ps2) w4 (by have := HP.out.2.2.2; omega) (by rw [HP.out.2.2.2]; exact hr4) (by rw [HP.out.1]; exact O3.out.on hb4) (fun p hp => ((HP.out.2.2.1 p hp).on H4.out)))); clear hb4 hr4; rw [HP.out.2.1] at HCOL)
          | (go_at_call 65; refine (HCC.out).mono ?_; rintro e w3 ⟨A3, c3, rfl, how3, hb3⟩; have H3 : Hid (Below w2.heap.size w2 w3) := Lib.hid (bch BC.out hb3); have x3 := KC.out _ H3.out; have O3 := Lib.hid (Ow.sl' how3); clear hb3 how3))
      all_goals
        go_wp2
        refine bodyPost_ret (resUnionAll (b := w.heap.size + 2) (r := true) _ rfl rfl _ (v0 := .int .i64 W) (v1 := .slice A5 nn c5) (by simp [go_sem, e0, e1, l2]) (by simp [go_sem, e0, e1, l2])) rfl ?_
        obtain ⟨hcp, how, hcc, hb5, r2⟩ := F5.out
        exact TabRes.yes hcp how hcc (bch H2'.out H4.out) hb5 r2 (by omega)
    · have hf : q = false := bfalse Hq.out fun ht => hg ⟨HQ2.out.2 ht.2.1, ht.2.2⟩
      subst hf
      obtain ⟨u, hu⟩ : ∃ u, (W != W') = u := ⟨_, rfl⟩
      have hgu : t2 = true → u = true := fun h => by
        subst h
        have : ¬ W = W' := fun h => hg ⟨rfl, h⟩
        rw [← hu]; simp [this]
      have HU := Lib.hid hgu
      clear hg hgu
      go_enter Try.func31, Try.ntmps31
      go_upto_region 1 with fail
      rw [HW.out]
      go_wp2_with fail
      refine (H1.out _ HB0.out).mono ?_
      rintro e w1 ⟨rfl, hb1⟩
      have r1 := HR0.out.2.1.on hb1
      have b0 : w1.cell? ⟨w.heap.size + 1, 0, none⟩ = some (.int .i64 W') := r1.cell 0
      have b1 : w1.cell? ⟨w.heap.size + 1, 1, none⟩ = some (.slice A' ys.length c') := r1.cell 1
      have H1' := Lib.hid (bch HB0.out hb1)
      have R1 := Lib.hid (And.intro (HR0.out.1.on hb1) (And.intro r1 (HR0.out.2.2.on hb1)))
      clear hb1 r1 a0 a1
      go_wp2_with fail
      refine (H2.out _ H1'.out).mono ?_
      rintro e w2 ⟨rfl, hb2⟩
      have r0 := R1.out.1.on hb2
      have r1 := R1.out.2.1.on hb2
      have r2 := R1.out.2.2.on hb2
      have a0 : w2.cell? ⟨w.heap.size, 0, none⟩ = some (.int .i64 W) := r0.cell 0
      have b0 : w2.cell? ⟨w.heap.size + 1, 0, none⟩ = some (.int .i64 W') := r1.cell 0
      have e0 : w2.cell? ⟨w.heap.size + 2, 0, none⟩ = some (.int .i64 0) := r2.cell 0
      have e1 : w2.cell? ⟨w.heap.size + 2, 1, none⟩ = some (.slice none 0 0) := r2.cell 1
      have f0 := r2.frozen 0
      have f1 := r2.frozen 1
      have l2 := r2.lt
      have H2' := Lib.hid (bch H1'.out hb2)
      clear hb2 r0 r1 r2 b1
      cases t2
      all_goals
        first
          | have huu := HU.out rfl
          | skip
        try subst huu
        go_wp2
        refine bodyPost_ret (resUnionAll (b := w.heap.size + 2) (r := false) _ rfl rfl _ (v0 := .int .i64 0) (v1 := .slice none 0 0) (by simp [go_sem, e0, e1, l2]) (by simp [go_sem, e0, e1, l2])) rfl ?_
        exact NO.out _ H2'.out
end Go.Proofs.Ytfjpmifdmpoocaa
