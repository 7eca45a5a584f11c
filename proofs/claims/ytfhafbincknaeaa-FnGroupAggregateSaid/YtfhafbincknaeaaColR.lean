/-
  Contract of collect over an iterator that keeps memory of its own and hands on rows that it has just made.
-/
import Derived.Test.YtfhafbincknaeaaProg
import Derived.Test.YtfhafbincknaeaaCol
import Derived.Test.YtfhafbincknaeaaPln
import Derived.Test.YtfhafbincknaeaaRgR
namespace Go.Proofs.Ytfhafbincknaeaa
open Go.RowKit Go.Qo
set_option linter.unusedVariables false
set_option linter.unusedSimpArgs false
attribute [local go_sem] Oper.semAt_some

/-- A valid row with some slice. -/
abbrev Rw (W : Int) := {p : SRw // RowOk W p.2}
theorem SRs.put {W : Int} {X : World} {p : SRw} {l : Nat} {r : Loop} (h : SRs W X p) (hl : X.heap[l]? = some (.loop r)) (r' : Loop) : SRs W (X.putObj l (.loop r')) p :=
  ⟨h.1, h.2.1, h.2.2.1, h.2.2.2.1, by
    have hk : ∀ b o, (X.putObj l (.loop r')).cell? ⟨b, o, none⟩ = X.cell? ⟨b, o, none⟩ := fun b o => by
      by_cases e : b = l
      · subst e
        have h2 := World.putObj_heap_same (o := .loop r') (Array.getElem?_eq_some_iff.1 hl).1
        simp only [World.cell?, h2, hl]
      · have h2 := World.putObj_heap_other (w := X) (o := .loop r') e
        simp only [World.cell?, h2]
    have hs := h.2.2.2.2.keep (w' := X.putObj l (.loop r')) fun b o _ => hk b o
    rwa [size_put]⟩
/-- Between two rounds. -/
def ColJ (W : Int) (w : World) (E : Nat → Prop) (pre : List (Rw W)) (z : World) : Prop :=
  pre.length ≤ 400 ∧ Row z w.heap.size 3 [.int .i64 W] ∧ Row z (w.heap.size + 1) 29 [.int .i64 0, .slice none 0 0] ∧
  (∃ (v : Value) (cp : List SRw), Row z (w.heap.size + 2) 27 [v] ∧ Ow (w.heap.size + 3) 42 1 svC z v (cp.map (·.1)) ∧ Cps w.heap.size z cp ∧ cp.map (·.2) = pre.map (·.1.2) ∧
    (∀ b, v.ownBlock = some b → ¬ E b) ∧ (∀ p ∈ cp, ∀ b, svB p.1 = some b → ¬ E b)) ∧ Below w.heap.size w z ∧ ∀ i, E i → w.heap.size + 3 ≤ i ∧ i < z.heap.size
/-- After a round that has found too many. -/
def ColY (W : Int) (w : World) (c : Code) (E : Nat → Prop) (pre : List (Rw W)) (z : World) : Prop :=
  c = .ret ∧ 400 < pre.length ∧ Row z (w.heap.size + 1) 29 [.int .i64 W, .slice none 0 0] ∧ Below w.heap.size w z ∧ w.heap.size + 3 ≤ z.heap.size ∧ ∀ i, E i → w.heap.size + 3 ≤ i ∧ i < z.heap.size
theorem freshE {E E' : Nat → Prop} {X Y : World} {m : Nat} (h : ∀ i, E i → m ≤ i ∧ i < X.heap.size) (hm : m ≤ X.heap.size) (hf : Fresh E E' X Y) : ∀ i, E' i → m ≤ i ∧ i < Y.heap.size := fun i hi => by
  obtain ⟨h1, h2⟩ := hf i hi
  refine ⟨?_, h2⟩
  rcases h1 with h1 | h1
  · exact (h i h1).1
  · omega
theorem freshN {E E' : Nat → Prop} {X Y : World} (hf : Fresh E E' X Y) {b : Nat} (hb : b < X.heap.size) (h : ¬ E b) : ¬ E' b := fun h' => by
  rcases (hf b h').1 with h1 | h1
  · exact h h1
  · omega
theorem belowE {E : Nat → Prop} {w X Y : World} (h : Below w.heap.size w X) (ho : Only E X Y) (hE : ∀ i, E i → w.heap.size ≤ i) : Below w.heap.size w Y := Only.from_ h rfl ho hE
theorem OwP.own {lo : Nat} {z z' : World} {p : SRw} {S : Nat → Prop} (h : OwP lo z p) (k : Only S z z') (hS : ∀ b, svB p.1 = some b → ¬ S b) : OwP lo z' p := ⟨h.1, h.2.apart2 k hS⟩
theorem Cps.own {lo : Nat} {z z' : World} {cp : List SRw} {S : Nat → Prop} (h : Cps lo z cp) (k : Only S z z') (hS : ∀ p ∈ cp, ∀ b, svB p.1 = some b → ¬ S b) : Cps lo z' cp := ⟨fun p hp => (h.1 p hp).own k (hS p hp), h.2⟩
theorem colJ_abd {W : Int} {w : World} : Abd (ColJ W w) := by
  rintro E E' pre X Y ⟨h0, h1, h2, ⟨v, cp, h3, h4, h5, h7, d1, d2⟩, h6, hE⟩ ho hf
  have hn : ∀ k, k < w.heap.size + 3 → ¬ E k := fun k hk h => by have := (hE k h).1; omega
  have hX : w.heap.size + 3 ≤ X.heap.size := h3.lt
  exact ⟨h0, h1.only ho (hn _ (by omega)), h2.only ho (hn _ (by omega)), ⟨v, cp, h3.only ho (hn _ (by omega)), h4.apart2 ho d1, h5.own ho d2, h7,
    fun b hb => freshN hf (h4.ty b hb).2.1 (d1 b hb), fun p hp b hb => freshN hf ((h5.1 p hp).2.ty b hb).2.1 (d2 p hp b hb)⟩, belowE h6 ho fun i hi => by have := (hE i hi).1; omega, freshE hE hX hf⟩
theorem colY_abd {W : Int} {w : World} (c : Code) : Abd (ColY W w c) := by
  rintro E E' pre X Y ⟨h0, h1, h2, h6, hX, hE⟩ ho hf
  have hn : ∀ k, k < w.heap.size + 3 → ¬ E k := fun k hk h => by have := (hE k h).1; omega
  refine ⟨h0, h1, h2.only ho (hn _ (by omega)), belowE h6 ho fun i hi => by have := (hE i hi).1; omega, Nat.le_trans hX ho.size, fun i hi => ?_⟩
  obtain ⟨k1, k2⟩ := hf i hi
  refine ⟨?_, k2⟩
  rcases k1 with k1 | k1
  · exact (hE i k1).1
  · omega
theorem colDis {E : Nat → Prop} {v v3 : Value} {m z z2 : Nat} (h1 : ∀ b, v.ownBlock = some b → ¬ E b) (hE : ∀ i, E i → m ≤ i ∧ i < z) (hz : z ≤ z2) (hw : v3.ownBlock = v.ownBlock ∨ v3.ownBlock = some z2) : ∀ b, v3.ownBlock = some b → ¬ E b := by
  intro b hb
  rcases hw with e | e
  · exact h1 b (e ▸ hb)
  · rw [e] at hb
    cases hb
    intro h
    have := (hE _ h).2
    omega
theorem colDis2 {E : Nat → Prop} {cp : List SRw} {p : SRw} {m z : Nat} (h2 : ∀ p ∈ cp, ∀ b, svB p.1 = some b → ¬ E b) (hE : ∀ i, E i → m ≤ i ∧ i < z) (hp : ∀ b, svB p.1 = some b → z ≤ b) : ∀ q ∈ cp ++ [p], ∀ b, svB q.1 = some b → ¬ E b := by
  intro q hq b hb h
  rcases List.mem_append.1 hq with h1 | h1
  · exact h2 q h1 b hb h
  · simp only [List.mem_singleton] at h1
    subst h1
    have := hp b hb
    have := (hE _ h).2
    omega

set_option maxRecDepth 100000 in
set_option maxHeartbeats 4000000 in
theorem collectR_ok (W : Int) (N gf : Nat) (lb : Array Value) (rows : List Row1) (w : World) (eg : ∀ args w, (callFunc gf args).run Try.prog w = .ok (.enter gf args) w)
    (hseq : SeqR Fence.wide 5 Try.prog gf lb (fun x : Rw W => encSR x.1) (fun x z => SRs W z x.1) w.heap.size (fun ys => ys.map (·.1.2) = rows) (fun pre => pre.map (·.1.2) <+: rows) N w) :
    Calls Try.prog 27 #[.int .i64 W, .func (.func gf) #[] lb] w (ColRes W rows w) := by
  have HQ := Lib.hid hseq
  clear hseq
  refine (callsIn_wide (n := 6)).1 ?_
  refine callsIn_of_wp_marks Try.func27 rfl trivial ?_ rfl
  simp only [Try.ntmps27, List.size_toArray, List.length_cons, List.length_nil, Nat.reduceAdd, Nat.reduceSub, Array.replicate_succ, Array.replicate_zero, List.push_toArray, List.append_toArray, List.nil_append, List.cons_append]
  obtain ⟨W0, hW0⟩ : ∃ z, ((w.alloc (.cells #[.int .i64 W] 3)).alloc (.cells #[.int .i64 0, .slice none 0 0] 29)).alloc (.cells #[.slice none 0 0] 27) = z := ⟨_, rfl⟩
  have hB0 : Below w.heap.size w W0 := by rw [← hW0]; exact balloc (balloc (balloc (Below.refl _ _) _) _) _
  have hz0 : W0.heap.size = w.heap.size + 3 := by rw [← hW0]; simp
  have hI0 : ColJ W w (fun _ => False) [] W0 := by
    refine ⟨by simp, ?_, ?_, ⟨.slice none 0 0, [], ?_, Ow.nil, Cps.nil, rfl, (fun _ h => by cases h), (fun _ h => by cases h)⟩, hB0, fun _ h => h.elim⟩
    · rw [← hW0]; exact ((Row.new w _ _).alloc _).alloc _
    · rw [← hW0]; exact (Row.second w _ _ _).alloc _
    · rw [← hW0]; exact Row.third w _ _ _ _
  have HW0 := Lib.hid hW0
  have HB0 := Lib.hid hB0
  have HI0 := Lib.hid hI0
  have HZ0 := Lib.hid hz0
  clear hW0 hB0 hI0 hz0
  gi_wp2
  rw [HW0.out]
  refine wpIn_rangeR rfl (by omega) (gf := gf) (lb := lb) rfl trivial eg
    HQ.out (by have := HZ0.out; omega) HB0.out rfl (fun x X l r o h hl => SRs.put h hl o)
    (ColJ W w) (ColY W w) colJ_abd colY_abd HI0.out
    (fun x => { tmps := #[.int .i64 W, .func (.func gf) #[] lb, .pointer (some ⟨w.heap.size, 0, none⟩), undef, .pointer (some ⟨w.heap.size + 1, 0, none⟩), .pointer (some ⟨w.heap.size + 2, 0, none⟩), encSR x.1, .func (.func gf) #[] lb, encSR x.1, undef, undef, undef, undef, undef, undef, undef, undef, undef, undef, undef, undef, undef, undef, undef], defers := [] }) ?assign ?body ?done ?stop
  case assign =>
    intro l x z K hK
    gi_wp2
    exact hK
  case body =>
    rintro l E pre x z ⟨h0, h1, h2, ⟨v, cp, h3, h4, h5, h7, hd1, hd2⟩, h6, hE⟩ hrx hlt
    obtain ⟨svs, hsvs⟩ : ∃ svs, cp.map (·.1) = svs := ⟨_, rfl⟩
    rw [hsvs] at h4
    have hcl : svs.length = cp.length := by rw [← hsvs, List.length_map]
    have hcp : cp.length = pre.length := by have := congrArg List.length h7; simpa using this
    have HSV := Lib.hid (And.intro hsvs h7)
    clear hsvs h7
    obtain ⟨A, c, rfl, hc1, hc2, hs⟩ := h4.shape svC_length
    have hsl : svs.length = pre.length := by omega
    clear hcl hcp
    have q0 : z.cell? ⟨w.heap.size, 0, none⟩ = some (.int .i64 W) := h1.cell 0
    have q1 : z.cell? ⟨w.heap.size + 1, 0, none⟩ = some (.int .i64 0) := h2.cell 0
    have q2 : z.cell? ⟨w.heap.size + 1, 1, none⟩ = some (.slice none 0 0) := h2.cell 1
    have q3 := h2.frozen 0
    have q4 := h2.frozen 1
    have q5 : z.cell? ⟨w.heap.size + 2, 0, none⟩ = some (.slice A svs.length c) := h3.cell 0
    have q6 := h3.frozen 0
    have q7 := h2.lt
    have q8 := h3.lt
    have HI := Lib.hid (And.intro h0 (And.intro h1 (And.intro h2 (And.intro h3 (And.intro h4 (And.intro h5 h6))))))
    have HN := Lib.hid (And.intro hlt (And.intro hc1 (And.intro hc2 hsl)))
    have HD := Lib.hid (And.intro hd1 (And.intro hd2 hE))
    have HRX := Lib.hid hrx
    have hle : svs.length ≤ 400 := by omega
    clear h0 h1 h2 h3 h4 h5 h6 hlt hc1 hc2 hs hsl hd1 hd2 hE hrx
    by_cases h400 : svs.length = 400
    · have h401 : ((svs.length : Int) == 400) = true := by simp [h400]
      have H4 := Lib.hid h400
      clear h400
      gi_wp2
      have hb := HI.out.2.2.2.2.2.2
      refine ⟨((Only.refl z).set (p := ⟨w.heap.size + 1, 0, none⟩) (.inl ⟨by simp, fun h => by have h2 : w.heap.size + 3 ≤ w.heap.size + 1 := (HD.out.2.2 _ h).1; omega⟩) _).set (p := ⟨w.heap.size + 1, 1, none⟩) (.inl ⟨by simp, fun h => by have h2 : w.heap.size + 3 ≤ w.heap.size + 1 := (HD.out.2.2 _ h).1; omega⟩) _, rfl, ?_, ?_, (hb.setCell (p := ⟨w.heap.size + 1, 0, none⟩) (by simp) _).setCell (p := ⟨w.heap.size + 1, 1, none⟩) (by simp) _, by have := HI.out.2.2.2.1.lt; simp [World.setCell]; omega, fun i hi => ⟨(HD.out.2.2 i hi).1, by have := (HD.out.2.2 i hi).2; simpa [World.setCell] using this⟩⟩
      · have := H4.out; have := HN.out.2.2.2; simp; omega
      · exact ((HI.out.2.2.1.set 0 _).set 1 _).of rfl
    · have h401 : ((svs.length : Int) == 400) = false := by simp; omega
      have H4 := Lib.hid h400
      clear h400
      have hxe : encSR x.1 = .slice x.1.1.A x.1.2.length x.1.1.c := by unfold encSR; rw [HRX.out.2.1]
      rw [hxe]
      have HX := Lib.hid hxe
      clear hxe
      have hrow : Sl 2 valC z z.heap.size x.1.1.A x.1.2 := HRX.out.2.2.2.2
      have hl6 := rowValid_len x.2.1
      have HC := Lib.hid (copiedRow_ok x.1.1.A x.1.1.c x.1.2 z.drew (by omega) (hrow.on (Below.refl _ _).drew))
      gi_wp2
      refine wpRound_region_any (by kernel_rfl) (by kernel_rfl) (fun ⟨_, _, h⟩ => h) ?_
      have q9 : z.drew.cell? ⟨w.heap.size + 2, 0, none⟩ = some (.slice A svs.length c) := q5
      refine wpAny_take (i := 1) (v := .slice x.1.1.A x.1.2.length x.1.1.c) rfl (by kernel_rfl) (by kernel_rfl) (by kernel_rfl) (fun _ _ _ h => h) (Or.inl ⟨by rfl, fun y => by go_simp⟩) ?_
      refine wpAny_ready (rs := [0, 2]) (by kernel_rfl) (by simp) ?_
      refine AllReady.cons rfl (fun K hK => ?_) (AllReady.cons rfl (fun K hK => ?_) AllReady.nil)
      · go_simp
        refine hK _ _ ?_
        clear hK K
        refine wpAny_ready (rs := [2]) (by kernel_rfl) (by simp) ?_
        refine AllReady.cons rfl (fun K hK => ?_) AllReady.nil
        go_simp
        go_at_call 50
        refine HC.out.mono ?_
        rintro e z1 ⟨v1, rfl, how1, hb1'⟩
        obtain ⟨A1, c1, rfl, hc11, hc12, hs1⟩ := how1.shape valC_length
        have hb1 : Below z.heap.size z z1 := (Below.refl _ z).drew.trans hb1'
        have hS1 : z1.cell? ⟨w.heap.size + 2, 0, none⟩ = some (.slice A svs.length c) := (hb1.cell (p := ⟨_, _, none⟩) q8).trans q5
        have hl1 : w.heap.size + 2 < z1.heap.size := Nat.lt_of_lt_of_le q8 hb1.size
        have hf1 : z1.frozen? ⟨w.heap.size + 2, 0, none⟩ = false := (hb1.frozen (p := ⟨_, _, none⟩) q8).trans q6
        have HR1 := Lib.hid (And.intro hb1 (And.intro how1 (And.intro hc11 hc12)))
        clear hb1 hb1' hs1 hc11 hc12 how1
        refine hK _ _ ?_
        clear hK K
        refine wpAny_ready (rs := [3]) (by kernel_rfl) (by simp) ?_
        refine AllReady.cons rfl (fun K hK => ?_) AllReady.nil
        go_simp
        obtain ⟨z2, hz2⟩ : ∃ z2, z1.alloc (.cells #[.slice A1 x.1.2.length c1] 42) = z2 := ⟨_, rfl⟩
        have hb2 : Below z1.heap.size z1 z2 := hz2 ▸ balloc (Below.refl _ _) _
        have hn2 : Row z2 z1.heap.size 42 [.slice A1 x.1.2.length c1] := hz2 ▸ Row.new _ _ _
        have hS2 : z2.cell? ⟨w.heap.size + 2, 0, none⟩ = some (.slice A svs.length c) := (hb2.cell (p := ⟨_, _, none⟩) hl1).trans hS1
        refine hK _ _ ?_
        clear hK K
        rw [hz2]
        have hf2 : z2.frozen? ⟨w.heap.size + 2, 0, none⟩ = false := (hb2.frozen (p := ⟨_, _, none⟩) hl1).trans hf1
        have hl2 : w.heap.size + 2 < z2.heap.size := Nat.lt_of_lt_of_le hl1 hb2.size
        have H2 := Lib.hid (And.intro hz2 (And.intro hb2 hn2))
        clear hz2 hb2 hn2
        obtain ⟨hz2, hb2, hn2⟩ := H2.out
        have hbz : Below z.heap.size z z2 := bch HR1.out.1 hb2
        have HO2 := HI.out.2.2.2.2.1.on hbz
        have HS2 := Row.sl' (xs := [(⟨A1, x.1.2.length, c1⟩ : SV)]) svC_length (hn2.of rfl)
        refine wpAny_ready (rs := [4]) (by kernel_rfl) (by simp) ?_
        refine AllReady.cons rfl (fun K hK => ?_) AllReady.nil
        refine step_app2 rfl (.tmp 14) (.tmp 17) 27 rfl (w.heap.size + 3) 42 _ 1 24 svC Try.underlying27 zeroRow rfl (by decide) (by decide) svC_length svC_one _ svs rfl HO2 (some ⟨z1.heap.size, 0, none⟩) 1 1 [(⟨A1, x.1.2.length, c1⟩ : SV)] rfl rfl HS2 (by simp <;> omega) (by omega) ?_
        intro v3 z3 how3 hgr3 hwh
        obtain ⟨A3, c3, rfl, hc31, hc32, hs3⟩ := how3.shape svC_length
        have HWH := Lib.hid (show (Value.slice A3 (svs.length + 1) c3).ownBlock = (Value.slice A svs.length c).ownBlock ∨ (Value.slice A3 (svs.length + 1) c3).ownBlock = some z2.heap.size from by rw [List.length_append] at hwh; exact hwh)
        clear hwh
        have hrow : ∀ q, Value.ownBlock _ = some q → w.heap.size + 3 ≤ q ∧ q < z2.heap.size ∧ TyAt _ q 42 := fun q hq => HO2.ty q hq
        have hkeep : ∀ {k : Nat} {t : TypeId} {cs : List Value}, Row z2 k t cs → t ≠ 42 → Row z3 k t cs := fun h hne => h.keep (hgr3.block _ h.lt fun e => (TyAt.ne h.ty (hrow _ e.symm).2.2 hne) rfl)
        have r5 := hkeep (HI.out.2.2.2.1.on hbz) (by decide)
        have r2 := hkeep (HI.out.2.1.on hbz) (by decide)
        have r4 := hkeep (HI.out.2.2.1.on hbz) (by decide)
        have p5 : z3.cell? ⟨w.heap.size + 2, 0, none⟩ = some (.slice A svs.length c) := r5.cell 0
        have p6 := r5.frozen 0
        have p7 := r5.lt
        refine hK _ _ ?_
        clear hK K
        have hx3 : Cps w.heap.size z3 (cp ++ [(⟨A1, x.1.2.length, c1⟩, x.1.2)]) := HI.out.2.2.2.2.2.1.snoc ((HI.out.2.2.2.2.2.1.on hbz).grown hgr3 fun q hq => ⟨_, by decide, (hrow q hq).2.2⟩) HI.out.2.2.2.2.2.2.size ⟨rfl, (HR1.out.2.1.on hb2).keep fun b _ hl ht => hgr3.block b hl fun e => (TyAt.ne ht (hrow _ e.symm).2.2 (by decide)) rfl⟩
        have HF := Lib.hid (And.intro r2 (And.intro r4 (And.intro r5 (And.intro how3 (And.intro hgr3 (And.intro hbz (And.intro hx3 hrow)))))))
        clear how3 hgr3 hbz hx3 hrow r2 r4 r5 hkeep HO2 HS2 hz2 hb2 hn2
        refine wpAny_ready (rs := [5]) (by kernel_rfl) (by simp) ?_
        refine AllReady.cons rfl (fun K hK => ?_) AllReady.nil
        go_simp
        refine hK _ _ ?_
        clear hK K
        refine wpAny_done (by kernel_rfl) ?_ _
        obtain ⟨r2, r4, r5, how3, hgr3, hbz, hx3, hrow⟩ := HF.out
        have hl3 : z.heap.size ≤ z2.heap.size := hbz.size
        have hS0 := Only.set (S := fun i => i = w.heap.size + 2) (p := ⟨w.heap.size + 2, 0, none⟩) (Only.refl z3) (.inl rfl) (.slice A3 (svs.length + 1) c3)
        have how4 : Ow (w.heap.size + 3) 42 1 svC z3 (.slice A3 (svs.length + 1) c3) (svs ++ [⟨A1, x.1.2.length, c1⟩]) := by rw [List.length_append] at how3; exact how3
        have hke : KeepE w.heap.size E z (z3.setCell ⟨w.heap.size + 2, 0, none⟩ (.slice A3 (svs.length + 1) c3)) := ((only_below hbz).grown hgr3 fun k hk => .inl ⟨by have := (hrow k hk).1; omega, HD.out.1 k hk⟩).set (p := ⟨w.heap.size + 2, 0, none⟩) (.inl ⟨by simp, fun h => by have h2 : w.heap.size + 3 ≤ w.heap.size + 2 := (HD.out.2.2 _ h).1; omega⟩) _
        have hbw : Below w.heap.size w z := HI.out.2.2.2.2.2.2
        have hb3 : Below w.heap.size z z3 := (hbz.mono hbw.size).grown hgr3 (by have := hbw.size; omega) fun k hk => by have := (hrow k hk).1; omega
        have hb4 : Below w.heap.size z (z3.setCell ⟨w.heap.size + 2, 0, none⟩ (.slice A3 (svs.length + 1) c3)) := hb3.setCell (p := ⟨w.heap.size + 2, 0, none⟩) (by simp) _
        refine ⟨hke, ?_, r2.far (p := ⟨w.heap.size + 2, 0, none⟩) (by simp) _, r4.far (p := ⟨w.heap.size + 2, 0, none⟩) (by simp) _, ⟨_, _, (r5.set 0 _).of rfl, (by rw [List.map_append, HSV.out.1]; exact how4.only hS0 fun b hb => .inr ⟨27, by decide, by subst hb; exact r5.ty⟩), hx3.only hS0 fun b hb => .inr ⟨27, by decide, by subst hb; exact r5.ty⟩, by rw [List.map_append, List.map_append, HSV.out.2]; rfl, colDis HD.out.1 HD.out.2.2 hl3 HWH.out, colDis2 HD.out.2.1 HD.out.2.2 fun b hb => (HR1.out.2.1.ty b hb).1⟩, hbw.trans hb4, fun i hi => ⟨(HD.out.2.2 i hi).1, Nat.lt_of_lt_of_le (HD.out.2.2 i hi).2 hb4.size⟩⟩
        have := HN.out.2.2.2; have := H4.out; simp; omega
      · go_simp
        go_at_call 50
        refine HC.out.mono ?_
        rintro e z1 ⟨v1, rfl, how1, hb1'⟩
        obtain ⟨A1, c1, rfl, hc11, hc12, hs1⟩ := how1.shape valC_length
        have hb1 : Below z.heap.size z z1 := (Below.refl _ z).drew.trans hb1'
        have hS1 : z1.cell? ⟨w.heap.size + 2, 0, none⟩ = some (.slice A svs.length c) := (hb1.cell (p := ⟨_, _, none⟩) q8).trans q5
        have hl1 : w.heap.size + 2 < z1.heap.size := Nat.lt_of_lt_of_le q8 hb1.size
        have hf1 : z1.frozen? ⟨w.heap.size + 2, 0, none⟩ = false := (hb1.frozen (p := ⟨_, _, none⟩) q8).trans q6
        have HR1 := Lib.hid (And.intro hb1 (And.intro how1 (And.intro hc11 hc12)))
        clear hb1 hb1' hs1 hc11 hc12 how1
        refine hK _ _ ?_
        clear hK K
        refine wpAny_ready (rs := [0, 3]) (by kernel_rfl) (by simp) ?_
        refine AllReady.cons rfl (fun K hK => ?_) (AllReady.cons rfl (fun K hK => ?_) AllReady.nil)
        · go_simp
          refine hK _ _ ?_
          clear hK K
          refine wpAny_ready (rs := [3]) (by kernel_rfl) (by simp) ?_
          refine AllReady.cons rfl (fun K hK => ?_) AllReady.nil
          go_simp
          obtain ⟨z2, hz2⟩ : ∃ z2, z1.alloc (.cells #[.slice A1 x.1.2.length c1] 42) = z2 := ⟨_, rfl⟩
          have hb2 : Below z1.heap.size z1 z2 := hz2 ▸ balloc (Below.refl _ _) _
          have hn2 : Row z2 z1.heap.size 42 [.slice A1 x.1.2.length c1] := hz2 ▸ Row.new _ _ _
          have hS2 : z2.cell? ⟨w.heap.size + 2, 0, none⟩ = some (.slice A svs.length c) := (hb2.cell (p := ⟨_, _, none⟩) hl1).trans hS1
          refine hK _ _ ?_
          clear hK K
          rw [hz2]
          have hf2 : z2.frozen? ⟨w.heap.size + 2, 0, none⟩ = false := (hb2.frozen (p := ⟨_, _, none⟩) hl1).trans hf1
          have hl2 : w.heap.size + 2 < z2.heap.size := Nat.lt_of_lt_of_le hl1 hb2.size
          have H2 := Lib.hid (And.intro hz2 (And.intro hb2 hn2))
          clear hz2 hb2 hn2
          obtain ⟨hz2, hb2, hn2⟩ := H2.out
          have hbz : Below z.heap.size z z2 := bch HR1.out.1 hb2
          have HO2 := HI.out.2.2.2.2.1.on hbz
          have HS2 := Row.sl' (xs := [(⟨A1, x.1.2.length, c1⟩ : SV)]) svC_length (hn2.of rfl)
          refine wpAny_ready (rs := [4]) (by kernel_rfl) (by simp) ?_
          refine AllReady.cons rfl (fun K hK => ?_) AllReady.nil
          refine step_app2 rfl (.tmp 14) (.tmp 17) 27 rfl (w.heap.size + 3) 42 _ 1 24 svC Try.underlying27 zeroRow rfl (by decide) (by decide) svC_length svC_one _ svs rfl HO2 (some ⟨z1.heap.size, 0, none⟩) 1 1 [(⟨A1, x.1.2.length, c1⟩ : SV)] rfl rfl HS2 (by simp <;> omega) (by omega) ?_
          intro v3 z3 how3 hgr3 hwh
          obtain ⟨A3, c3, rfl, hc31, hc32, hs3⟩ := how3.shape svC_length
          have HWH := Lib.hid (show (Value.slice A3 (svs.length + 1) c3).ownBlock = (Value.slice A svs.length c).ownBlock ∨ (Value.slice A3 (svs.length + 1) c3).ownBlock = some z2.heap.size from by rw [List.length_append] at hwh; exact hwh)
          clear hwh
          have hrow : ∀ q, Value.ownBlock _ = some q → w.heap.size + 3 ≤ q ∧ q < z2.heap.size ∧ TyAt _ q 42 := fun q hq => HO2.ty q hq
          have hkeep : ∀ {k : Nat} {t : TypeId} {cs : List Value}, Row z2 k t cs → t ≠ 42 → Row z3 k t cs := fun h hne => h.keep (hgr3.block _ h.lt fun e => (TyAt.ne h.ty (hrow _ e.symm).2.2 hne) rfl)
          have r5 := hkeep (HI.out.2.2.2.1.on hbz) (by decide)
          have r2 := hkeep (HI.out.2.1.on hbz) (by decide)
          have r4 := hkeep (HI.out.2.2.1.on hbz) (by decide)
          have p5 : z3.cell? ⟨w.heap.size + 2, 0, none⟩ = some (.slice A svs.length c) := r5.cell 0
          have p6 := r5.frozen 0
          have p7 := r5.lt
          refine hK _ _ ?_
          clear hK K
          have hx3 : Cps w.heap.size z3 (cp ++ [(⟨A1, x.1.2.length, c1⟩, x.1.2)]) := HI.out.2.2.2.2.2.1.snoc ((HI.out.2.2.2.2.2.1.on hbz).grown hgr3 fun q hq => ⟨_, by decide, (hrow q hq).2.2⟩) HI.out.2.2.2.2.2.2.size ⟨rfl, (HR1.out.2.1.on hb2).keep fun b _ hl ht => hgr3.block b hl fun e => (TyAt.ne ht (hrow _ e.symm).2.2 (by decide)) rfl⟩
          have HF := Lib.hid (And.intro r2 (And.intro r4 (And.intro r5 (And.intro how3 (And.intro hgr3 (And.intro hbz (And.intro hx3 hrow)))))))
          clear how3 hgr3 hbz hx3 hrow r2 r4 r5 hkeep HO2 HS2 hz2 hb2 hn2
          refine wpAny_ready (rs := [5]) (by kernel_rfl) (by simp) ?_
          refine AllReady.cons rfl (fun K hK => ?_) AllReady.nil
          go_simp
          refine hK _ _ ?_
          clear hK K
          refine wpAny_done (by kernel_rfl) ?_ _
          obtain ⟨r2, r4, r5, how3, hgr3, hbz, hx3, hrow⟩ := HF.out
          have hl3 : z.heap.size ≤ z2.heap.size := hbz.size
          have hS0 := Only.set (S := fun i => i = w.heap.size + 2) (p := ⟨w.heap.size + 2, 0, none⟩) (Only.refl z3) (.inl rfl) (.slice A3 (svs.length + 1) c3)
          have how4 : Ow (w.heap.size + 3) 42 1 svC z3 (.slice A3 (svs.length + 1) c3) (svs ++ [⟨A1, x.1.2.length, c1⟩]) := by rw [List.length_append] at how3; exact how3
          have hke : KeepE w.heap.size E z (z3.setCell ⟨w.heap.size + 2, 0, none⟩ (.slice A3 (svs.length + 1) c3)) := ((only_below hbz).grown hgr3 fun k hk => .inl ⟨by have := (hrow k hk).1; omega, HD.out.1 k hk⟩).set (p := ⟨w.heap.size + 2, 0, none⟩) (.inl ⟨by simp, fun h => by have h2 : w.heap.size + 3 ≤ w.heap.size + 2 := (HD.out.2.2 _ h).1; omega⟩) _
          have hbw : Below w.heap.size w z := HI.out.2.2.2.2.2.2
          have hb3 : Below w.heap.size z z3 := (hbz.mono hbw.size).grown hgr3 (by have := hbw.size; omega) fun k hk => by have := (hrow k hk).1; omega
          have hb4 : Below w.heap.size z (z3.setCell ⟨w.heap.size + 2, 0, none⟩ (.slice A3 (svs.length + 1) c3)) := hb3.setCell (p := ⟨w.heap.size + 2, 0, none⟩) (by simp) _
          refine ⟨hke, ?_, r2.far (p := ⟨w.heap.size + 2, 0, none⟩) (by simp) _, r4.far (p := ⟨w.heap.size + 2, 0, none⟩) (by simp) _, ⟨_, _, (r5.set 0 _).of rfl, (by rw [List.map_append, HSV.out.1]; exact how4.only hS0 fun b hb => .inr ⟨27, by decide, by subst hb; exact r5.ty⟩), hx3.only hS0 fun b hb => .inr ⟨27, by decide, by subst hb; exact r5.ty⟩, by rw [List.map_append, List.map_append, HSV.out.2]; rfl, colDis HD.out.1 HD.out.2.2 hl3 HWH.out, colDis2 HD.out.2.1 HD.out.2.2 fun b hb => (HR1.out.2.1.ty b hb).1⟩, hbw.trans hb4, fun i hi => ⟨(HD.out.2.2 i hi).1, Nat.lt_of_lt_of_le (HD.out.2.2 i hi).2 hb4.size⟩⟩
          have := HN.out.2.2.2; have := H4.out; simp; omega
        · go_simp
          obtain ⟨z2, hz2⟩ : ∃ z2, z1.alloc (.cells #[.slice A1 x.1.2.length c1] 42) = z2 := ⟨_, rfl⟩
          have hb2 : Below z1.heap.size z1 z2 := hz2 ▸ balloc (Below.refl _ _) _
          have hn2 : Row z2 z1.heap.size 42 [.slice A1 x.1.2.length c1] := hz2 ▸ Row.new _ _ _
          have hS2 : z2.cell? ⟨w.heap.size + 2, 0, none⟩ = some (.slice A svs.length c) := (hb2.cell (p := ⟨_, _, none⟩) hl1).trans hS1
          refine hK _ _ ?_
          clear hK K
          rw [hz2]
          have hf2 : z2.frozen? ⟨w.heap.size + 2, 0, none⟩ = false := (hb2.frozen (p := ⟨_, _, none⟩) hl1).trans hf1
          have hl2 : w.heap.size + 2 < z2.heap.size := Nat.lt_of_lt_of_le hl1 hb2.size
          have H2 := Lib.hid (And.intro hz2 (And.intro hb2 hn2))
          clear hz2 hb2 hn2
          refine wpAny_ready (rs := [0]) (by kernel_rfl) (by simp) ?_
          refine AllReady.cons rfl (fun K hK => ?_) AllReady.nil
          go_simp
          refine hK _ _ ?_
          clear hK K
          obtain ⟨hz2, hb2, hn2⟩ := H2.out
          have hbz : Below z.heap.size z z2 := bch HR1.out.1 hb2
          have HO2 := HI.out.2.2.2.2.1.on hbz
          have HS2 := Row.sl' (xs := [(⟨A1, x.1.2.length, c1⟩ : SV)]) svC_length (hn2.of rfl)
          refine wpAny_ready (rs := [4]) (by kernel_rfl) (by simp) ?_
          refine AllReady.cons rfl (fun K hK => ?_) AllReady.nil
          refine step_app2 rfl (.tmp 14) (.tmp 17) 27 rfl (w.heap.size + 3) 42 _ 1 24 svC Try.underlying27 zeroRow rfl (by decide) (by decide) svC_length svC_one _ svs rfl HO2 (some ⟨z1.heap.size, 0, none⟩) 1 1 [(⟨A1, x.1.2.length, c1⟩ : SV)] rfl rfl HS2 (by simp <;> omega) (by omega) ?_
          intro v3 z3 how3 hgr3 hwh
          obtain ⟨A3, c3, rfl, hc31, hc32, hs3⟩ := how3.shape svC_length
          have HWH := Lib.hid (show (Value.slice A3 (svs.length + 1) c3).ownBlock = (Value.slice A svs.length c).ownBlock ∨ (Value.slice A3 (svs.length + 1) c3).ownBlock = some z2.heap.size from by rw [List.length_append] at hwh; exact hwh)
          clear hwh
          have hrow : ∀ q, Value.ownBlock _ = some q → w.heap.size + 3 ≤ q ∧ q < z2.heap.size ∧ TyAt _ q 42 := fun q hq => HO2.ty q hq
          have hkeep : ∀ {k : Nat} {t : TypeId} {cs : List Value}, Row z2 k t cs → t ≠ 42 → Row z3 k t cs := fun h hne => h.keep (hgr3.block _ h.lt fun e => (TyAt.ne h.ty (hrow _ e.symm).2.2 hne) rfl)
          have r5 := hkeep (HI.out.2.2.2.1.on hbz) (by decide)
          have r2 := hkeep (HI.out.2.1.on hbz) (by decide)
          have r4 := hkeep (HI.out.2.2.1.on hbz) (by decide)
          have p5 : z3.cell? ⟨w.heap.size + 2, 0, none⟩ = some (.slice A svs.length c) := r5.cell 0
          have p6 := r5.frozen 0
          have p7 := r5.lt
          refine hK _ _ ?_
          clear hK K
          have hx3 : Cps w.heap.size z3 (cp ++ [(⟨A1, x.1.2.length, c1⟩, x.1.2)]) := HI.out.2.2.2.2.2.1.snoc ((HI.out.2.2.2.2.2.1.on hbz).grown hgr3 fun q hq => ⟨_, by decide, (hrow q hq).2.2⟩) HI.out.2.2.2.2.2.2.size ⟨rfl, (HR1.out.2.1.on hb2).keep fun b _ hl ht => hgr3.block b hl fun e => (TyAt.ne ht (hrow _ e.symm).2.2 (by decide)) rfl⟩
          have HF := Lib.hid (And.intro r2 (And.intro r4 (And.intro r5 (And.intro how3 (And.intro hgr3 (And.intro hbz (And.intro hx3 hrow)))))))
          clear how3 hgr3 hbz hx3 hrow r2 r4 r5 hkeep HO2 HS2 hz2 hb2 hn2
          refine wpAny_ready (rs := [5]) (by kernel_rfl) (by simp) ?_
          refine AllReady.cons rfl (fun K hK => ?_) AllReady.nil
          go_simp
          refine hK _ _ ?_
          clear hK K
          refine wpAny_done (by kernel_rfl) ?_ _
          obtain ⟨r2, r4, r5, how3, hgr3, hbz, hx3, hrow⟩ := HF.out
          have hl3 : z.heap.size ≤ z2.heap.size := hbz.size
          have hS0 := Only.set (S := fun i => i = w.heap.size + 2) (p := ⟨w.heap.size + 2, 0, none⟩) (Only.refl z3) (.inl rfl) (.slice A3 (svs.length + 1) c3)
          have how4 : Ow (w.heap.size + 3) 42 1 svC z3 (.slice A3 (svs.length + 1) c3) (svs ++ [⟨A1, x.1.2.length, c1⟩]) := by rw [List.length_append] at how3; exact how3
          have hke : KeepE w.heap.size E z (z3.setCell ⟨w.heap.size + 2, 0, none⟩ (.slice A3 (svs.length + 1) c3)) := ((only_below hbz).grown hgr3 fun k hk => .inl ⟨by have := (hrow k hk).1; omega, HD.out.1 k hk⟩).set (p := ⟨w.heap.size + 2, 0, none⟩) (.inl ⟨by simp, fun h => by have h2 : w.heap.size + 3 ≤ w.heap.size + 2 := (HD.out.2.2 _ h).1; omega⟩) _
          have hbw : Below w.heap.size w z := HI.out.2.2.2.2.2.2
          have hb3 : Below w.heap.size z z3 := (hbz.mono hbw.size).grown hgr3 (by have := hbw.size; omega) fun k hk => by have := (hrow k hk).1; omega
          have hb4 : Below w.heap.size z (z3.setCell ⟨w.heap.size + 2, 0, none⟩ (.slice A3 (svs.length + 1) c3)) := hb3.setCell (p := ⟨w.heap.size + 2, 0, none⟩) (by simp) _
          refine ⟨hke, ?_, r2.far (p := ⟨w.heap.size + 2, 0, none⟩) (by simp) _, r4.far (p := ⟨w.heap.size + 2, 0, none⟩) (by simp) _, ⟨_, _, (r5.set 0 _).of rfl, (by rw [List.map_append, HSV.out.1]; exact how4.only hS0 fun b hb => .inr ⟨27, by decide, by subst hb; exact r5.ty⟩), hx3.only hS0 fun b hb => .inr ⟨27, by decide, by subst hb; exact r5.ty⟩, by rw [List.map_append, List.map_append, HSV.out.2]; rfl, colDis HD.out.1 HD.out.2.2 hl3 HWH.out, colDis2 HD.out.2.1 HD.out.2.2 fun b hb => (HR1.out.2.1.ty b hb).1⟩, hbw.trans hb4, fun i hi => ⟨(HD.out.2.2 i hi).1, Nat.lt_of_lt_of_le (HD.out.2.2 i hi).2 hb4.size⟩⟩
          have := HN.out.2.2.2; have := H4.out; simp; omega
  case stop =>
    rintro D c E pre z hD hp ⟨rfl, h400, h2, hb, _, hE⟩ hED hK
    have q0 : z.cell? ⟨w.heap.size + 1, 0, none⟩ = some (.int .i64 W) := h2.cell 0
    have q1 : z.cell? ⟨w.heap.size + 1, 1, none⟩ = some (.slice none 0 0) := h2.cell 1
    have H2 := Lib.hid (And.intro hp (And.intro h400 (And.intro h2 (And.intro hb hD))))
    clear hp h400 h2 hb hD
    gi_wp2
    obtain ⟨hp, h400, h2, hb, hD⟩ := H2.out
    have hz := HZ0.out
    have hk : ∀ r, some D = some r → ∃ o : Obj, z.heap[r]? = some o ∧ o.isCells = false := fun r e => by cases e; exact ⟨_, hK, rfl⟩
    refine ⟨by simp, .inl ⟨_, _, rfl, run_takeDeferred hK, ?_⟩⟩
    refine ⟨_, resCol (b := w.heap.size + 1) _ rfl _ (cell_kept q0 (grownBy_putObj' z D (.deferred none)) hk) (cell_kept q1 (grownBy_putObj' z D (.deferred none)) hk), _, [], rfl, ?_, Ow.nil, Cps.nil, hb.trans (belowK_b (w := W0) (by omega) z D _ _ hD hK rfl rfl)⟩
    have hl := hp.length_le
    rw [List.length_map] at hl
    rw [if_neg (by omega)]
  case done =>
    rintro D E ys z hD hys ⟨h0, h1, h2, ⟨v, cp, h3, h4, h5, h7, _, _⟩, h6, _⟩ _ hK
    obtain ⟨svs, hsvs⟩ : ∃ svs, cp.map (·.1) = svs := ⟨_, rfl⟩
    rw [hsvs] at h4
    have hcl : svs.length = cp.length := by rw [← hsvs, List.length_map]
    have hcp : cp.length = ys.length := by have := congrArg List.length h7; simpa using this
    have HSV := Lib.hid (And.intro hsvs h7)
    clear hsvs h7
    obtain ⟨A, c, rfl, hc1, hc2, hs⟩ := h4.shape svC_length
    have hsl : svs.length = ys.length := by omega
    have q5 : z.cell? ⟨w.heap.size + 2, 0, none⟩ = some (.slice A svs.length c) := h3.cell 0
    have hpl : ys.length = rows.length := by rw [← hys, List.length_map]
    have HI := Lib.hid (And.intro h0 (And.intro h1 (And.intro h2 (And.intro h3 (And.intro h4 (And.intro h5 (And.intro h6 (And.intro hD (And.intro hys (And.intro hsl hpl))))))))))
    have q0 : z.cell? ⟨w.heap.size, 0, none⟩ = some (.int .i64 W) := h1.cell 0
    have HZ := Lib.hid (show w.heap.size + 3 ≤ D by have := HZ0.out; omega)
    rcases Nat.eq_zero_or_pos svs.length with hz | hz
    · have hs0 : svs = [] := List.eq_nil_of_length_eq_zero hz
      have hy0 : ys = [] := List.eq_nil_of_length_eq_zero (by omega)
      subst hs0
      subst hy0
      have q1 : z.cell? ⟨w.heap.size + 1, 0, none⟩ = some (.int .i64 0) := h2.cell 0
      have q2 : z.cell? ⟨w.heap.size + 1, 1, none⟩ = some (.slice none 0 0) := h2.cell 1
      have q3 := h2.frozen 0
      have q4 := h2.frozen 1
      have q7 := h2.lt
      have HSN := Lib.hid (fun y => sortFuncNone_ok A c (.func (.func 52) #[] #[]) y)
      clear h0 h1 h2 h3 h4 h5 h6 hD hys hsl hpl hc1 hc2 hs hz
      gi_wp2_with (refine ⟨trivial, ?_⟩; gi_at_call 51; refine (callsIn_wide.2 (HSN.out _)).mono ?_; rintro e w' ⟨rfl, rfl⟩)
      obtain ⟨h0, h1, h2, h3, h4, h5, h6, hD, hys, hsl, hpl⟩ := HI.out
      obtain ⟨k1, k2, k3, k4, k5, k6⟩ := colFin (W := W) (v := .slice A 0 c) (svs := []) (cp := []) HZ.out hK h2 h4 Cps.nil h6 rfl
      refine ⟨by simp, .inl ⟨_, _, rfl, run_takeDeferred k1, _, resCol (b := w.heap.size + 1) _ rfl _ k2 k3, _, [], rfl, ?_, k4, k5, k6⟩⟩
      rw [← hys]
      simp
    · obtain ⟨g, hA, _, hg, hgl, hgT, hgf, hgc⟩ := h4.head svC_length hz
      subst hA
      have hSR : ∀ p ∈ cp, SRt W w.heap.size z p := h5.srt fun p hp => by
        have h1 : p.2 ∈ cp.map (·.2) := List.mem_map_of_mem hp
        rw [HSV.out.2] at h1
        obtain ⟨y, _, hy⟩ := List.mem_map.1 h1
        rw [← hy]
        exact y.2
      have hzl : cp.length = svs.length := hcl.symm
      have HSF := sortFunc_ok W w.heap.size (w.heap.size + 3) g svs.length c cp z (by omega) (by omega) hSR (by rw [HSV.out.1]; exact h4)
      have HSF := Lib.hid HSF
      have HP := Lib.hid (And.intro HSV.out.2 (And.intro h5 hgT))
      clear h0 h1 h2 h3 h4 h5 h6 hD hys hsl hpl hc1 hc2 hs hg hgl hgT hgf hgc hzl hSR hcl hcp
      gi_wp2_with (refine ⟨trivial, ?_⟩; gi_at_call 51; refine (callsIn_wide.2 HSF.out).mono ?_; rintro e z1 ⟨rfl, qs, hqp, hqo, hO1, hb1⟩; have q0 : z1.cell? ⟨w.heap.size, 0, none⟩ = some (.int .i64 W) := (HI.out.2.1.only hb1 (TyAt.ne HI.out.2.1.ty HP.out.2.2 (by decide))).cell 0; have r2 := HI.out.2.2.1.only hb1 (TyAt.ne HI.out.2.2.1.ty HP.out.2.2 (by decide)); have r3 := HI.out.2.2.2.1.only hb1 (TyAt.ne HI.out.2.2.2.1.ty HP.out.2.2 (by decide)); have q5 : z1.cell? ⟨w.heap.size + 2, 0, none⟩ = some (.slice (some ⟨g, 0, none⟩) svs.length c) := r3.cell 0; have q1 : z1.cell? ⟨w.heap.size + 1, 0, none⟩ = some (.int .i64 0) := r2.cell 0; have q2 : z1.cell? ⟨w.heap.size + 1, 1, none⟩ = some (.slice none 0 0) := r2.cell 1; have q3 := r2.frozen 0; have q4 := r2.frozen 1; have q7 := r2.lt; have H1 := Lib.hid (And.intro hqp (And.intro hqo (And.intro hO1 (And.intro hb1 r2)))); clear hqp hqo hO1 hb1 r2 r3)
      obtain ⟨h0, h1, h2, h3, h4, h5, h6, hD, hys, hsl, hpl⟩ := HI.out
      obtain ⟨hqp, hqo, hO1, hb1, r2⟩ := H1.out
      have hDl := (Array.getElem?_eq_some_iff.1 hK).1
      have hDg : D ≠ g := fun e => by
        obtain ⟨cs, r, ht⟩ := HP.out.2.2
        rw [← e, hK] at ht
        cases ht
      have hK1 : z1.heap[D]? = some (.deferred (some [])) := (hb1.block D hDl hDg).trans hK
      have hR1 : Cps w.heap.size z1 qs := (HP.out.2.1.perm hqp).only hb1 fun b hb => .inr ⟨42, by decide, by subst hb; exact HP.out.2.2⟩
      have hbz : Below w.heap.size w z1 := Only.from_ h6 rfl hb1 fun i hi => by
        have hge : w.heap.size + 3 ≤ g := (h4.ty g rfl).1
        omega
      obtain ⟨k1, k2, k3, k4, k5, k6⟩ := colFin (W := W) HZ.out hK1 r2 hO1 hR1 hbz rfl
      refine ⟨by simp, .inl ⟨_, _, rfl, run_takeDeferred k1, _, resCol (b := w.heap.size + 1) _ rfl _ k2 k3, _, qs, rfl, ?_, k4, k5, k6⟩⟩
      have hrw : ys.map (·.1.2) = rows := hys
      rw [if_pos (by omega)]
      refine ⟨?_, ?_⟩
      · rw [← hrw, ← HP.out.1]; exact hqp.map _
      · rw [List.pairwise_map]; exact hqo

end Go.Proofs.Ytfhafbincknaeaa
