/-
  Contracts of ExceptAll and IntersectAll: the program's.
-/
import Derived.Test.YtfjpmifdmpoocaaProg
import Derived.Test.YtfjpmifdmpoocaaMrg
namespace Go.Proofs.Ytfjpmifdmpoocaa
open Go.RowKit Go.Qo
set_option linter.unusedVariables false
set_option linter.unusedSimpArgs false
attribute [local go_sem] Oper.semAt_some

/-- The rows whose flag is so. -/
def pick2 (b : Bool) : List SRw → List (Row1 × Bool) → List SRw
  | p :: ps, q :: qs => if q.2 == b then p :: pick2 b ps qs else pick2 b ps qs
  | _, _ => []
theorem pick2_snoc (b : Bool) : ∀ (ps : List SRw) (qs : List (Row1 × Bool)) (k : Nat) (p : SRw) (q : Row1 × Bool), ps[k]? = some p → qs[k]? = some q → pick2 b (ps.take (k + 1)) (qs.take (k + 1)) = pick2 b (ps.take k) (qs.take k) ++ if q.2 == b then [p] else []
  | [], _, k, p, q, h, _ => by simp at h
  | _ :: _, [], k, p, q, _, h => by simp at h
  | x :: ps, y :: qs, 0, p, q, h1, h2 => by
    simp only [List.getElem?_cons_zero, Option.some.injEq] at h1 h2
    subst h1; subst h2
    simp only [List.take_succ_cons, List.take_zero, pick2]
    split <;> rfl
  | x :: ps, y :: qs, k + 1, p, q, h1, h2 => by
    have ih := pick2_snoc b ps qs k p q (by simpa using h1) (by simpa using h2)
    simp only [List.take_succ_cons, pick2]
    rw [ih]
    split <;> simp
theorem pick2_length (b : Bool) : ∀ (ps : List SRw) (qs : List (Row1 × Bool)), (pick2 b ps qs).length ≤ ps.length
  | [], qs => by cases qs <;> simp [pick2]
  | p :: ps, [] => by simp [pick2]
  | p :: ps, q :: qs => by
    have := pick2_length b ps qs
    simp only [pick2]
    split <;> simp <;> omega
theorem merged_length : ∀ xs ys : List Row1, (merged xs ys).length = xs.length
  | [], ys => by simp [merged]
  | a :: xs, ys => by
    unfold merged
    split
    · simp [merged_length xs []]
    · split
      · simp [merged_length]
      · simp [merged_length]
theorem merged_fst : ∀ xs ys : List Row1, (merged xs ys).map (·.1) = xs
  | [], ys => by simp [merged]
  | a :: xs, ys => by
    unfold merged
    split
    · simp [merged_fst xs []]
    · split
      · simp [merged_fst]
      · simp [merged_fst]

theorem pick2_prefix (b : Bool) (ps : List SRw) (qs : List (Row1 × Bool)) (k : Nat) : pick2 b (ps.take k) (qs.take k) <+: pick2 b ps qs := by
  induction ps generalizing qs k with
  | nil => simp [pick2]
  | cons p ps ih =>
    cases qs with
    | nil => cases k <;> simp [pick2]
    | cons q qs =>
      cases k with
      | zero => simp [pick2]
      | succ k =>
        simp only [List.take_succ_cons, pick2]
        split
        · exact List.prefix_cons_inj p |>.2 (ih qs k)
        · exact ih qs k
theorem pick2_map (b : Bool) (ps : List SRw) (xs ys : List Row1) (h : ps.map (·.2) = xs) : (pick2 b ps (merged xs ys)).map (·.2) = ((merged xs ys).filter (fun r => r.2 == b)).map (·.1) := by
  have hm : (merged xs ys).map (·.1) = ps.map (·.2) := by rw [merged_fst, h]
  generalize merged xs ys = qs at hm
  clear h
  induction ps generalizing qs with
  | nil =>
    simp only [List.map_nil, List.map_eq_nil_iff] at hm
    subst hm
    simp [pick2]
  | cons p ps ih =>
    cases qs with
    | nil => simp at hm
    | cons q qs =>
      simp only [List.map_cons, List.cons.injEq] at hm
      obtain ⟨h1, h2⟩ := hm
      simp only [pick2, List.filter_cons]
      split
      · simp only [List.map_cons, ih qs h2, h1]
      · exact ih qs h2
set_option maxHeartbeats 1000000 in
theorem exceptAllPass_ok (A : Option Addr) (n c : Nat) (pb : Nat) (w : World) :
    Calls Try.prog 50 #[.slice A n c, .bool true, .pointer (some ⟨pb, 0, none⟩)] w fun e w' => e = .returned (.bool true) ∧ w = w' := by
  go_enter Try.func50, Try.ntmps50
  go_wp2
  go_ret
  exact ⟨rfl, rfl⟩
set_option maxHeartbeats 1000000 in
theorem exceptAllYield_ok (A : Option Addr) (n c : Nat) (pb l : Nat) (w : World) (hc : w.cell? ⟨pb, 0, none⟩ = some (.func (.yield l) #[] #[])) (R : Ending → World → Prop) (hY : YieldAt Fence.wide 4 Try.prog l #[.slice A n c] w R) (hR : ∀ e w', R e w' → ∃ b, e = .returned (.bool b)) :
    Calls Try.prog 50 #[.slice A n c, .bool false, .pointer (some ⟨pb, 0, none⟩)] w R := by
  refine (callsIn_wide (n := 5)).1 ?_
  refine callsIn_of_wp Try.func50 rfl trivial ?_ rfl
  simp only [Try.ntmps50, List.size_toArray, List.length_cons, List.length_nil, Nat.reduceAdd, Nat.reduceSub, Array.replicate_succ, Array.replicate_zero, List.push_toArray, List.append_toArray, List.nil_append, List.cons_append]
  obtain ⟨fn, tmps, assign, body, hy, hRR⟩ := hY
  gi_wp2
  refine hRR.mono ?_
  rintro e w' h
  obtain ⟨b, rfl⟩ := hR e w' h
  gi_wp2
  exact h
theorem entersExceptAll11 : EntersF 50 := enters_of Try.func50 (by kernel_rfl) rfl

/-- The function that ExceptAll hands to collect. -/
theorem exceptAllIt_ok (W W' : Int) (pa pb : Nat) (A A' : Option Addr) (c c' : Nat) (ps : List SRw) (ys : List Row1) (w : World) (hn : ps.length ≤ 1048576) (hn' : ys.length ≤ 1048576)
    (hRa : Row w pa 25 [.int .i64 W, .slice A ps.length c]) (hRb : Row w pb 25 [.int .i64 W', .slice A' ys.length c'])
    (hA : Sl 1 svC w w.heap.size A (ps.map (·.1))) (hS : ∀ p ∈ ps, SRs W w p) (h' : Rws w w.heap.size A' ys) :
    SeqStopsK Fence.wide 5 Try.prog 49 #[.pointer (some ⟨pa, 0, none⟩), .pointer (some ⟨pb, 0, none⟩)] (fun x : Src W w => #[encSR x.1]) (KpC w.heap.size)
      (fun xs => xs.map (·.1) = pick2 false ps (merged (ps.map (·.2)) ys)) (fun pre => pre.map (·.1) <+: pick2 false ps (merged (ps.map (·.2)) ys)) ps.length w := by
  intro l J Jx z hz hJ hJx hY h0
  have ra := hRa.on hz
  have rb := hRb.on hz
  have a0 : z.cell? ⟨pa, 0, none⟩ = some (.int .i64 W) := ra.cell 0
  have a1 : z.cell? ⟨pa, 1, none⟩ = some (.slice A ps.length c) := ra.cell 1
  have b0 : z.cell? ⟨pb, 0, none⟩ = some (.int .i64 W') := rb.cell 0
  have b1 : z.cell? ⟨pb, 1, none⟩ = some (.slice A' ys.length c') := rb.cell 1
  have la := ra.lt
  have lb := rb.lt
  obtain ⟨z1, hz1⟩ : ∃ z1, z.alloc (.cells #[.func (.yield l) #[] #[]] 56) = z1 := ⟨_, rfl⟩
  have hb1 : Below z.heap.size z z1 := hz1 ▸ balloc (Below.refl _ _) _
  have hq1 : Row z1 z.heap.size 56 [.func (.yield l) #[] #[]] := hz1 ▸ Row.new _ _ _
  have HE := Lib.hid (eachMerged_ok W W' A A' c c' ps ys 50 entersExceptAll11 #[.pointer (some ⟨z.heap.size, 0, none⟩)]
    (fun k y => ∃ pre : List (Src W w), pre.map (·.1) = pick2 false (ps.take k) ((merged (ps.map (·.2)) ys).take k) ∧ J pre y ∧ Row y z.heap.size 56 [.func (.yield l) #[] #[]])
    (fun k y => ∃ pre : List (Src W w), pre.map (·.1) = pick2 false (ps.take (k + 1)) ((merged (ps.map (·.2)) ys).take (k + 1)) ∧ Jx pre y)
    w z1 (hz.trans (hb1.mono hz.size)) (Nat.le_trans hz.size hb1.size) hn hn' hA hS h'
    (fun k y1 y2 ⟨pre, h1, h2, h3⟩ hb => ⟨pre, h1, Go.Qo.AbidesFrom.below hJ h2 hb, h3.on hb⟩)
    (fun k m p y ⟨pre, h1, h2, h3⟩ hp hm => by
      have hps : p ∈ ps := List.mem_of_getElem? hp
      have hsn : p.1.n = p.2.length := (hS p hps).2.1
      have hk : k < ps.length := (List.getElem?_eq_some_iff.1 hp).1
      have hsnoc := pick2_snoc false ps _ k p _ hp hm
      cases m
      case true =>
        refine (exceptAllPass_ok p.1.A p.2.length p.1.c z.heap.size y).mono ?_
        rintro e y' ⟨rfl, rfl⟩
        exact .inl ⟨rfl, ⟨pre, by rw [hsnoc]; simpa using h1, h2, h3⟩, Kp2.refl _⟩
      case false =>
        have hlen : pre.length < ps.length := by
          have := congrArg List.length h1
          rw [List.length_map] at this
          have h5 := pick2_length false (ps.take k) ((merged (ps.map (·.2)) ys).take k)
          rw [List.length_take] at h5
          omega
        have hyl := hY pre ⟨p, hS p hps⟩ y h2 hlen
        have he : (fun x : Src W w => #[encSR x.1]) ⟨p, hS p hps⟩ = #[.slice p.1.A p.2.length p.1.c] := by simp [encSR, hsn]
        rw [he] at hyl
        refine Calls.mono (exceptAllYield_ok p.1.A p.2.length p.1.c z.heap.size l y (h3.cell 0) _ hyl ?_) ?_
        · rintro e y' (⟨rfl, _⟩ | ⟨rfl, _⟩)
          · exact ⟨_, rfl⟩
          · exact ⟨_, rfl⟩
        · have hmap : (pre ++ [(⟨p, hS p hps⟩ : Src W w)]).map (·.1) = pick2 false (ps.take (k + 1)) ((merged (ps.map (·.2)) ys).take (k + 1)) := by
            rw [hsnoc, List.map_append, h1]; rfl
          rintro e y' (⟨rfl, hj, hk⟩ | ⟨rfl, hj⟩)
          · exact .inl ⟨rfl, ⟨_, hmap, hj, h3.kp2 hk (by decide) (by decide)⟩, hk⟩
          · exact .inr ⟨rfl, ⟨_, hmap, hj⟩⟩)
    ⟨[], rfl, Go.Qo.AbidesFrom.below hJ h0 hb1, hq1⟩)
  have HZ := Lib.hid hz1
  clear hY ra rb hb1 hq1 hRa hRb hA hS h' h0 hz1
  show CallsIn _ _ _ _ #[.func (.yield l) #[] #[], .pointer (some ⟨pa, 0, none⟩), .pointer (some ⟨pb, 0, none⟩)] _ _
  refine callsIn_wide.2 ?_
  go_enter Try.func49, Try.ntmps49
  go_wp2_with fail
  rw [HZ.out]
  refine HE.out.mono ?_
  rintro e y ⟨rfl, h⟩
  have HH := Lib.hid h
  clear h
  go_wp2
  go_end0
  refine ⟨⟨_, rfl⟩, ?_⟩
  have hml : (merged (ps.map (·.2)) ys).length = ps.length := by rw [merged_length, List.length_map]
  rcases HH.out with ⟨pre, h1, h2, _⟩ | ⟨k, hk, pre, h1, h2⟩
  · refine .inl ⟨pre, ?_, h2⟩
    rw [List.take_of_length_le (Nat.le_refl _), List.take_of_length_le (by omega)] at h1
    exact h1
  · exact .inr ⟨pre, by rw [h1]; exact pick2_prefix _ _ _ _, h2⟩
theorem entersExceptAll1 : EntersF 49 := enters_of Try.func49 (by kernel_rfl) rfl
theorem resExceptAll {b : Nat} {v0 v1 : Value} {r : Bool} (tmps : Array Value) (hp : tmps.getD 4 undef = .pointer (some ⟨b, 0, none⟩)) (hr : tmps.getD 5 undef = .bool r) (w : World) (c0 : w.cell? ⟨b, 0, none⟩ = some v0) (c1 : w.cell? ⟨b, 1, none⟩ = some v1) :
    (results Try.f18 tmps).run Try.prog w = .ok (.tuple #[.agg #[v0, v1], .bool r]) w := by
  simp only [Array.getD_eq_getD_getElem?] at hp hr
  simp [results, Try.results18, go_sem, hp, hr, c0, c1]

set_option maxRecDepth 20000 in
set_option maxHeartbeats 2000000 in
theorem implExceptAll_ok (W W' : Int) (A A' : Option Addr) (c c' : Nat) (xs ys : List Row1) (w : World) (hn : xs.length ≤ 1048576) (hn' : ys.length ≤ 1048576) (h : Rws w w.heap.size A xs) (h' : Rws w w.heap.size A' ys) (q : Bool) (hq : q = true ↔ (TabOk W xs ∧ TabOk W' ys ∧ W = W')) :
    Calls Try.prog 18 #[.agg #[.int .i64 W, .slice A xs.length c], .agg #[.int .i64 W', .slice A' ys.length c']] w (TabRes q W ((merged xs ys).filter (fun r => r.2 == false) |>.map (·.1)) w) := by
  have Hq := Lib.hid hq
  have HH := Lib.hid (And.intro h h')
  obtain ⟨W0, hW0⟩ : ∃ z, ((w.alloc (.cells #[.int .i64 W, .slice A xs.length c] 25)).alloc (.cells #[.int .i64 W', .slice A' ys.length c'] 25)).alloc (.cells #[.int .i64 0, .slice none 0 0] 25) = z := ⟨_, rfl⟩
  have B0 : Below w.heap.size w W0 := by rw [← hW0]; exact balloc (balloc (balloc (Below.refl _ _) _) _) _
  have r0 : Row W0 w.heap.size 25 [.int .i64 W, .slice A xs.length c] := by rw [← hW0]; exact ((Row.new _ _ _).alloc _).alloc _
  have r1 : Row W0 (w.heap.size + 1) 25 [.int .i64 W', .slice A' ys.length c'] := by rw [← hW0]; exact (Row.second _ _ _ _).alloc _
  have r2 : Row W0 (w.heap.size + 2) 25 [.int .i64 0, .slice none 0 0] := by rw [← hW0]; exact Row.third _ _ _ _ _
  have HW := Lib.hid hW0
  have HB0 := Lib.hid B0
  have HR0 := Lib.hid (And.intro r0 (And.intro r1 r2))
  have HS := Lib.hid (sameWidth_ok W W' A A' c c' xs ys W0 (by unfold maxLen; omega) (by unfold maxLen; omega) (h.on B0) (h'.on B0) q hq)
  have a0 : W0.cell? ⟨w.heap.size, 0, none⟩ = some (.int .i64 W) := r0.cell 0
  have a1 : W0.cell? ⟨w.heap.size, 1, none⟩ = some (.slice A xs.length c) := r0.cell 1
  have b0 : W0.cell? ⟨w.heap.size + 1, 0, none⟩ = some (.int .i64 W') := r1.cell 0
  have b1 : W0.cell? ⟨w.heap.size + 1, 1, none⟩ = some (.slice A' ys.length c') := r1.cell 1
  clear hq h h' B0 r0 r1 r2 hW0
  go_enter Try.func18, Try.ntmps18
  go_upto_region 1 with fail
  rw [HW.out]
  go_wp2_with fail
  refine HS.out.mono ?_
  rintro e w1 ⟨rfl, hb1⟩
  have r0 := HR0.out.1.on hb1
  have r1 := HR0.out.2.1.on hb1
  have r2 := HR0.out.2.2.on hb1
  have H1 := Lib.hid (bch HB0.out hb1)
  have R1 := Lib.hid (And.intro r0 (And.intro r1 r2))
  have d0 : w1.cell? ⟨w.heap.size, 0, none⟩ = some (.int .i64 W) := r0.cell 0
  have e0 : w1.cell? ⟨w.heap.size + 2, 0, none⟩ = some (.int .i64 0) := r2.cell 0
  have e1 : w1.cell? ⟨w.heap.size + 2, 1, none⟩ = some (.slice none 0 0) := r2.cell 1
  have f0 := r2.frozen 0
  have f1 := r2.frozen 1
  have l2 := r2.lt
  have l0 := r0.lt
  clear a0 a1 b0 b1 hb1 r0 r1 r2
  cases q
  · go_wp2
    refine bodyPost_ret (resExceptAll (b := w.heap.size + 2) (r := false) _ rfl rfl _ (v0 := .int .i64 0) (v1 := .slice none 0 0) (by simp [go_sem, e0, e1, l2]) (by simp [go_sem, e0, e1, l2])) rfl ?_
    exact TabRes.no ((H1.out.setCell (p := ⟨w.heap.size + 2, 0, none⟩) (by simp) _).setCell (p := ⟨w.heap.size + 2, 1, none⟩) (by simp) _)
  · obtain ⟨hT, hT', hWW⟩ := Hq.out.1 rfl
    obtain ⟨svs, hsl, hsv, hin⟩ := HH.out.1.on H1.out
    obtain ⟨ps, hp1, hp2, hps⟩ := psOf (W := W) hsl (tabRows1 hT) hin
    have hpl : ps.length = xs.length := by rw [← hp2, List.length_map]
    have HC := collect_ok W ps.length 49 #[.pointer (some ⟨w.heap.size, 0, none⟩), .pointer (some ⟨w.heap.size + 1, 0, none⟩)] (pick2 false ps (merged xs ys)) w1 entersExceptAll1
      (by
        have := exceptAllIt_ok W W' w.heap.size (w.heap.size + 1) A A' c c' ps ys w1 (by omega) hn' (by rw [hpl]; exact R1.out.1) R1.out.2.1 (by rw [hp1]; exact hsv) hps (HH.out.2.on H1.out)
        rw [hp2] at this
        exact this)
    rw [pick2_map false ps xs ys hp2] at HC
    have HC := Lib.hid HC
    clear hT hT' hWW hsl hsv hin hp1 hp2 hps hpl
    go_wp2_with fail
    refine HC.out.mono ?_
    rintro e w2 ⟨v, cp, rfl, hcp, how, hcc, hb2⟩
    have r2 := R1.out.2.2.on hb2
    have e0 : w2.cell? ⟨w.heap.size + 2, 0, none⟩ = some (.int .i64 0) := r2.cell 0
    have e1 : w2.cell? ⟨w.heap.size + 2, 1, none⟩ = some (.slice none 0 0) := r2.cell 1
    have f0 := r2.frozen 0
    have f1 := r2.frozen 1
    have l2 := r2.lt
    obtain ⟨A2, c2, rfl, _, _, _⟩ := how.shape svC_length
    generalize (cp.map (·.1)).length = nn at how ⊢
    have H2 := Lib.hid (And.intro hcp (And.intro how (And.intro hcc (And.intro hb2 r2))))
    clear hcp how hcc hb2 r2
    go_wp2
    refine bodyPost_ret (resExceptAll (b := w.heap.size + 2) (r := true) _ rfl rfl _ (v0 := .int .i64 W) (v1 := .slice A2 nn c2) (by simp [go_sem, e0, e1, l2]) (by simp [go_sem, e0, e1, l2])) rfl ?_
    obtain ⟨hcp, how, hcc, hb2, r2⟩ := H2.out
    exact TabRes.yes hcp how hcc H1.out hb2 r2 (by omega)
set_option maxHeartbeats 1000000 in
theorem intersectAllPass_ok (A : Option Addr) (n c : Nat) (pb : Nat) (w : World) :
    Calls Try.prog 58 #[.slice A n c, .bool false, .pointer (some ⟨pb, 0, none⟩)] w fun e w' => e = .returned (.bool true) ∧ w = w' := by
  go_enter Try.func58, Try.ntmps58
  go_wp2
  go_ret
  exact ⟨rfl, rfl⟩
set_option maxHeartbeats 1000000 in
theorem intersectAllYield_ok (A : Option Addr) (n c : Nat) (pb l : Nat) (w : World) (hc : w.cell? ⟨pb, 0, none⟩ = some (.func (.yield l) #[] #[])) (R : Ending → World → Prop) (hY : YieldAt Fence.wide 4 Try.prog l #[.slice A n c] w R) (hR : ∀ e w', R e w' → ∃ b, e = .returned (.bool b)) :
    Calls Try.prog 58 #[.slice A n c, .bool true, .pointer (some ⟨pb, 0, none⟩)] w R := by
  refine (callsIn_wide (n := 5)).1 ?_
  refine callsIn_of_wp Try.func58 rfl trivial ?_ rfl
  simp only [Try.ntmps58, List.size_toArray, List.length_cons, List.length_nil, Nat.reduceAdd, Nat.reduceSub, Array.replicate_succ, Array.replicate_zero, List.push_toArray, List.append_toArray, List.nil_append, List.cons_append]
  obtain ⟨fn, tmps, assign, body, hy, hRR⟩ := hY
  gi_wp2
  refine hRR.mono ?_
  rintro e w' h
  obtain ⟨b, rfl⟩ := hR e w' h
  gi_wp2
  exact h
theorem entersIntersectAll11 : EntersF 58 := enters_of Try.func58 (by kernel_rfl) rfl

/-- The function that IntersectAll hands to collect. -/
theorem intersectAllIt_ok (W W' : Int) (pa pb : Nat) (A A' : Option Addr) (c c' : Nat) (ps : List SRw) (ys : List Row1) (w : World) (hn : ps.length ≤ 1048576) (hn' : ys.length ≤ 1048576)
    (hRa : Row w pa 25 [.int .i64 W, .slice A ps.length c]) (hRb : Row w pb 25 [.int .i64 W', .slice A' ys.length c'])
    (hA : Sl 1 svC w w.heap.size A (ps.map (·.1))) (hS : ∀ p ∈ ps, SRs W w p) (h' : Rws w w.heap.size A' ys) :
    SeqStopsK Fence.wide 5 Try.prog 57 #[.pointer (some ⟨pa, 0, none⟩), .pointer (some ⟨pb, 0, none⟩)] (fun x : Src W w => #[encSR x.1]) (KpC w.heap.size)
      (fun xs => xs.map (·.1) = pick2 true ps (merged (ps.map (·.2)) ys)) (fun pre => pre.map (·.1) <+: pick2 true ps (merged (ps.map (·.2)) ys)) ps.length w := by
  intro l J Jx z hz hJ hJx hY h0
  have ra := hRa.on hz
  have rb := hRb.on hz
  have a0 : z.cell? ⟨pa, 0, none⟩ = some (.int .i64 W) := ra.cell 0
  have a1 : z.cell? ⟨pa, 1, none⟩ = some (.slice A ps.length c) := ra.cell 1
  have b0 : z.cell? ⟨pb, 0, none⟩ = some (.int .i64 W') := rb.cell 0
  have b1 : z.cell? ⟨pb, 1, none⟩ = some (.slice A' ys.length c') := rb.cell 1
  have la := ra.lt
  have lb := rb.lt
  obtain ⟨z1, hz1⟩ : ∃ z1, z.alloc (.cells #[.func (.yield l) #[] #[]] 56) = z1 := ⟨_, rfl⟩
  have hb1 : Below z.heap.size z z1 := hz1 ▸ balloc (Below.refl _ _) _
  have hq1 : Row z1 z.heap.size 56 [.func (.yield l) #[] #[]] := hz1 ▸ Row.new _ _ _
  have HE := Lib.hid (eachMerged_ok W W' A A' c c' ps ys 58 entersIntersectAll11 #[.pointer (some ⟨z.heap.size, 0, none⟩)]
    (fun k y => ∃ pre : List (Src W w), pre.map (·.1) = pick2 true (ps.take k) ((merged (ps.map (·.2)) ys).take k) ∧ J pre y ∧ Row y z.heap.size 56 [.func (.yield l) #[] #[]])
    (fun k y => ∃ pre : List (Src W w), pre.map (·.1) = pick2 true (ps.take (k + 1)) ((merged (ps.map (·.2)) ys).take (k + 1)) ∧ Jx pre y)
    w z1 (hz.trans (hb1.mono hz.size)) (Nat.le_trans hz.size hb1.size) hn hn' hA hS h'
    (fun k y1 y2 ⟨pre, h1, h2, h3⟩ hb => ⟨pre, h1, Go.Qo.AbidesFrom.below hJ h2 hb, h3.on hb⟩)
    (fun k m p y ⟨pre, h1, h2, h3⟩ hp hm => by
      have hps : p ∈ ps := List.mem_of_getElem? hp
      have hsn : p.1.n = p.2.length := (hS p hps).2.1
      have hk : k < ps.length := (List.getElem?_eq_some_iff.1 hp).1
      have hsnoc := pick2_snoc true ps _ k p _ hp hm
      cases m
      case false =>
        refine (intersectAllPass_ok p.1.A p.2.length p.1.c z.heap.size y).mono ?_
        rintro e y' ⟨rfl, rfl⟩
        exact .inl ⟨rfl, ⟨pre, by rw [hsnoc]; simpa using h1, h2, h3⟩, Kp2.refl _⟩
      case true =>
        have hlen : pre.length < ps.length := by
          have := congrArg List.length h1
          rw [List.length_map] at this
          have h5 := pick2_length true (ps.take k) ((merged (ps.map (·.2)) ys).take k)
          rw [List.length_take] at h5
          omega
        have hyl := hY pre ⟨p, hS p hps⟩ y h2 hlen
        have he : (fun x : Src W w => #[encSR x.1]) ⟨p, hS p hps⟩ = #[.slice p.1.A p.2.length p.1.c] := by simp [encSR, hsn]
        rw [he] at hyl
        refine Calls.mono (intersectAllYield_ok p.1.A p.2.length p.1.c z.heap.size l y (h3.cell 0) _ hyl ?_) ?_
        · rintro e y' (⟨rfl, _⟩ | ⟨rfl, _⟩)
          · exact ⟨_, rfl⟩
          · exact ⟨_, rfl⟩
        · have hmap : (pre ++ [(⟨p, hS p hps⟩ : Src W w)]).map (·.1) = pick2 true (ps.take (k + 1)) ((merged (ps.map (·.2)) ys).take (k + 1)) := by
            rw [hsnoc, List.map_append, h1]; rfl
          rintro e y' (⟨rfl, hj, hk⟩ | ⟨rfl, hj⟩)
          · exact .inl ⟨rfl, ⟨_, hmap, hj, h3.kp2 hk (by decide) (by decide)⟩, hk⟩
          · exact .inr ⟨rfl, ⟨_, hmap, hj⟩⟩)
    ⟨[], rfl, Go.Qo.AbidesFrom.below hJ h0 hb1, hq1⟩)
  have HZ := Lib.hid hz1
  clear hY ra rb hb1 hq1 hRa hRb hA hS h' h0 hz1
  show CallsIn _ _ _ _ #[.func (.yield l) #[] #[], .pointer (some ⟨pa, 0, none⟩), .pointer (some ⟨pb, 0, none⟩)] _ _
  refine callsIn_wide.2 ?_
  go_enter Try.func57, Try.ntmps57
  go_wp2_with fail
  rw [HZ.out]
  refine HE.out.mono ?_
  rintro e y ⟨rfl, h⟩
  have HH := Lib.hid h
  clear h
  go_wp2
  go_end0
  refine ⟨⟨_, rfl⟩, ?_⟩
  have hml : (merged (ps.map (·.2)) ys).length = ps.length := by rw [merged_length, List.length_map]
  rcases HH.out with ⟨pre, h1, h2, _⟩ | ⟨k, hk, pre, h1, h2⟩
  · refine .inl ⟨pre, ?_, h2⟩
    rw [List.take_of_length_le (Nat.le_refl _), List.take_of_length_le (by omega)] at h1
    exact h1
  · exact .inr ⟨pre, by rw [h1]; exact pick2_prefix _ _ _ _, h2⟩
theorem entersIntersectAll1 : EntersF 57 := enters_of Try.func57 (by kernel_rfl) rfl
theorem resIntersectAll {b : Nat} {v0 v1 : Value} {r : Bool} (tmps : Array Value) (hp : tmps.getD 4 undef = .pointer (some ⟨b, 0, none⟩)) (hr : tmps.getD 5 undef = .bool r) (w : World) (c0 : w.cell? ⟨b, 0, none⟩ = some v0) (c1 : w.cell? ⟨b, 1, none⟩ = some v1) :
    (results Try.f26 tmps).run Try.prog w = .ok (.tuple #[.agg #[v0, v1], .bool r]) w := by
  simp only [Array.getD_eq_getD_getElem?] at hp hr
  simp [results, Try.results26, go_sem, hp, hr, c0, c1]

set_option maxRecDepth 20000 in
set_option maxHeartbeats 2000000 in
theorem implIntersectAll_ok (W W' : Int) (A A' : Option Addr) (c c' : Nat) (xs ys : List Row1) (w : World) (hn : xs.length ≤ 1048576) (hn' : ys.length ≤ 1048576) (h : Rws w w.heap.size A xs) (h' : Rws w w.heap.size A' ys) (q : Bool) (hq : q = true ↔ (TabOk W xs ∧ TabOk W' ys ∧ W = W')) :
    Calls Try.prog 26 #[.agg #[.int .i64 W, .slice A xs.length c], .agg #[.int .i64 W', .slice A' ys.length c']] w (TabRes q W ((merged xs ys).filter (fun r => r.2 == true) |>.map (·.1)) w) := by
  have Hq := Lib.hid hq
  have HH := Lib.hid (And.intro h h')
  obtain ⟨W0, hW0⟩ : ∃ z, ((w.alloc (.cells #[.int .i64 W, .slice A xs.length c] 25)).alloc (.cells #[.int .i64 W', .slice A' ys.length c'] 25)).alloc (.cells #[.int .i64 0, .slice none 0 0] 25) = z := ⟨_, rfl⟩
  have B0 : Below w.heap.size w W0 := by rw [← hW0]; exact balloc (balloc (balloc (Below.refl _ _) _) _) _
  have r0 : Row W0 w.heap.size 25 [.int .i64 W, .slice A xs.length c] := by rw [← hW0]; exact ((Row.new _ _ _).alloc _).alloc _
  have r1 : Row W0 (w.heap.size + 1) 25 [.int .i64 W', .slice A' ys.length c'] := by rw [← hW0]; exact (Row.second _ _ _ _).alloc _
  have r2 : Row W0 (w.heap.size + 2) 25 [.int .i64 0, .slice none 0 0] := by rw [← hW0]; exact Row.third _ _ _ _ _
  have HW := Lib.hid hW0
  have HB0 := Lib.hid B0
  have HR0 := Lib.hid (And.intro r0 (And.intro r1 r2))
  have HS := Lib.hid (sameWidth_ok W W' A A' c c' xs ys W0 (by unfold maxLen; omega) (by unfold maxLen; omega) (h.on B0) (h'.on B0) q hq)
  have a0 : W0.cell? ⟨w.heap.size, 0, none⟩ = some (.int .i64 W) := r0.cell 0
  have a1 : W0.cell? ⟨w.heap.size, 1, none⟩ = some (.slice A xs.length c) := r0.cell 1
  have b0 : W0.cell? ⟨w.heap.size + 1, 0, none⟩ = some (.int .i64 W') := r1.cell 0
  have b1 : W0.cell? ⟨w.heap.size + 1, 1, none⟩ = some (.slice A' ys.length c') := r1.cell 1
  clear hq h h' B0 r0 r1 r2 hW0
  go_enter Try.func26, Try.ntmps26
  go_upto_region 1 with fail
  rw [HW.out]
  go_wp2_with fail
  refine HS.out.mono ?_
  rintro e w1 ⟨rfl, hb1⟩
  have r0 := HR0.out.1.on hb1
  have r1 := HR0.out.2.1.on hb1
  have r2 := HR0.out.2.2.on hb1
  have H1 := Lib.hid (bch HB0.out hb1)
  have R1 := Lib.hid (And.intro r0 (And.intro r1 r2))
  have d0 : w1.cell? ⟨w.heap.size, 0, none⟩ = some (.int .i64 W) := r0.cell 0
  have e0 : w1.cell? ⟨w.heap.size + 2, 0, none⟩ = some (.int .i64 0) := r2.cell 0
  have e1 : w1.cell? ⟨w.heap.size + 2, 1, none⟩ = some (.slice none 0 0) := r2.cell 1
  have f0 := r2.frozen 0
  have f1 := r2.frozen 1
  have l2 := r2.lt
  have l0 := r0.lt
  clear a0 a1 b0 b1 hb1 r0 r1 r2
  cases q
  · go_wp2
    refine bodyPost_ret (resIntersectAll (b := w.heap.size + 2) (r := false) _ rfl rfl _ (v0 := .int .i64 0) (v1 := .slice none 0 0) (by simp [go_sem, e0, e1, l2]) (by simp [go_sem, e0, e1, l2])) rfl ?_
    exact TabRes.no ((H1.out.setCell (p := ⟨w.heap.size + 2, 0, none⟩) (by simp) _).setCell (p := ⟨w.heap.size + 2, 1, none⟩) (by simp) _)
  · obtain ⟨hT, hT', hWW⟩ := Hq.out.1 rfl
    obtain ⟨svs, hsl, hsv, hin⟩ := HH.out.1.on H1.out
    obtain ⟨ps, hp1, hp2, hps⟩ := psOf (W := W) hsl (tabRows1 hT) hin
    have hpl : ps.length = xs.length := by rw [← hp2, List.length_map]
    have HC := collect_ok W ps.length 57 #[.pointer (some ⟨w.heap.size, 0, none⟩), .pointer (some ⟨w.heap.size + 1, 0, none⟩)] (pick2 true ps (merged xs ys)) w1 entersIntersectAll1
      (by
        have := intersectAllIt_ok W W' w.heap.size (w.heap.size + 1) A A' c c' ps ys w1 (by omega) hn' (by rw [hpl]; exact R1.out.1) R1.out.2.1 (by rw [hp1]; exact hsv) hps (HH.out.2.on H1.out)
        rw [hp2] at this
        exact this)
    rw [pick2_map true ps xs ys hp2] at HC
    have HC := Lib.hid HC
    clear hT hT' hWW hsl hsv hin hp1 hp2 hps hpl
    go_wp2_with fail
    refine HC.out.mono ?_
    rintro e w2 ⟨v, cp, rfl, hcp, how, hcc, hb2⟩
    have r2 := R1.out.2.2.on hb2
    have e0 : w2.cell? ⟨w.heap.size + 2, 0, none⟩ = some (.int .i64 0) := r2.cell 0
    have e1 : w2.cell? ⟨w.heap.size + 2, 1, none⟩ = some (.slice none 0 0) := r2.cell 1
    have f0 := r2.frozen 0
    have f1 := r2.frozen 1
    have l2 := r2.lt
    obtain ⟨A2, c2, rfl, _, _, _⟩ := how.shape svC_length
    generalize (cp.map (·.1)).length = nn at how ⊢
    have H2 := Lib.hid (And.intro hcp (And.intro how (And.intro hcc (And.intro hb2 r2))))
    clear hcp how hcc hb2 r2
    go_wp2
    refine bodyPost_ret (resIntersectAll (b := w.heap.size + 2) (r := true) _ rfl rfl _ (v0 := .int .i64 W) (v1 := .slice A2 nn c2) (by simp [go_sem, e0, e1, l2]) (by simp [go_sem, e0, e1, l2])) rfl ?_
    obtain ⟨hcp, how, hcc, hb2, r2⟩ := H2.out
    exact TabRes.yes hcp how hcc H1.out hb2 r2 (by omega)
end Go.Proofs.Ytfjpmifdmpoocaa
