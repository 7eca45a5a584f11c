/-
  Contracts: marks of tables of the program's making, and whether they are still held.
-/
import Derived.Test.YtfhafbincknaeaaProg
import Derived.Test.YtfhafbincknaeaaMarkT
import Derived.Test.YtfhafbincknaeaaCol
namespace Go.Proofs.Ytfhafbincknaeaa
open Go.RowKit Go.Qo
set_option linter.unusedVariables false
set_option linter.unusedSimpArgs false

/-- The rows with their marks, counted on from k. -/
def marks : Int → List SRw → List SRw
  | _, [] => []
  | k, p :: ps => (p.1, markV k p.2.length) :: marks (k + 2 * p.2.length) ps
def mlen : List SRw → Nat
  | [] => 0
  | p :: ps => p.2.length + mlen ps
theorem marks_fst : ∀ (ps : List SRw) (k : Int), (marks k ps).map (·.1) = ps.map (·.1)
  | [], _ => rfl
  | p :: ps, k => by simp [marks, marks_fst ps]
theorem marks_length (ps : List SRw) (k : Int) : (marks k ps).length = ps.length := by
  have := congrArg List.length (marks_fst ps k)
  simpa using this
theorem mlen_snoc (p : SRw) : ∀ ps : List SRw, mlen (ps ++ [p]) = mlen ps + p.2.length
  | [] => by simp [mlen]
  | q :: ps => by simp [mlen, mlen_snoc p ps]; omega
theorem marks_snoc (p : SRw) : ∀ (ps : List SRw) (k : Int), marks k (ps ++ [p]) = marks k ps ++ [(p.1, markV (k + 2 * mlen ps) p.2.length)]
  | [], k => by simp [marks, mlen]
  | q :: ps, k => by
    have ih := marks_snoc p ps (k + 2 * q.2.length)
    simp only [List.cons_append, marks, ih]
    rw [show k + 2 * (q.2.length : Int) + 2 * (mlen ps : Int) = k + 2 * ((mlen (q :: ps) : Nat) : Int) from by simp only [mlen]; omega]
theorem marks_get : ∀ (ps : List SRw) (k : Int) (i : Nat) (p : SRw), ps[i]? = some p → (marks k ps)[i]? = some (p.1, markV (k + 2 * mlen (ps.take i)) p.2.length)
  | [], k, i, p, h => by simp at h
  | q :: ps, k, 0, p, h => by
    simp only [List.getElem?_cons_zero, Option.some.injEq] at h
    subst h
    simp [marks, mlen]
  | q :: ps, k, i + 1, p, h => by
    have ih := marks_get ps (k + 2 * q.2.length) i p (by simpa using h)
    simp only [marks, List.getElem?_cons_succ, ih, List.take_succ_cons]
    rw [show k + 2 * (q.2.length : Int) + 2 * (mlen (ps.take i) : Int) = k + 2 * ((mlen (q :: ps.take i) : Nat) : Int) from by simp only [mlen]; omega]
theorem mlen_le {m : Nat} : ∀ {ps : List SRw}, (∀ p ∈ ps, p.2.length ≤ m) → mlen ps ≤ m * ps.length
  | [], _ => by simp [mlen]
  | p :: ps, h => by
    have h1 := h p (by simp)
    have ih := mlen_le (ps := ps) fun q hq => h q (by simp [hq])
    simp only [mlen, List.length_cons, Nat.mul_add]
    omega
theorem Ow.apart {α : Type} {lo : Nat} {e : TypeId} {sz : Nat} {enc : α → List Value} {w w' : World} {v : Value} {xs : List α} {S : Nat → Prop} (h : Ow lo e sz enc w v xs) (k : Only S w w') (hS : ∀ b, v.ownBlock = some b → ¬ S b) : Ow lo e sz enc w' v xs := by
  refine ⟨h.1, ?_⟩
  rcases h.2 with h2 | ⟨g, cap, cur, hv, hg, hh, r⟩
  · exact .inl h2
  · exact .inr ⟨g, cap, cur, hv, hg, (k.block g (Array.getElem?_eq_some_iff.1 hh).1 (hS g (by rw [hv]; rfl))).trans hh, r⟩
/-- One row is written anew. -/
theorem Cps.put {lo : Nat} {z z' : World} {cp : List SRw} {i : Nat} {p : SRw} {ys : Row1} (h : Cps lo z cp) (hi : cp[i]? = some p) (hk : Only (OwnB (.slice p.1.A p.1.n p.1.c)) z z') (hp : OwP lo z' (p.1, ys)) : Cps lo z' (cp.set i (p.1, ys)) := by
  have hil := (List.getElem?_eq_some_iff.1 hi).1
  have hie := (List.getElem?_eq_some_iff.1 hi).2
  refine ⟨fun q hq => ?_, ?_⟩
  · obtain ⟨j, hj, rfl⟩ := List.getElem_of_mem hq
    rw [List.length_set] at hj
    rw [List.getElem_set]
    split
    · exact hp
    · rename_i hne
      have h1 := h.1 cp[j] (List.getElem_mem hj)
      refine ⟨h1.1, Ow.apart h1.2 hk fun b hb hc => ?_⟩
      have hpw := List.pairwise_iff_getElem.1 h.2
      rcases Nat.lt_or_gt_of_ne hne with hlt | hlt
      · exact hpw i j hil hj hlt b (by rw [hie]; exact hc) hb
      · exact hpw j i hj hil hlt b hb (by rw [hie]; exact hc)
  · have e : (cp.set i (p.1, ys)).map (·.1) = cp.map (·.1) := by
      rw [List.map_set]
      apply List.ext_getElem?
      intro j
      rw [List.getElem?_set]
      split
      · rename_i h1
        subst h1
        rw [List.getElem?_map, hi]
        simp [hil]
      · rfl
    have key : ∀ l : List SRw, l.Pairwise Apart ↔ (l.map (·.1)).Pairwise fun s t => ∀ b, svB s = some b → svB t ≠ some b := fun l => by rw [List.pairwise_map]; rfl
    rw [key, e, ← key]
    exact h.2

set_option maxRecDepth 20000 in
set_option maxHeartbeats 1000000 in
theorem markValueSSC_ok (lo lo' : Nat) (A : Option Addr) (c : Nat) (cp : List SRw) (k : Int) (w : World) (hk0 : 0 ≤ k) (hk : k ≤ 1048576) (hn : cp.length ≤ 400) (hr : ∀ p ∈ cp, p.2.length ≤ 16) (hO : Ow lo' 42 1 svC w (.slice A cp.length c) (cp.map (·.1))) (h : Cps lo w cp) :
    Calls Try.prog 33 #[.slice A cp.length c, .int .i64 k] w fun e w' => e = .returned (.int .i64 (k + 2 * mlen cp)) ∧ Ow lo' 42 1 svC w' (.slice A cp.length c) (cp.map (·.1)) ∧ Cps lo w' (marks k cp) ∧ Only (fun b => ∃ p ∈ cp, svB p.1 = some b) w w' ∧ w'.heap.size = w.heap.size := by
  have HL := Lib.hid hr
  have H0 := Lib.hid (And.intro hO h)
  clear h hr hO
  go_enter Try.func33, Try.ntmps33
  go_wp2
  go_loopg [1, 5] cp.length (fun g kv iv wr => ∃ (i : Nat) (kk : Int), i ≤ cp.length ∧ g = cp.length - i ∧ kk = k + 2 * mlen (cp.take i) ∧ kv = .int .i64 kk ∧ iv = .int .i64 i ∧ Ow lo' 42 1 svC wr (.slice A cp.length c) (cp.map (·.1)) ∧ Cps lo wr (marks k (cp.take i) ++ cp.drop i) ∧ Only (fun b => ∃ p ∈ cp, svB p.1 = some b) w wr ∧ wr.heap.size = w.heap.size)
  case atStart => exact ⟨0, k, by omega, by omega, by simp [mlen], rfl, rfl, H0.out.1, by simpa [marks] using H0.out.2, Only.refl _, rfl⟩
  case round =>
    obtain ⟨i, kk, hi, rfl, hkk, rfl, rfl, how, hcp, hon, hsz⟩ := hrel
    have hml : mlen (cp.take i) ≤ 16 * (cp.take i).length := mlen_le fun p hp => HL.out p (List.mem_of_mem_take hp)
    have hml2 : (cp.take i).length ≤ 400 := by rw [List.length_take]; omega
    have hkk0 : 0 ≤ kk := by omega
    have hkk1 : kk ≤ 1125899906842624 := by omega
    have HW := Lib.hid (And.intro hkk (And.intro how (And.intro hcp (And.intro hon hsz))))
    clear hkk hcp hon hsz hml hml2
    by_cases hlt : i < cp.length
    · obtain ⟨⟨⟨pA, pn, pc⟩, pr⟩, hp⟩ : ∃ p, cp[i]? = some p := ⟨_, List.getElem?_eq_getElem hlt⟩
      have hl : (marks k (cp.take i)).length = i := by rw [marks_length, List.length_take]; omega
      have hpm : (marks k (cp.take i) ++ cp.drop i)[i]? = some (⟨pA, pn, pc⟩, pr) := by
        rw [List.getElem?_append_right (by omega), hl, Nat.sub_self, List.getElem?_drop]; exact hp
      have hop := HW.out.2.2.1.1 _ (List.mem_of_getElem? hpm)
      have hpl : pr.length ≤ 16 := HL.out _ (List.mem_of_getElem? hp)
      obtain ⟨g, hA, hxx, hg, hgl, _, hgf, hgc⟩ := how.head svC_length (by rw [List.length_map]; omega)
      subst hA
      clear hxx
      have c1 : wr.cell? ⟨g, i, none⟩ = some (.slice pA pr.length pc) := by
        rw [← hop.1]
        refine hgc i _ ?_
        have := flat_get 1 svC svC_length (cp.map (·.1)) i ⟨pA, pn, pc⟩ 0 _ (by rw [List.getElem?_map, hp]; rfl) rfl
        rwa [Nat.mul_one, Nat.add_zero] at this
      have HP2 := Lib.hid (show pr.length = pr.length from rfl)
      have HM := Lib.hid (markValueS_ok lo pA pc pr kk wr hkk0 hkk1 (by omega) (by have := hop.2; rwa [hop.1] at this))
      have HP := Lib.hid (And.intro hp (And.intro hpm (And.intro hl hop.1)))
      clear hgf hgc how hp hpm hl hop
      go_wp2_with fail
      refine HM.out.mono ?_
      rintro e w1 ⟨rfl, ho1, hon1, hsz1⟩
      have HW1 := Lib.hid (And.intro ho1 (And.intro hon1 hsz1))
      clear ho1 hon1 hsz1
      go_wp2
      go_roundg (cp.length - (i + 1))
      case measure => omega
      case rel =>
        obtain ⟨hp, hpm, hl, hpn⟩ := HP.out
        have htk : cp.take (i + 1) = cp.take i ++ [((⟨pA, pn, pc⟩ : SV), pr)] := by rw [List.take_add_one, hp]; rfl
        have hmm := HW.out.2.2.1.put (ys := markV kk pr.length) hpm (by rw [hpn]; exact HW1.out.2.1) ⟨by rw [hpn, markV_length], by show Ow _ _ _ _ _ (.slice pA pn pc) _; rw [hpn]; exact HW1.out.1⟩
        rw [set_mid _ _ _ i hl hlt] at hmm
        have hin : ∀ b, OwnB (.slice pA pr.length pc) b → svB ⟨pA, pn, pc⟩ = some b := fun b hb => by unfold svB; rw [hpn]; exact hb
        refine ⟨i + 1, kk + 2 * pr.length, by omega, rfl, ?_, rfl, by go_num, ?_, ?_, ?_, HW1.out.2.2.trans HW.out.2.2.2.2⟩
        · rw [htk, mlen_snoc, HW.out.1]; dsimp only; have := HP2.out; omega
        · refine HW.out.2.1.only HW1.out.2.1 fun b hb => .inr ⟨44, by decide, ?_⟩
          obtain ⟨_, _, ht⟩ := (HW.out.2.2.1.1 _ (List.mem_of_getElem? hpm)).2.ty b (by rw [hpn]; exact hb)
          exact ht
        · rw [htk, marks_snoc, ← HW.out.1]; exact hmm
        · exact HW.out.2.2.2.1.trans (HW1.out.2.1.mono fun b _ hb => ⟨_, List.mem_of_getElem? hp, hin b hb⟩)
    · have hie : i = cp.length := by omega
      have HIE := Lib.hid hie
      clear hie how hn hk0 hk hkk0 hkk1
      go_wp2
      go_ret
      obtain ⟨h1, h2, h3, h4, h5⟩ := HW.out
      rw [HIE.out, List.take_of_length_le (Nat.le_refl _)] at h1
      rw [HIE.out, List.take_of_length_le (Nat.le_refl _), List.drop_length, List.append_nil] at h3
      exact ⟨ret_int h1, h2, h3, h4, h5⟩

set_option maxHeartbeats 400000 in
theorem markTableC_ok (W : Int) (lo lo' : Nat) (A : Option Addr) (c : Nat) (cp : List SRw) (k : Int) (w : World) (hk0 : 0 ≤ k) (hk : k ≤ 1048576) (hn : cp.length ≤ 400) (hr : ∀ p ∈ cp, p.2.length ≤ 16) (hO : Ow lo' 42 1 svC w (.slice A cp.length c) (cp.map (·.1))) (h : Cps lo w cp) :
    Calls Try.prog 12 #[.agg #[.int .i64 W, .slice A cp.length c], .int .i64 k] w fun e w' => e = .returned (.int .i64 (k + 2 * mlen cp)) ∧ Ow lo' 42 1 svC w' (.slice A cp.length c) (cp.map (·.1)) ∧ Cps lo w' (marks k cp) ∧ Only (fun b => ∃ p ∈ cp, svB p.1 = some b) w w' := by
  have B0 := balloc (Below.refl _ w) (.cells #[.int .i64 W, .slice A cp.length c] 29)
  have HM := Lib.hid (markValueSSC_ok lo lo' A c cp k _ hk0 hk hn hr (hO.on B0) (h.on B0))
  clear h hr hO B0
  go_enter Try.func12, Try.ntmps12
  go_wp2_with fail
  refine HM.out.mono ?_
  rintro e w1 ⟨rfl, h1, h2, hon, _⟩
  have H := Lib.hid (And.intro h1 (And.intro h2 hon))
  clear hon h1 h2
  go_wp2
  go_ret
  exact ⟨rfl, H.out.1, H.out.2.1, ((Only.refl w).alloc _).trans H.out.2.2⟩

set_option maxRecDepth 20000 in
set_option maxHeartbeats 1000000 in
theorem heldValueS_ok (A : Option Addr) (c n : Nat) (k : Int) (w : World) (hk0 : 0 ≤ k) (hk : k ≤ 1099511627776) (hn : n ≤ 1048576) (h : Sl 2 valC w w.heap.size A (markV k n)) :
    Calls Try.prog 59 #[.slice A n c, .int .i64 k] w fun e w' => e = .returned (.int .i64 (k + 2 * n)) ∧ Below w.heap.size w w' := by
  have hml := markV_length k n
  go_enter Try.func59, Try.ntmps59
  go_wp2
  go_loopg [1, 5] n (fun g kv iv wr => ∃ (i : Nat) (kk : Int), i ≤ n ∧ g = n - i ∧ kk = k + 2 * i ∧ kv = .int .i64 kk ∧ iv = .int .i64 i ∧ Below w.heap.size w wr)
  case atStart => exact ⟨0, k, by omega, by omega, by omega, rfl, rfl, Below.refl _ _⟩
  case round =>
    obtain ⟨i, kk, hi, rfl, hkk, rfl, rfl, hb⟩ := hrel
    have hkk0 : 0 ≤ kk := by omega
    have hkk1 : kk ≤ 1099513724928 := by omega
    have HK := Lib.hid hkk
    clear hkk
    by_cases hlt : i < n
    · obtain ⟨b, off, rfl, hB, c1, c2⟩ := Val.at_ (h.below hb) (i := i) (by omega)
      have hx : (markV k n)[i]'(by omega) = ((kk % 3 == 0), kk + 1) := by simp [markV, HK.out]
      rw [hx] at c1 c2
      clear h hml hx
      have HB := Lib.hid hb
      clear hb
      go_wp2
      first
        | (go_roundg (n - (i + 1))
           case measure => omega
           case rel => exact ⟨i + 1, kk + 2, by omega, rfl, by have := HK.out; omega, congrArg (Value.int IntKind.i64) (by omega), by go_num, HB.out⟩)
        | (go_quiet (fail)
           go_wp2
           go_roundg (n - (i + 1))
           case measure => omega
           case rel => exact ⟨i + 1, kk + 2, by omega, rfl, by have := HK.out; omega, congrArg (Value.int IntKind.i64) (by omega), by go_num, bdrewN HB.out _⟩)
    · have HIE := Lib.hid (show i = n by omega)
      go_wp2
      go_ret
      exact ⟨ret_int (by rw [HK.out, HIE.out]), hb⟩

set_option maxRecDepth 20000 in
set_option maxHeartbeats 1000000 in
theorem heldValueSS_ok (lo lo' : Nat) (A : Option Addr) (c : Nat) (cp : List SRw) (k : Int) (w : World) (hk0 : 0 ≤ k) (hk : k ≤ 1048576) (hn : cp.length ≤ 400) (hr : ∀ p ∈ cp, p.2.length ≤ 16) (hO : Ow lo' 42 1 svC w (.slice A cp.length c) (cp.map (·.1))) (h : Cps lo w (marks k cp)) :
    Calls Try.prog 34 #[.slice A cp.length c, .int .i64 k] w fun e w' => e = .returned (.int .i64 (k + 2 * mlen cp)) ∧ Below w.heap.size w w' := by
  have HL := Lib.hid hr
  have H0 := Lib.hid (And.intro hO h)
  clear h hr hO
  go_enter Try.func34, Try.ntmps34
  go_wp2
  go_loopg [1, 5] cp.length (fun g kv iv wr => ∃ (i : Nat) (kk : Int), i ≤ cp.length ∧ g = cp.length - i ∧ kk = k + 2 * mlen (cp.take i) ∧ kv = .int .i64 kk ∧ iv = .int .i64 i ∧ Below w.heap.size w wr)
  case atStart => exact ⟨0, k, by omega, by omega, by simp [mlen], rfl, rfl, Below.refl _ _⟩
  case round =>
    obtain ⟨i, kk, hi, rfl, hkk, rfl, rfl, hb⟩ := hrel
    have hml : mlen (cp.take i) ≤ 16 * (cp.take i).length := mlen_le fun p hp => HL.out p (List.mem_of_mem_take hp)
    have hml2 : (cp.take i).length ≤ 400 := by rw [List.length_take]; omega
    have hkk0 : 0 ≤ kk := by omega
    have hkk1 : kk ≤ 1099511627776 := by omega
    have HW := Lib.hid (And.intro hkk hb)
    clear hkk hml hml2
    by_cases hlt : i < cp.length
    · obtain ⟨⟨⟨pA, pn, pc⟩, pr⟩, hp⟩ : ∃ p, cp[i]? = some p := ⟨_, List.getElem?_eq_getElem hlt⟩
      have hmg := marks_get cp k i _ hp
      rw [← HW.out.1] at hmg
      have hop := (H0.out.2.on hb).1 _ (List.mem_of_getElem? hmg)
      have hpl : pr.length ≤ 16 := HL.out _ (List.mem_of_getElem? hp)
      have hpn : pn = pr.length := by have := hop.1; rwa [markV_length] at this
      obtain ⟨g, hA, hxx, hg, hgl, _, hgf, hgc⟩ := (H0.out.1.on hb).head svC_length (by rw [List.length_map]; omega)
      subst hA
      clear hxx
      have c1 : wr.cell? ⟨g, i, none⟩ = some (.slice pA pr.length pc) := by
        rw [← hpn]
        refine hgc i _ ?_
        have := flat_get 1 svC svC_length (cp.map (·.1)) i ⟨pA, pn, pc⟩ 0 _ (by rw [List.getElem?_map, hp]; rfl) rfl
        rwa [Nat.mul_one, Nat.add_zero] at this
      have HP2 := Lib.hid (show pr.length = pr.length from rfl)
      have HM := Lib.hid (heldValueS_ok pA pc pr.length kk wr hkk0 hkk1 (by omega) hop.slT.2.2.sl)
      have HP := Lib.hid hp
      have hnn : ¬ (kk + 2 * (pr.length : Int) < 0) := by omega
      clear hgf hgc hp hmg hop hpn hb
      go_wp2_with fail
      refine HM.out.mono ?_
      rintro e w1 ⟨rfl, hb1⟩
      have HB1 := Lib.hid (bch HW.out.2 hb1)
      clear hb1
      go_wp2
      go_roundg (cp.length - (i + 1))
      case measure => omega
      case rel =>
        have htk : cp.take (i + 1) = cp.take i ++ [((⟨pA, pn, pc⟩ : SV), pr)] := by rw [List.take_add_one, HP.out]; rfl
        exact ⟨i + 1, kk + 2 * pr.length, by omega, rfl, by rw [htk, mlen_snoc, HW.out.1]; dsimp only; have := HP2.out; omega, rfl, by go_num, HB1.out⟩
    · have HIE := Lib.hid (show i = cp.length by omega)
      go_wp2
      go_ret
      obtain ⟨h1, h2⟩ := HW.out
      rw [HIE.out, List.take_of_length_le (Nat.le_refl _)] at h1
      exact ⟨ret_int h1, h2⟩

set_option maxHeartbeats 400000 in
theorem heldTable_ok (W : Int) (lo lo' : Nat) (A : Option Addr) (c : Nat) (cp : List SRw) (k : Int) (w : World) (hk0 : 0 ≤ k) (hk : k ≤ 1048576) (hn : cp.length ≤ 400) (hr : ∀ p ∈ cp, p.2.length ≤ 16) (hO : Ow lo' 42 1 svC w (.slice A cp.length c) (cp.map (·.1))) (h : Cps lo w (marks k cp)) :
    Calls Try.prog 14 #[.agg #[.int .i64 W, .slice A cp.length c], .int .i64 k] w fun e w' => e = .returned (.int .i64 (k + 2 * mlen cp)) ∧ Below w.heap.size w w' := by
  have B0 := balloc (Below.refl _ w) (.cells #[.int .i64 W, .slice A cp.length c] 29)
  have HM := Lib.hid (heldValueSS_ok lo lo' A c cp k _ hk0 hk hn hr (hO.on B0) (h.on B0))
  have hnn : ¬ (k + 2 * (mlen cp : Int) < 0) := by omega
  have HB0 := Lib.hid B0
  clear h hr hO B0
  go_enter Try.func14, Try.ntmps14
  go_wp2_with fail
  refine HM.out.mono ?_
  rintro e w1 ⟨rfl, hb1⟩
  have H := Lib.hid (bch HB0.out hb1)
  clear hb1
  go_wp2
  go_ret
  exact ⟨rfl, H.out⟩
end Go.Proofs.Ytfhafbincknaeaa
