/-
  Contract: the program's scanner reads an expression (expr). (Printed by wip/dck.py.)
-/
import Derived.Test.YtmhlpjfijpomkaaGreatDoorProg
import Derived.Test.YtmhlpjfijpomkaaGreatDoorZqDcJ
import Derived.Test.YtmhlpjfijpomkaaGreatDoorZqGf
import Derived.Test.YtmhlpjfijpomkaaGreatDoorZqGf
import Derived.Test.YtmhlpjfijpomkaaGreatDoorZqRgG
namespace Go.Proofs.YtmhlpjfijpomkaaGreatDoor
open Go.RowKit Go.Qo
set_option linter.unusedVariables false
set_option linter.unusedSimpArgs false

def XPost (b : Nat) (w : World) (r : Option (Ex × List UInt8)) (e : Ending) (w' : World) : Prop :=
  match r with
  | some x => ∃ f, e = .returned (feV f) ∧ ExW 40 w' (fun k => w.heap.size ≤ k) f x.1 ∧ Sc w' b x.2 ∧ But b w w'
  | none => Malf b w e w'
def PX (d : Nat) : Prop := ∀ (b lo : Nat) (l : List UInt8) (w : World), Sc w b l → Ix l → l.length ≤ 8388608 → T10 lo w → EvB lo w → lo ≤ b →
  Calls Tryz.prog 44 #[.pointer (some ⟨b, 0, none⟩), .int .i64 d] w (XPost b w (pEx d l))
theorem enterOf (args : Array Value) (z : World) : (callFunc 83 args).run Tryz.prog z = .ok (.enter 83 args) z := enters_of Tryz.func83 (by kernel_rfl) rfl args z
theorem zeroExT3 : (Tryz.prog.info? 40).map (fun i => (i.zero, i.size, i.bytes)) = some (some (.agg #[.int .i64 0, .int .i64 0, .bool false, .int .i64 0, .slice none 0 0]), 5, 56) := by kernel_rfl
theorem kind_expr {b : Nat} {l : List UInt8} {w : World} (h : Sc w b l) (hix : Ix l) (hl : l.length ≤ 8388608) : Calls Tryz.prog 68 #[.pointer (some ⟨b, 0, none⟩), .int .i64 3, .int .i64 11, .func (Fn.func 83) #[] #[]] w (KindPost b l w (kindOf opText 3 9 (wordOf l))) :=
  kind_ok 83 opText 3 9 (by omega) (by omega) enterOf (fun k z h1 h2 => exprName_ok k z h1 (by omega)) h hix hl _ rfl
theorem kindOf_range {nm : Int → List UInt8} : ∀ (n : Nat) (lo k : Int) (l : List UInt8), kindOf nm lo n l = some k → lo ≤ k ∧ k < lo + n
  | 0, lo, k, l, h => by cases h
  | n + 1, lo, k, l, h => by
    unfold kindOf at h
    split at h
    · cases h
      omega
    · have := kindOf_range n (lo + 1) k l h
      omega
theorem restOf_len (l : List UInt8) : (restOf l).length ≤ l.length := by
  have := congrArg List.length (word_rest l)
  simp at this
  omega
/-- What is left behind an expression is an end of the text. -/
theorem pLeaf_tail {l : List UInt8} {x : Ex} {r : List UInt8} (h : pLeaf l = some (x, r)) : ∃ a, l = a ++ r := by
  unfold pLeaf at h
  split at h
  · cases h; exact ⟨_, (word_rest l).symm⟩
  · cases h
theorem pKids_tail {p : List UInt8 → Option (Ex × List UInt8)} (hp : ∀ l x r, p l = some (x, r) → ∃ a, l = a ++ r) : ∀ (n : Nat) (l : List UInt8) (xs : List Ex) (r : List UInt8), pKids p n l = some (xs, r) → ∃ a, l = a ++ r
  | 0, l, xs, r, h => by unfold pKids at h; cases h; exact ⟨[], rfl⟩
  | n + 1, l, xs, r, h => by
    unfold pKids at h
    split at h
    · cases h
    · rename_i c r0
      split at h
      · split at h
        · rename_i x r1 hx
          split at h
          · rename_i ys r2 hy
            cases h
            obtain ⟨a1, h1⟩ := hp _ _ _ hx
            obtain ⟨a2, h2⟩ := pKids_tail hp n _ _ _ hy
            exact ⟨c :: (a1 ++ a2), by rw [h1, h2]; simp⟩
          · cases h
        · cases h
      · cases h
theorem pEx_tail : ∀ (d : Nat) (l : List UInt8) (x : Ex) (r : List UInt8), pEx d l = some (x, r) → ∃ a, l = a ++ r := by
  have hi : ∀ (c : UInt8) (r0 : List UInt8) (x : Ex) (r : List UInt8), (pIdx r0).map (fun x => ((.mk 1 x.1 (false, 0) [] : Ex), x.2)) = some (x, r) → ∃ a, c :: r0 = a ++ r := by
    intro c r0 x r h
    unfold pIdx at h
    split at h
    · simp at h
      exact ⟨c :: wordOf r0, by rw [← h.2]; simp [word_rest]⟩
    · simp at h
  intro d
  induction d with
  | zero =>
    intro l x r h
    unfold pEx at h
    split at h
    · exact pLeaf_tail h
    · split at h
      · exact hi _ _ _ _ h
      · split at h
        · cases h
        · exact pLeaf_tail h
  | succ d ih =>
    intro l x r h
    unfold pEx at h
    split at h
    · exact pLeaf_tail h
    · rename_i c r0
      split at h
      · exact hi _ _ _ _ h
      · split at h
        · split at h
          · rename_i k hk
            cases hq : pKids (pEx d) (kidsK k).toNat (restOf r0) with
            | none => rw [hq] at h; simp [pShut] at h
            | some y =>
              obtain ⟨ys, r1⟩ := y
              rw [hq] at h
              cases r1 with
              | nil => simp [pShut] at h
              | cons c1 r2 =>
                by_cases h41 : c1 = 41
                · simp [pShut, h41] at h
                  obtain ⟨a, ha⟩ := pKids_tail ih _ _ _ _ hq
                  have hw := word_rest r0
                  rw [ha] at hw
                  exact ⟨c :: (wordOf r0 ++ (a ++ [c1])), by rw [← h.2]; exact congrArg (c :: ·) (by simpa using hw.symm)⟩
                · simp [pShut, h41] at h
          · cases h
        · exact pLeaf_tail h

set_option maxRecDepth 20000 in
set_option maxHeartbeats 1500000 in
/-- The walk, the kids' contract given. -/
theorem expr_of (d : Nat) (hd8 : d ≤ 8) (ih : ∀ d', d = d' + 1 → PX d') : PX d := fun b lo l w h hix hl ht hv hlo => by
  have hbl := h.lt
  obtain ⟨W0, hW0⟩ : ∃ z, w.alloc (.cells #[.int .i64 0, .int .i64 0, .bool false, .int .i64 0, .slice none 0 0] 40) = z := ⟨_, rfl⟩
  have B0 : Below w.heap.size w W0 := by rw [← hW0]; exact balloc (Below.refl _ _) _
  have r0 : Row W0 w.heap.size 40 [.int .i64 0, .int .i64 0, .bool false, .int .i64 0, .slice none 0 0] := by rw [← hW0]; exact Row.new _ _ _
  have hs0 : W0.heap.size = w.heap.size + 1 := by rw [← hW0]; simp
  have HIx := Lib.hid hix
  have HSc := Lib.hid (h.on B0)
  have HT := Lib.hid (ht.on (B0.mono (by omega)))
  have HV := Lib.hid (hv.on (B0.mono (by omega)))
  have HW0 := Lib.hid hW0
  have HB0 := Lib.hid (show But b w W0 from only_below B0)
  have HBW0 := Lib.hid (show Below lo w W0 from B0.mono (by omega))
  have HR0 := Lib.hid r0
  have Hs0 := Lib.hid hs0
  have IH := Lib.hid ih
  have LOW := Lib.hid (fun (z z' : World) (hz : But b z z') (hw : w.heap.size ≤ z.heap.size) => but_low (lo := lo) hz hlo (by omega))
  obtain ⟨R, hR⟩ : ∃ R, pEx d l = R := ⟨_, rfl⟩
  rw [hR]
  have HRr := Lib.hid hR
  have hdI : (d : Int) ≤ 8 := by omega
  clear h hix ht hv hW0 B0 r0 hs0 ih hR
  by_cases h35 : ∃ r, l = 35 :: r
  · obtain ⟨r, rfl⟩ := h35
    have hRv : R = (pIdx r).map (fun x => (.mk 1 x.1 (false, 0) [], x.2)) := by
      rw [← HRr.out]
      cases d <;> simp [pEx]
    have hrl : r.length ≤ 8388608 := by simp at hl; omega
    have HX := Lib.hid (skipped_yes HSc.out rfl)
    have HIr := Lib.hid HIx.out.cons
    by_cases hn : ∃ n, Lib.atoiAll (wordOf r) = .ok n
    · obtain ⟨n, hn⟩ := hn
      have hRv2 : R = some (.mk 1 n (false, 0) [], restOf r) := by rw [hRv]; unfold pIdx; rw [hn]; rfl
      have Hn := Lib.hid hn
      subst hRv2
      clear hRv hn HRr
      go_enter Tryz.func44, Tryz.ntmps44
      go_upto_region 1 with fail
      rw [HW0.out]
      go_wp2_with fail
      refine HX.out.mono ?_
      rintro e w1 ⟨rfl, h1, hb1, hz1⟩
      have H1 := Lib.hid h1
      have HB1 := Lib.hid (HB0.out.trans hb1)
      have HR1 := Lib.hid (HR0.out.only hb1 (by omega))
      clear h1 hb1 hz1
      go_wp2_with fail
      refine (index_yes H1.out HIr.out hrl Hn.out).mono ?_
      rintro e w2 ⟨rfl, h2, hb2⟩
      have H2 := Lib.hid h2
      have HB2 := Lib.hid (HB1.out.trans hb2)
      have HR2 := Lib.hid (HR1.out.only hb2 (by omega))
      clear h2 hb2
      go_wp2_with fail
      refine (column_ok n w2).mono ?_
      rintro e w3 ⟨rfl, hb3⟩
      have hrow := HR2.out.on hb3
      have H3 := Lib.hid (H2.out.on hb3)
      have HB3 := Lib.hid (HB2.out.below hb3)
      have c0 := hrow.cell 0
      have c1 := hrow.cell 1
      have c2 := hrow.cell 2
      have c3 := hrow.cell 3
      have c4 := hrow.cell 4
      have f0 := hrow.frozen 0
      have f1 := hrow.frozen 1
      have f2 := hrow.frozen 2
      have f3 := hrow.frozen 3
      have f4 := hrow.frozen 4
      have hl3 := hrow.lt
      clear hrow
      unfold feV
      go_wp2
      refine bodyPost_ret (v := feV ⟨1, n, (false, 0), ⟨none, 0, 0⟩⟩) (by simp [results, Tryz.results44, go_sem, feV, c0, c1, c2, c3, c4]) rfl ⟨_, rfl, ExW.leaf, ?_, ?_⟩
      · exact H3.out.only (set5 w3 w.heap.size _ _ _ _ _) (by omega)
      · exact HB3.out.step (set5 w3 w.heap.size _ _ _ _ _) fun i hi => .inr (by omega)
    · have hn : ∀ n, Lib.atoiAll (wordOf r) ≠ .ok n := fun n hn' => hn ⟨n, hn'⟩
      have hRv2 : R = none := by
        rw [hRv]
        unfold pIdx
        split
        · rename_i n he
          exact absurd he (hn n)
        · rfl
      have Hn := Lib.hid hn
      subst hRv2
      clear hRv hn HRr
      go_enter Tryz.func44, Tryz.ntmps44
      go_upto_region 1 with fail
      rw [HW0.out]
      go_wp2_with fail
      refine HX.out.mono ?_
      rintro e w1 ⟨rfl, h1, hb1, hz1⟩
      have H1 := Lib.hid h1
      have HB1 := Lib.hid (HB0.out.trans hb1)
      have HV1 := Lib.hid (HV.out.on (LOW.out W0 w1 hb1 (by have := Hs0.out; omega)))
      clear h1 hb1 hz1
      go_wp2_with fail
      refine (index_no H1.out HIr.out hrl Hn.out HV1.out hlo).mono ?_
      rintro e w2 ⟨rfl, hb2⟩
      exact ⟨rfl, rfl, HB1.out.trans hb2⟩
  have h35' : ∀ r, l ≠ 35 :: r := fun r hr => h35 ⟨r, hr⟩
  have HX := Lib.hid (skipped_no HSc.out h35')
  clear h35
  by_cases h40 : ∃ r, l = 40 :: r
  case neg =>
    have h40' : ∀ r, l ≠ 40 :: r := fun r hr => h40 ⟨r, hr⟩
    have hRv : R = pLeaf l := by
      rw [← HRr.out]
      cases l with
      | nil => cases d <;> simp [pEx]
      | cons c r =>
        have n1 : ¬ c = 35 := fun e => h35' r (by rw [e])
        have n2 : ¬ c = 40 := fun e => h40' r (by rw [e])
        cases d <;> simp [pEx, n1, n2]
    have H40 := Lib.hid h40'
    have hwl : (wordOf l).length ≤ 8388608 := by have := congrArg List.length (word_rest l); simp at this; omega
    have HRv := Lib.hid hRv
    clear h40 h40' h35' hRv HRr
    go_enter Tryz.func44, Tryz.ntmps44
    go_upto_region 1 with fail
    rw [HW0.out]
    go_wp2_with fail
    refine HX.out.mono ?_
    rintro e w1 ⟨rfl, h1, hb1, hz1⟩
    have H1 := Lib.hid h1
    have HB1 := Lib.hid (HB0.out.trans hb1)
    have HR1 := Lib.hid (HR0.out.only hb1 (by omega))
    have Hs1 := Lib.hid (show w1.heap.size = w.heap.size + 1 by rw [hz1]; exact Hs0.out)
    have HL1 := Lib.hid (LOW.out W0 w1 hb1 (by have := Hs0.out; omega))
    clear h1 hb1 hz1
    go_wp2_with fail
    refine (skipped_no H1.out H40.out).mono ?_
    rintro e w2 ⟨rfl, h2, hb2, hz2⟩
    have H2 := Lib.hid h2
    have HB2 := Lib.hid (HB1.out.trans hb2)
    have HR2 := Lib.hid (HR1.out.only hb2 (by omega))
    have Hs2 := Lib.hid (show w2.heap.size = w.heap.size + 1 by rw [hz2]; exact Hs1.out)
    have HL2 := Lib.hid (HL1.out.trans (LOW.out w1 w2 hb2 (by have := Hs1.out; omega)))
    clear h2 hb2 hz2
    go_wp2_with fail
    refine (word_ok H2.out HIx.out hl).mono ?_
    rintro e w3 ⟨rfl, h3, hb3⟩
    have H3 := Lib.hid h3
    have HB3 := Lib.hid (HB2.out.trans hb3)
    have HR3 := Lib.hid (HR2.out.only hb3 (by omega))
    have HL3 := Lib.hid (HL2.out.trans (LOW.out w2 w3 hb3 (by have := Hs2.out; omega)))
    have hz3 : w.heap.size + 1 ≤ w3.heap.size := by have := hb3.size; have := Hs2.out; omega
    clear h3 hb3
    go_wp2_with fail
    refine (decodeValue_ok (wordOf l) lo w3 hwl (HT.out.on HL3.out) (HV.out.on HL3.out) (by omega)).mono ?_
    rintro e w4 ⟨hb4, hp4⟩
    cases hpv : pVal (wordOf l) with
    | none =>
      rw [hpv] at hp4
      obtain rfl := hp4
      have hRn : R = none := by rw [HRv.out]; unfold pLeaf; rw [hpv]
      subst hRn
      have HB4 := Lib.hid (HB3.out.below hb4)
      clear hb4 hpv
      go_wp2
      exact ⟨rfl, rfl, HB4.out.alloc _⟩
    | some v =>
      rw [hpv] at hp4
      obtain rfl := hp4
      have hRn : R = some (.mk 2 0 v [], restOf l) := by rw [HRv.out]; unfold pLeaf; rw [hpv]
      subst hRn
      obtain ⟨W5, hW5⟩ : ∃ z, w4.alloc (.cells #[.bool v.1, .int .i64 v.2] 38) = z := ⟨_, rfl⟩
      have b5 : Below w4.heap.size w4 W5 := by rw [← hW5]; exact balloc (Below.refl _ _) _
      have r5 : Row W5 w4.heap.size 38 [.bool v.1, .int .i64 v.2] := by rw [← hW5]; exact Row.new _ _ _
      have HB5 := Lib.hid ((HB3.out.below hb4).below b5)
      have HR5 := Lib.hid ((HR3.out.on hb4).on b5)
      have H5 := Lib.hid ((H3.out.on hb4).on b5)
      have hc0 := r5.cell 0
      have hc1 := r5.cell 1
      have HW5 := Lib.hid hW5
      clear hb4 hpv hW5 b5 r5
      go_upto_region 5 with fail
      rw [HW5.out]
      go_wp2_with fail
      refine (constantI_ok v W5).mono ?_
      rintro e w6 ⟨rfl, hb6⟩
      have hrow := HR5.out.on hb6
      have H6 := Lib.hid (H5.out.on hb6)
      have HB6 := Lib.hid (HB5.out.below hb6)
      clear hb6 hc0 hc1
      have c0 := hrow.cell 0
      have c1 := hrow.cell 1
      have c2 := hrow.cell 2
      have c3 := hrow.cell 3
      have c4 := hrow.cell 4
      have f0 := hrow.frozen 0
      have f1 := hrow.frozen 1
      have f2 := hrow.frozen 2
      have f3 := hrow.frozen 3
      have f4 := hrow.frozen 4
      have hl3 := hrow.lt
      clear hrow
      unfold feV
      go_wp2
      refine bodyPost_ret (v := feV ⟨2, 0, v, ⟨none, 0, 0⟩⟩) (by simp [results, Tryz.results44, go_sem, feV, c0, c1, c2, c3, c4]) rfl ⟨_, rfl, ExW.leaf, ?_, ?_⟩
      · exact H6.out.only (set5 w6 w.heap.size _ _ _ _ _) (by omega)
      · exact HB6.out.step (set5 w6 w.heap.size _ _ _ _ _) fun i hi => .inr (by omega)
  obtain ⟨r, rfl⟩ := h40
  have hrl : r.length ≤ 8388608 := by simp at hl; omega
  have HIr := Lib.hid HIx.out.cons
  cases d with
  | zero =>
    have hRn : R = none := by rw [← HRr.out]; simp [pEx]
    subst hRn
    clear HRr h35'
    go_enter Tryz.func44, Tryz.ntmps44
    go_upto_region 1 with fail
    rw [HW0.out]
    go_wp2_with fail
    refine HX.out.mono ?_
    rintro e w1 ⟨rfl, h1, hb1, hz1⟩
    have H1 := Lib.hid h1
    have HB1 := Lib.hid (HB0.out.trans hb1)
    clear h1 hb1 hz1
    go_wp2_with fail
    refine (skipped_yes H1.out rfl).mono ?_
    rintro e w2 ⟨rfl, h2, hb2, hz2⟩
    have HB2 := Lib.hid (HB1.out.trans hb2)
    clear h2 hb2 hz2
    go_wp2
    exact ⟨rfl, rfl, HB2.out⟩
  | succ d =>
    have IHd := Lib.hid (IH.out d rfl)
    have hdd : ((d + 1 : Nat) : Int) = (d : Int) + 1 := by omega
    have hd0 : ((d : Int) + 1 == 0) = false := by
      rw [beq_eq_false_iff_ne]
      omega
    have hRv : R = (match kindOf opText 3 9 (wordOf r) with
      | some k => (pShut (pKids (pEx d) (kidsK k).toNat (restOf r))).map (fun x => (.mk k 0 (false, 0) x.1, x.2))
      | none => none) := by rw [← HRr.out]; simp [pEx]; rfl
    have HRv := Lib.hid hRv
    clear HRr h35' hRv IH
    rw [hdd] at hdI ⊢
    have hwd : IntKind.i64.wrap ((d : Int) + 1 - 1) = d := by rw [show (d : Int) + 1 - 1 = d by omega]; exact IntWalk.i64_in _ (by omega)
    have hwd2 : IntKind.i64.wrap (d : Int) = d := IntWalk.i64_in _ (by omega)
    go_enter Tryz.func44, Tryz.ntmps44
    go_upto_region 1 with fail
    rw [HW0.out]
    go_wp2_with fail
    refine HX.out.mono ?_
    rintro e w1 ⟨rfl, h1, hb1, hz1⟩
    have H1 := Lib.hid h1
    have HB1 := Lib.hid (HB0.out.trans hb1)
    have HR1 := Lib.hid (HR0.out.only hb1 (by omega))
    have Hs1 := Lib.hid (show w1.heap.size = w.heap.size + 1 by rw [hz1]; exact Hs0.out)
    have HL1 := Lib.hid (LOW.out W0 w1 hb1 (by have := Hs0.out; omega))
    clear h1 hb1 hz1
    go_wp2_with fail
    refine (skipped_yes H1.out rfl).mono ?_
    rintro e w2 ⟨rfl, h2, hb2, hz2⟩
    have H2 := Lib.hid h2
    have HB2 := Lib.hid (HB1.out.trans hb2)
    have HR2 := Lib.hid (HR1.out.only hb2 (by omega))
    have Hs2 := Lib.hid (show w2.heap.size = w.heap.size + 1 by rw [hz2]; exact Hs1.out)
    have HL2 := Lib.hid (HL1.out.trans (LOW.out w1 w2 hb2 (by have := Hs1.out; omega)))
    clear h2 hb2 hz2
    go_wp2_with fail
    refine (kind_expr H2.out HIr.out hrl).mono ?_
    rintro e w3 hp3
    unfold KindPost at hp3
    cases hk : kindOf opText 3 9 (wordOf r) with
    | none =>
      rw [hk] at hp3
      obtain ⟨rfl, hb3⟩ := hp3
      have hRn : R = none := by rw [HRv.out, hk]
      subst hRn
      exact ⟨rfl, rfl, HB2.out.trans hb3⟩
    | some k =>
      rw [hk] at hp3
      obtain ⟨rfl, h3, hb3⟩ := hp3
      have hkr := kindOf_range 9 3 k _ hk
      have hRv2 : R = (pShut (pKids (pEx d) (kidsK k).toNat (restOf r))).map (fun x => (.mk k 0 (false, 0) x.1, x.2)) := by rw [HRv.out, hk]
      obtain ⟨nk, hnk⟩ : ∃ nk, (kidsK k).toNat = nk := ⟨_, rfl⟩
      have hkk : kidsK k = nk ∧ nk ≤ 2 := by
        unfold kidsK at hnk ⊢
        rw [if_neg (by omega)] at hnk ⊢
        by_cases q : k = 10 ∨ k = 11
        · rw [if_pos q] at hnk ⊢; omega
        · rw [if_neg q, if_pos (by omega)] at hnk ⊢; omega
      rw [hnk] at hRv2
      have HRw := Lib.hid hRv2
      obtain ⟨W4, hW4⟩ : ∃ z, w3.alloc (.cells #[.int .i64 k, .int .i64 0, .bool false, .int .i64 0, .slice none 0 0] 40) = z := ⟨_, rfl⟩
      obtain ⟨ob, hob⟩ : ∃ n, w3.heap.size = n := ⟨_, rfl⟩
      have b4 : Below w3.heap.size w3 W4 := by rw [← hW4]; exact balloc (Below.refl _ _) _
      have r4 : Row W4 ob 40 [.int .i64 k, .int .i64 0, .bool false, .int .i64 0, .slice none 0 0] := by rw [← hW4, ← hob]; exact Row.new _ _ _
      have hs4 : W4.heap.size = ob + 1 := by rw [← hW4, ← hob]; simp
      have hobw : w.heap.size + 1 ≤ ob := by have := hb3.size; have := Hs2.out; omega
      have HB4 := Lib.hid ((HB2.out.trans hb3).below b4)
      have HR4 := Lib.hid ((HR2.out.only hb3 (by omega)).on b4)
      have H4 := Lib.hid (h3.on b4)
      have HL4 := Lib.hid ((HL2.out.trans (LOW.out w2 w3 hb3 (by have := Hs2.out; omega))).trans (b4.mono (by omega)))
      have HO4 := Lib.hid r4
      have Hs4 := Lib.hid hs4
      have Hob := Lib.hid hob
      have HW4 := Lib.hid hW4
      have HKn := Lib.hid (fun z => kidsOfKind_ok k z)
      rw [hkk.1] at HKn
      have HIr2 := Lib.hid HIr.out.rest
      have hrl2 : (restOf r).length ≤ 8388608 := Nat.le_trans (restOf_len r) hrl
      have k0 := r4.cell 0
      have hnk2 := hkk.2
      clear h3 hb3 hW4 b4 r4 hs4 hk hRv2 hnk hkk hob
      go_upto_region 11 with fail
      rw [HW4.out, Hob.out]
      go_wp2_with fail
      refine (HKn.out W4).mono ?_
      rintro e w5 ⟨rfl, rfl⟩
      clear k0
      go_wp2
      go_loopg [38] nk (fun g iv wr => ∃ (i : Nat) (A : Option Addr) (c : Nat) (es : List Ex) (lc : List UInt8), i ≤ nk ∧ g = nk - i ∧ iv = .int .i64 i ∧ es.length = i ∧ (∃ z, z ≤ wr.heap.size ∧ KdsW 40 (ob + 1) z wr (.slice A i c) es) ∧ Row wr ob 40 [.int .i64 k, .int .i64 0, .bool false, .int .i64 0, .slice A i c] ∧ Row wr w.heap.size 40 [.int .i64 0, .int .i64 0, .bool false, .int .i64 0, .slice none 0 0] ∧ Sc wr b lc ∧ But b w wr ∧ Below lo w wr ∧ (∃ a, restOf r = a ++ lc) ∧ ob + 1 ≤ wr.heap.size ∧
        pKids (pEx d) nk (restOf r) = (pKids (pEx d) (nk - i) lc).map (fun y => (es ++ y.1, y.2)))
      case atStart =>
        refine ⟨0, none, 0, [], restOf r, by omega, by omega, rfl, rfl, ⟨0, Nat.zero_le _, KdsW.nil⟩, HO4.out, HR4.out, H4.out, HB4.out, ?_, ⟨[], rfl⟩, by rw [Hs4.out]; omega, ?_⟩
        · exact (only_below (S := fun _ => False) (Below.refl _ w)).size |> fun _ => but_low HB4.out hlo (by omega)
        · simp
      case round =>
        obtain ⟨i, A, c, es, lc, hi, rfl, rfl, hel, ⟨zb, hzb, hkd⟩, hro, hrr, hsc, hb, hbl2, hta, hzw, hpk⟩ := hrel
        have HKd := Lib.hid hkd
        have HRo := Lib.hid hro
        have HRr := Lib.hid hrr
        have HScr := Lib.hid hsc
        have HB := Lib.hid hb
        have HBL := Lib.hid hbl2
        have HTA := Lib.hid hta
        have HPk := Lib.hid hpk
        have Hel := Lib.hid hel
        have hlol := hro.lt
        clear hkd hro hrr hsc hb hbl2 hta hpk hel
        have hlcl : lc.length ≤ 8388608 := by obtain ⟨a, ha⟩ := HTA.out; have := congrArg List.length ha; simp at this; omega
        by_cases hlt : i < nk
        · have hil : (i : Int) < (nk : Int) := by omega
          by_cases h32 : ∃ r2, lc = 32 :: r2
          case neg =>
            have h32' : ∀ r2, lc ≠ 32 :: r2 := fun r2 hr2 => h32 ⟨r2, hr2⟩
            have hRn : R = none := by
              rw [HRw.out, HPk.out, show nk - i = (nk - i - 1) + 1 by omega]
              unfold pKids
              cases lc with
              | nil => rfl
              | cons c0 r2 =>
                have : ¬ c0 = 32 := fun e => h32' r2 (by rw [e])
                simp [this, pShut]
            subst hRn
            clear h32
            go_wp2_with fail
            refine (skip_no HScr.out h32').mono ?_
            rintro e w6 ⟨rfl, hb6⟩
            exact ⟨rfl, rfl, HB.out.trans hb6⟩
          obtain ⟨r2, rfl⟩ := h32
          have hpk2 : pKids (pEx d) (nk - i) (32 :: r2) = (match pEx d r2 with
            | some (x, r') => (match pKids (pEx d) (nk - (i + 1)) r' with
              | some (xs, r'') => some (x :: xs, r'')
              | none => none)
            | none => none) := by
            rw [show nk - i = (nk - (i + 1)) + 1 by omega]
            rw [pKids]
            simp
            cases pEx d r2 with
            | none => rfl
            | some y =>
              dsimp only
              cases pKids (pEx d) (nk - (i + 1)) y.2 <;> rfl
          have HPk2 := Lib.hid hpk2
          clear hpk2
          go_wp2_with fail
          refine (skip_yes HScr.out rfl).mono ?_
          rintro e w6 ⟨rfl, h6, hb6, hz6⟩
          have H6 := Lib.hid h6
          have HB6 := Lib.hid (HB.out.trans hb6)
          have HBL6 := Lib.hid (HBL.out.trans (but_low hb6 hlo (by have := HB.out.size; omega)))
          have HRo6 := Lib.hid (HRo.out.only hb6 (by omega))
          have HRr6 := Lib.hid (HRr.out.only hb6 (by omega))
          have HKd6 := Lib.hid (HKd.out.only hb6 (fun j (hj : j = b) => show j < ob + 1 by omega))
          have hzw6 : ob + 1 ≤ w6.heap.size := by omega
          have HZ6 := Lib.hid (show zb ≤ w6.heap.size by omega)
          have hlol6 := HRo6.out.lt
          have HIr3 := Lib.hid (show Ix r2 by obtain ⟨a, ha⟩ := HTA.out; exact (HIr2.out.tail ha).cons)
          have hr2l : r2.length ≤ 8388608 := by simp at hlcl; omega
          clear h6 hb6 hz6
          go_wp2
          have SB := Lib.hid (fun (z : World) (hz : But b w6 z) => show z.cell? ⟨ob, 4, none⟩ = some (.slice A i c) from (HRo6.out.only hz (by omega)).cell 4)
          obtain ⟨u, hu⟩ : ∃ u, w6.drew = u := ⟨_, rfl⟩
          have Bu := Lib.hid (show Below w6.heap.size w6 u from hu ▸ (Below.refl _ _).drew)
          have Hu := Lib.hid hu
          have HBLW := Lib.hid (show Below lo W0 w6 from ⟨HBL6.out.os.trans HBW0.out.os.symm, HBL6.out.tape.trans HBW0.out.tape.symm, HBL6.out.output.trans HBW0.out.output.symm, by have := Hs0.out; omega, fun k hk => (HBL6.out.block k hk).trans (HBW0.out.block k hk).symm⟩)
          clear hu
          refine wp_region_g 9 (fun z => z.cell? ⟨ob, 4, none⟩ = some (.slice A i c)) (by kernel_rfl) ?_ (fun hHeld => ?_)
          · exact SB.out _ ((Only.refl (S := fun k => k = b) w6).drew)
          rw [Hu.out] at hHeld ⊢
          refine takeG (i := 0) (v := ?v1) rfl (by kernel_rfl) (by kernel_rfl) (by kernel_rfl) (by kernel_rfl) (fun _ _ _ h => h) (Or.inl ⟨by rfl, ?hy1⟩) (by assumption) ?_
          case hy1 => ((intro w' hSw; (try dsimp only at hSw); go_simp) <;> with_reducible rfl)
          try simp only [Act.put, List.setIfInBounds_toArray, List.set_cons_zero, List.set_cons_succ]
          refine takeG (i := 1) (v := ?v2) rfl (by kernel_rfl) (by kernel_rfl) (by kernel_rfl) (by kernel_rfl) (fun _ _ _ h => h) (Or.inl ⟨by rfl, ?hy2⟩) (by assumption) ?_
          case hy2 => ((intro w' hSw; (try dsimp only at hSw); go_simp) <;> with_reducible rfl)
          try simp only [Act.put, List.setIfInBounds_toArray, List.set_cons_zero, List.set_cons_succ]
          refine takeG (i := 2) (v := ?v3) rfl (by kernel_rfl) (by kernel_rfl) (by kernel_rfl) (by kernel_rfl) (fun _ _ _ h => h) (Or.inl ⟨by rfl, ?hy3⟩) (by assumption) ?_
          case hy3 => ((intro w' hSw; (try dsimp only at hSw); go_simp) <;> with_reducible rfl)
          try simp only [Act.put, List.setIfInBounds_toArray, List.set_cons_zero, List.set_cons_succ]
          refine takeG (i := 3) (v := ?v4) rfl (by kernel_rfl) (by kernel_rfl) (by kernel_rfl) (by kernel_rfl) (fun _ _ _ h => h) (Or.inl ⟨by rfl, ?hy4⟩) (by assumption) ?_
          case hy4 => ((intro w' hSw; (try dsimp only at hSw); go_simp) <;> with_reducible rfl)
          try simp only [Act.put, List.setIfInBounds_toArray, List.set_cons_zero, List.set_cons_succ]
          refine takeG (i := 4) (v := ?v5) rfl (by kernel_rfl) (by kernel_rfl) (by kernel_rfl) (by kernel_rfl) (fun _ _ _ h => h) (Or.inl ⟨by rfl, ?hy5⟩) (by assumption) ?_
          case hy5 => ((intro w' hSw; (try dsimp only at hSw); go_simp) <;> with_reducible rfl)
          try simp only [Act.put, List.setIfInBounds_toArray, List.set_cons_zero, List.set_cons_succ]
          refine wpAnyG_ready (rs := [5]) (by kernel_rfl) (by simp) ?_
          refine readyG rfl (fun K hK => ?_) AllReadyG.nil
          go_simp
          go_at_call 44
          refine (IHd.out b lo r2 u (H6.out.on Bu.out) HIr3.out hr2l (HT.out.on (show Below lo W0 u from (HBLW.out.trans (Bu.out.mono (by omega))))) (HV.out.on (show Below lo W0 u from (HBLW.out.trans (Bu.out.mono (by omega))))) hlo).mono ?_
          rintro e u1 hp
          unfold XPost at hp
          cases hpx : pEx d r2 with
          | none =>
            rw [hpx] at hp
            obtain ⟨rfl, hb1⟩ := hp
            have hRn : R = none := by rw [HRw.out, HPk.out, HPk2.out, hpx]; rfl
            subst hRn
            exact ⟨rfl, rfl, (HB6.out.below Bu.out).trans hb1⟩
          | some y =>
            obtain ⟨x, r3⟩ := y
            rw [hpx] at hp
            obtain ⟨f', he, hx, hsc1, hb1⟩ := hp
            unfold feV at he
            subst he
            have hb1 : But b u u1 := hb1
            have Bt1 := Lib.hid ((only_below (S := fun k => k = b) Bu.out).trans hb1)
            have HB1 := Lib.hid (HB6.out.trans Bt1.out)
            have HBL1 := Lib.hid (HBL6.out.trans (but_low Bt1.out hlo (by omega)))
            have X1 := Lib.hid hx
            have Sc1 := Lib.hid (show Sc u1 b r3 from hsc1)
            have hz0 := Bu.out.size
            have hz00 := HZ6.out
            have hz1 := hb1.size
            have HPx := Lib.hid hpx
            clear hb1 hx hsc1 hpx
            refine hK.out _ _ ?hS6 (fun hHeld => ?_)
            case hS6 => exact fun _ => SB.out _ Bt1.out
            replace hHeld := hHeld (by decide)
            clear hK K
            try simp only [Act.put, List.setIfInBounds_toArray, List.set_cons_zero, List.set_cons_succ]
            refine wpAnyG_ready (rs := [6]) (by kernel_rfl) (by simp) ?_
            refine readyG rfl (fun K hK => ?_) AllReadyG.nil
            obtain ⟨u2, hu2⟩ : ∃ z, u1.alloc (.cells #[.int .i64 f'.kind, .int .i64 f'.col, .bool f'.val.1, .int .i64 f'.val.2, .slice f'.sv.A f'.sv.n f'.sv.c] 40) = z := ⟨_, rfl⟩
            have hb2 : Below u1.heap.size u1 u2 := by rw [← hu2]; exact balloc (Below.refl _ _) _
            have hz2 : u2.heap.size = u1.heap.size + 1 := by rw [← hu2]; simp
            have S2 := Lib.hid (show Sl 5 feC u2 u2.heap.size (some ⟨u1.heap.size, 0, none⟩) [f'] by rw [← hu2]; exact Row.sl' (t := 40) feC_length ((Row.new u1 _ _).of rfl))
            have Bt2 := Lib.hid (Bt1.out.below hb2)
            have HB2 := Lib.hid (HB1.out.below hb2)
            have HBL2 := Lib.hid (HBL1.out.trans (hb2.mono (by omega)))
            have X2 := Lib.hid (X1.out.keep hb2.size fun k _ hl => hb2.block k hl)
            have Sc2 := Lib.hid (show Sc u2 b r3 from Sc1.out.on hb2)
            go_simp
            try rw [hu2]
            have Hu2 := Lib.hid hu2
            clear hu2 hb2
            refine hK.out _ _ ?hS7 (fun hHeld => ?_)
            case hS7 => exact fun _ => SB.out _ Bt2.out
            replace hHeld := hHeld (by decide)
            clear hK K
            try simp only [Act.put, List.setIfInBounds_toArray, List.set_cons_zero, List.set_cons_succ]
            refine wpAnyG_ready (rs := [7]) (by kernel_rfl) (by simp) ?_
            refine readyG rfl (fun K hK => ?_) AllReadyG.nil
            obtain ⟨fs, hfl, how, hfx⟩ := HKd6.out.only Bt2.out (fun j (hj : j = b) => show j < ob + 1 by omega)
            have hfli : fs.length = i := hfl.trans Hel.out
            obtain ⟨fs0, hfl0, how0, _⟩ := HKd6.out
            have X3 := Lib.hid (X2.out.mono (T := fun k => ob + 1 ≤ k ∧ zb ≤ k ∧ (Value.slice A i c).ownBlock ≠ some k) fun k hk1 hk => by
              refine ⟨by omega, by omega, fun e => ?_⟩
              have := (how0.ty k e).2.1
              omega)
            refine step_app2 rfl (.tmp 43) (.tmp 48) 23 rfl (ob + 1) 40 _ 5 56 feC Tryz.underlying23 zeroExT3 rfl (by decide) (by decide) feC_length feC_one _ fs rfl how (some ⟨u1.heap.size, 0, none⟩) 1 1 [f'] rfl rfl S2.out (by simp; omega) (by omega) ?_
            intro v' u3 hown hgr hob3
            have K3 := KdsW.snoc hfl hfx (by omega) X3.out hown hgr hob3
            obtain ⟨A3, c3, hv3, hc31, hc32⟩ := K3.shape
            have hti3 : (es ++ [x]).length = i + 1 := by have := Hel.out; simp; omega
            rw [hti3] at hv3 hc31
            subst hv3
            have hgo : ∀ k, (Value.slice A i c).ownBlock = some k → ob + 1 ≤ k := fun k hk => (how.ty k hk).1
            have hgb : ∀ k, k < ob + 1 → k < u2.heap.size → u3.heap[k]? = u2.heap[k]? := fun k hk hl => hgr.block k hl fun e => by have := hgo k e.symm; omega
            have rr := HRo6.out.only Bt2.out (by omega)
            have rr0 := HRr6.out.only Bt2.out (by omega)
            have r3o := rr.keep (hgb ob (by omega) rr.lt)
            have r03 := Lib.hid (rr0.keep (hgb w.heap.size (by omega) rr0.lt))
            have C3 : u3.cell? ⟨ob, 4, none⟩ = some (.slice A i c) := r3o.cell 4
            have F3 := r3o.frozen 4
            have HB3 := Lib.hid (HB2.out.grown hgr fun k hk => .inr (by have := hgo k hk; omega))
            have HBL3 := Lib.hid (HBL2.out.grown hgr (by omega) fun k hk => by have := hgo k hk; omega)
            have Sc3 := Lib.hid (show Sc u3 b r3 from Sc2.out.keep (hgb b (by omega) (by omega)))
            have Hr3' := Lib.hid r3o
            have K3' := Lib.hid K3
            have hgr3 := hgr.size
            have hl3 := r3o.lt
            clear K3 hown hgr hgo rr r3o rr0 how hfx hti3
            refine hK.out _ _ ?hS8 (fun hHeld => ?_)
            case hS8 => exact fun _ => C3
            replace hHeld := hHeld (by decide)
            clear hK K
            try simp only [Act.put, List.setIfInBounds_toArray, List.set_cons_zero, List.set_cons_succ]
            refine takeG (i := 8) (v := ?v9) rfl (by kernel_rfl) (by kernel_rfl) (by kernel_rfl) (by kernel_rfl) (fun _ _ _ h => h) (Or.inl ⟨by rfl, ?hy9⟩) (by assumption) ?_
            case hy9 => ((intro w' hSw; (try dsimp only at hSw); go_simp) <;> with_reducible rfl)
            try simp only [Act.put, List.setIfInBounds_toArray, List.set_cons_zero, List.set_cons_succ]
            refine wpAnyG_ready (rs := [9]) (by kernel_rfl) (by simp) ?_
            refine readyG rfl (fun K hK => ?_) AllReadyG.nil
            go_simp
            refine hK.out _ _ ?hS99 (fun hHeld => ?_)
            case hS99 => exact fun h => absurd rfl h
            clear hK K
            try simp only [Act.put, List.setIfInBounds_toArray, List.set_cons_zero, List.set_cons_succ]
            refine wpAnyG_done (by kernel_rfl) ?_ _
            go_wp2
            go_roundg (nk - (i + 1))
            case measure => omega
            case rel =>
              have hso := Only.set (S := fun k => k = ob) (p := ⟨ob, 4, none⟩) (Only.refl u3) (.inl rfl) (.slice A3 (i + 1) c3)
              have k4 := K3'.out.only hso (fun j (hj : j = ob) => show j < ob + 1 by omega)
              refine ⟨i + 1, A3, c3, es ++ [x], r3, by omega, by omega, by go_num, by have := Hel.out; simp; omega, ⟨_, by simp only [World.setCell, Array.size_modify]; exact hgr3, k4⟩, Hr3'.out.set 4 _, r03.out.only hso (show ¬ w.heap.size = ob by omega), Sc3.out.only hso (show ¬ b = ob by omega), HB3.out.step hso (fun j hj => .inr (by omega)), ?_, ?_, ?_, ?_⟩
              · exact HBL3.out.setCell (p := ⟨ob, 4, none⟩) (by show lo ≤ ob; omega) _
              · obtain ⟨a, ha⟩ := HTA.out
                obtain ⟨a2, ha2⟩ := pEx_tail d r2 x r3 HPx.out
                exact ⟨a ++ 32 :: a2, by rw [ha, ha2]; simp⟩
              · simp only [World.setCell, Array.size_modify]; omega
              · rw [HPk.out, HPk2.out, HPx.out]
                dsimp only
                cases pKids (pEx d) (nk - (i + 1)) r3 with
                | none => rfl
                | some z => simp
        · have hie : i = nk := by omega
          subst hie
          have hpk3 : pKids (pEx d) i (restOf r) = some (es, lc) := by rw [HPk.out, Nat.sub_self]; simp [pKids]
          have HPk3 := Lib.hid hpk3
          clear hpk3
          by_cases h41 : ∃ r2, lc = 41 :: r2
          case neg =>
            have h41' : ∀ r2, lc ≠ 41 :: r2 := fun r2 hr2 => h41 ⟨r2, hr2⟩
            have hRn : R = none := by
              rw [HRw.out, HPk3.out]
              cases lc with
              | nil => rfl
              | cons c0 r2 =>
                have : ¬ c0 = 41 := fun e => h41' r2 (by rw [e])
                simp [this, pShut]
            subst hRn
            clear h41
            go_wp2_with fail
            refine (skip_no HScr.out h41').mono ?_
            rintro e w6 ⟨rfl, hb6⟩
            exact ⟨rfl, rfl, HB.out.trans hb6⟩
          obtain ⟨r2, rfl⟩ := h41
          have hRn : R = some (.mk k 0 (false, 0) es, r2) := by rw [HRw.out, HPk3.out]; simp [pShut]
          subst hRn
          go_wp2_with fail
          refine (skip_yes HScr.out rfl).mono ?_
          rintro e w6 ⟨rfl, h6, hb6, hz6⟩
          have H6 := Lib.hid h6
          have HB6 := Lib.hid (HB.out.trans hb6)
          have hro := HRo.out.only hb6 (by omega)
          have hrow := HRr.out.only hb6 (by omega)
          have HKd6 := Lib.hid (HKd.out.only hb6 (fun j (hj : j = b) => show j < ob + 1 by omega))
          have a0 := hro.cell 0
          have a1 := hro.cell 1
          have a2 := hro.cell 2
          have a3 := hro.cell 3
          have a4 := hro.cell 4
          have c0 := hrow.cell 0
          have c1 := hrow.cell 1
          have c2 := hrow.cell 2
          have c3 := hrow.cell 3
          have c4 := hrow.cell 4
          have f0 := hrow.frozen 0
          have f1 := hrow.frozen 1
          have f2 := hrow.frozen 2
          have f3 := hrow.frozen 3
          have f4 := hrow.frozen 4
          have hl3 := hrow.lt
          clear h6 hb6 hz6 hro hrow
          go_wp2
          have hO := set5 w6 w.heap.size (.int .i64 k) (.int .i64 0) (.bool false) (.int .i64 0) (.slice A i c)
          refine bodyPost_ret (v := feV ⟨k, 0, (false, 0), ⟨A, i, c⟩⟩) (by simp [results, Tryz.results44, go_sem, feV, c0, c1, c2, c3, c4]) rfl ⟨_, rfl, ?_, ?_, ?_⟩
          · obtain ⟨A', c', hv, hc1, hc2⟩ := HKd6.out.shape
            rw [Hel.out] at hv hc1
            cases hv
            have t1 := HKd6.out.only hO (fun j (hj : j = w.heap.size) => show j < ob + 1 by omega)
            exact ExW.make t1 (fun q hq => by show w.heap.size ≤ q; omega) (by have := Hel.out; omega)
          · exact H6.out.only hO (by omega)
          · exact HB6.out.step hO fun j hj => .inr (by omega)

theorem expr_ok : ∀ d : Nat, d ≤ 8 → PX d
  | 0, h => expr_of 0 h fun d' hd => by omega
  | d + 1, h => expr_of (d + 1) h fun d' hd => by
    obtain rfl : d' = d := by omega
    exact expr_ok d' (by omega)
end Go.Proofs.YtmhlpjfijpomkaaGreatDoor
