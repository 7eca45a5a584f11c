/-
  Contracts: the reference's text of a plan (planNames, formatPlan, EncodePlan).
-/
import Derived.Test.YtmhlpjfijpomkaaGreatDoorProg
import Derived.Test.YtmhlpjfijpomkaaGreatDoorZqEnF
import Derived.Test.YtmhlpjfijpomkaaGreatDoorZqEnP
import Derived.Test.YtmhlpjfijpomkaaGreatDoorZqDcD
import Derived.Test.YtmhlpjfijpomkaaGreatDoorZqSzP
namespace Go.Proofs.YtmhlpjfijpomkaaGreatDoor
open Go.RowKit Go.Qo
set_option linter.unusedVariables false
set_option linter.unusedSimpArgs false

theorem plName_len (k : Int) : (plName k).length ≤ 8 := by
  unfold plName
  rw [List.getD_eq_getElem?_getD]
  cases h : plTexts[k.toNat]? with
  | none => simp
  | some l =>
    have hm : l ∈ plTexts := List.mem_of_getElem? h
    simp only [Option.getD_some]
    clear h
    revert l
    decide +kernel
theorem itoa_len0 {n : Int} (h0 : 0 ≤ n) (h1 : n < 1000000) : (Lib.itoa n).length ≤ 6 := by
  unfold Lib.itoa
  rw [if_neg (by omega)]
  exact dec_len9 5 n.toNat (by show n.toNat < 1000000; omega)
theorem colsText_len : ∀ (cs : List Int), (∀ c ∈ cs, 0 ≤ c ∧ c ≤ 1000) → (colsText cs).length ≤ 8 * cs.length
  | [], _ => by simp [colsText]
  | c :: cs, h => by
    have := colsText_len cs fun x hx => h x (List.mem_cons_of_mem _ hx)
    have hc := h c (List.mem_cons_self ..)
    have := itoa_len0 (n := c) (by omega) (by omega)
    simp [colsText]
    omega
theorem exsText_len : ∀ (es : List Ex), (∀ x ∈ es, ExOk 6 8 x) → (exsText es).length ≤ 4089 * es.length
  | [], _ => by simp [exsText]
  | x :: es, h => by
    have := exsText_len es fun y hy => h y (List.mem_cons_of_mem _ hy)
    have h1 := exText_len (by decide) 8 x (h x (List.mem_cons_self ..))
    simp [exsText]
    omega
theorem plsText_len {m : Nat} : ∀ (ps : List Pl), (∀ x ∈ ps, (plText x).length ≤ m) → (plsText ps).length ≤ (m + 1) * ps.length
  | [], _ => by simp [plsText]
  | x :: ps, h => by
    have := plsText_len ps fun y hy => h y (List.mem_cons_of_mem _ hy)
    have h1 := h x (List.mem_cons_self ..)
    simp [plsText, Nat.mul_add]
    omega
theorem tabText_len {k t : Int} (h : 0 ≤ t ∧ t ≤ 1000) : (tabText k t).length ≤ 7 := by
  unfold tabText
  split
  · have := itoa_len0 (n := t) (by omega) (by omega)
    simp; omega
  · simp
theorem plText_len : ∀ (d : Nat) (p : Pl), TxOk d p → (plText p).length + 4200 ≤ 25000 * 2 ^ d
  | d, p, h => by
    obtain ⟨ho, he, hc, ht, hx, hcs, hd, hks⟩ := txOk_iff.1 h
    obtain ⟨hk, h2, h3, h4, h5⟩ := ho
    have hp := Nat.one_le_two_pow (n := d)
    have l1 := plName_len p.kind
    have l2 := tabText_len (k := p.kind) ht
    have l3 := colsText_len p.cols hcs
    have l4 := exsText_len p.exprs hx
    have l5 : ∀ e, d = e + 1 → (plsText p.kids).length ≤ (25000 * 2 ^ e - 4200 + 1) * p.kids.length := fun e hde => plsText_len p.kids fun x hx => by
      have := plText_len (d - 1) x (hks x hx)
      rw [hde, Nat.add_sub_cancel] at this
      omega
    rw [plText_eq]
    simp only [List.length_cons, List.length_append, List.length_nil]
    unfold nkids at h2
    unfold nexprs at h3
    by_cases k1 : p.kind = 1
    · rw [if_pos k1] at h2
      rw [if_neg (by omega), if_neg (by omega)] at h3
      have hk0 : p.kids = [] := List.length_eq_zero_iff.1 (by omega)
      rw [hk0]
      simp only [plsText, List.length_nil]
      omega
    · rw [if_neg k1] at h2
      have hkp : 0 < p.kids.length := by split at h2 <;> omega
      obtain ⟨e, hde⟩ : ∃ e, d = e + 1 := ⟨d - 1, by have := hd hkp; omega⟩
      have l6 := l5 e hde
      have hp2 : 2 ^ d = 2 * 2 ^ e := by rw [hde, Nat.pow_succ]; omega
      have hpe := Nat.one_le_two_pow (n := e)
      by_cases k4 : p.kind = 4 ∨ p.kind = 5 ∨ p.kind = 6
      · rw [if_pos k4] at h2
        have hk2 : p.kids.length = 2 := by omega
        rw [hk2] at l6
        have he1 : p.exprs.length ≤ 1 := by
          split at h3
          · omega
          · rw [if_neg (by omega)] at h3; omega
        omega
      · rw [if_neg k4] at h2
        have hk1 : p.kids.length = 1 := by omega
        rw [hk1] at l6
        omega
termination_by _ x => SizeOf.sizeOf x
decreasing_by exact Pl.kid_lt hx

theorem planNames_ok (w : World) : Calls Tryz.prog 59 #[] w fun e w' => e = .returned (.slice (some ⟨w.heap.size, 0, none⟩) 9 9) ∧ Below w.heap.size w w' ∧ Row w' w.heap.size 9 (plTexts.map fun l => .string (bArr l)) := by
  go_enter Tryz.func59, Tryz.ntmps59
  go_wp2
  go_ret
  exact ⟨rfl, balloc (Below.refl _ _) _, (Row.new _ _ _).of rfl⟩
theorem plTexts_at : ∀ k : Fin 9, (plTexts.map fun l => Value.string (bArr l))[k.val]? = some (.string (bArr (plTexts.getD k.val []))) := fun k => by
  rw [List.getElem?_map, List.getD_eq_getElem?_getD, List.getElem?_eq_getElem (show k.val < plTexts.length from k.isLt)]
  rfl

def FmtP (p : Pl) : Prop := ∀ (f : FP) (d : Nat) (w : World), PlIn w w.heap.size f p → d ≤ 8 → TxOk d p →
  Calls Tryz.prog 27 #[fpV f] w fun e w' => e = .returned (.string (bArr (plText p))) ∧ Below w.heap.size w w'

set_option maxRecDepth 20000 in
set_option maxHeartbeats 4000000 in
theorem formatPlan_ok : ∀ p : Pl, FmtP p := Pl.ind fun p ih f d w h hd8 hx => by
  obtain ⟨a1, a2, ⟨e1, e2, e3⟩, ⟨i1, i2, i3⟩, ⟨j1, j2, j3⟩, hE, hC⟩ := h.flat
  obtain ⟨ho, te, tc, tt, tx, tcs, td, tks⟩ := txOk_iff.1 hx
  have hlen := plText_len d p hx
  have h2d : 25000 * 2 ^ d ≤ 6400000 := by
    have := Nat.pow_le_pow_right (show 0 < 2 by omega) hd8
    have e : 2 ^ 8 = 256 := rfl
    omega
  obtain ⟨T1, hT1⟩ : ∃ T, 40 :: (plName p.kind ++ tabText p.kind p.table) = T := ⟨_, rfl⟩
  obtain ⟨T2, hT2⟩ : ∃ T, T1 ++ colsText p.cols = T := ⟨_, rfl⟩
  obtain ⟨T3, hT3⟩ : ∃ T, T2 ++ exsText p.exprs = T := ⟨_, rfl⟩
  have htx : plText p = T3 ++ plsText p.kids ++ [41] := by rw [plText_eq, ← hT3, ← hT2, ← hT1]; simp
  have hl3 : T3.length + (plsText p.kids).length + 1 ≤ 6400000 := by have := congrArg List.length htx; simp at this; omega
  have hl2 : T2.length + (exsText p.exprs).length ≤ 6400000 := by have := congrArg List.length hT3; simp at this; omega
  have hl1 : T1.length + (colsText p.cols).length ≤ 6400000 := by have := congrArg List.length hT2; simp at this; omega
  obtain ⟨kn, hkn⟩ := Int.eq_ofNat_of_zero_le (show 0 ≤ p.kind by have := ho.1; omega)
  have hk9 : kn < 9 := by have := ho.1; omega
  obtain ⟨W1, hW1⟩ : ∃ z, w.alloc (.cells #[.int .i64 kn, .int .i64 p.table, .slice f.es.A p.exprs.length f.es.c, .slice f.cs.A p.cols.length f.cs.c, .slice f.ks.A p.kids.length f.ks.c] 26) = z := ⟨_, rfl⟩
  have B1 : Below w.heap.size w W1 := by rw [← hW1]; exact balloc (Below.refl _ _) _
  have r1 : Row W1 w.heap.size 26 [.int .i64 kn, .int .i64 p.table, .slice f.es.A p.exprs.length f.es.c, .slice f.cs.A p.cols.length f.cs.c, .slice f.ks.A p.kids.length f.ks.c] := by rw [← hW1]; exact Row.new _ _ _
  have hz1 : w.heap.size < W1.heap.size := r1.lt
  have HE := Lib.hid (hE.on B1)
  have HC := Lib.hid (hC.on B1)
  have HK := Lib.hid (plKids_in h |>.on B1)
  have HI := Lib.hid ih
  have HB1 := Lib.hid B1
  have HW1 := Lib.hid hW1
  have Hr1 := Lib.hid r1
  have HT := Lib.hid (And.intro (And.intro te (And.intro tc (And.intro tt trivial))) (And.intro tx (And.intro tcs (And.intro td tks))))
  have Htx := Lib.hid htx
  have HL := Lib.hid (And.intro hl1 (And.intro hl2 hl3))
  have HTT := Lib.hid (And.intro hT1 (And.intro hT2 hT3))
  have hm1 : p.exprs.length ≤ maxLen := by omega
  have hm2 : p.cols.length ≤ maxLen := by omega
  have hm3 : p.kids.length ≤ maxLen := by omega
  unfold maxLen at hm1 hm2 hm3
  have c0 : W1.cell? ⟨w.heap.size, 0, none⟩ = some (.int .i64 kn) := r1.cell 0
  have hop : plName p.kind = plTexts.getD kn [] := by unfold plName; rw [hkn]; rfl
  have hol := plName_len p.kind
  obtain ⟨So, hSo⟩ : ∃ S, bArr (plName p.kind) = S := ⟨_, rfl⟩
  obtain ⟨S0, hS0⟩ : ∃ S, bArr (40 :: plName p.kind) = S := ⟨_, rfl⟩
  obtain ⟨S1, hS1⟩ : ∃ S, bArr T1 = S := ⟨_, rfl⟩
  obtain ⟨R, hR⟩ : ∃ S, bArr (plText p) = S := ⟨_, rfl⟩
  have hat := plTexts_at ⟨kn, hk9⟩
  rw [show plTexts.getD (⟨kn, hk9⟩ : Fin 9).val [] = plName p.kind from hop.symm, hSo] at hat
  have hadd := sAdd (A := ⟨#[40]⟩) (x := [40]) rfl hSo hS0 rfl (by simp) (by omega)
  have ha1 := hadd.1
  have ha2 := hadd.2
  have HS0 := Lib.hid hS0
  have HS1 := Lib.hid hS1
  have HR := Lib.hid hR
  have HN := Lib.hid (fun z => planNames_ok z)
  have Hat := Lib.hid hat
  have Hkn := Lib.hid hkn
  have hk9I : (kn : Int) < 9 := by omega
  unfold fpV
  rw [a1, a2, e1, i1, j1, hR, hkn]
  have Hol := Lib.hid hol
  clear h ih hE hC B1 r1 hW1 a1 a2 e1 e2 e3 i1 i2 i3 j1 j2 j3 hadd hSo hS0 hS1 hR hat hop hol hx ho te tc tt tx tcs td tks hlen h2d hT1 hT2 hT3 htx hl1 hl2 hl3 hkn
  go_enter Tryz.func27, Tryz.ntmps27
  go_upto_region 1 with fail
  rw [HW1.out]
  obtain ⟨u, hu⟩ : ∃ u, W1.drew = u := ⟨_, rfl⟩
  have Bu : Hid (Below W1.heap.size W1 u) := Lib.hid (hu ▸ (Below.refl _ _).drew)
  have Hu := Lib.hid hu
  clear hu
  refine wp_region_held_drew (S := fun z => z.cell? ⟨w.heap.size, 0, none⟩ = some (.int .i64 kn)) (by kernel_rfl) ?_ (fun hHeld => ?_)
  · exact c0
  rw [Hu.out] at hHeld ⊢
  refine takeL (i := 1) (v := ?v1) rfl (by kernel_rfl) (by kernel_rfl) (by kernel_rfl) (fun _ _ _ h => h) (Or.inl ⟨by rfl, ?hy1⟩) (by assumption) ?_
  case hy1 => ((intro w' hSw; (try dsimp only at hSw); go_simp) <;> with_reducible rfl)
  try simp only [Act.put, List.setIfInBounds_toArray, List.set_cons_zero, List.set_cons_succ]
  refine takeL (i := 2) (v := ?v2) rfl (by kernel_rfl) (by kernel_rfl) (by kernel_rfl) (fun _ _ _ h => h) (Or.inl ⟨by rfl, ?hy2⟩) (by assumption) ?_
  case hy2 => ((intro w' hSw; (try dsimp only at hSw); go_simp) <;> with_reducible rfl)
  try simp only [Act.put, List.setIfInBounds_toArray, List.set_cons_zero, List.set_cons_succ]
  refine wpAnyH_ready (rs := [0]) (by kernel_rfl) (by simp) ?_
  refine readyL rfl (fun K hK => ?_) AllReadyH.nil
  go_simp
  go_at_call 59
  refine (HN.out u).mono ?_
  rintro e u1 ⟨rfl, hb1, hrow1⟩
  have B2' : Hid (Below W1.heap.size W1 u1) := Lib.hid (bch Bu.out hb1)
  have Hc2 : Hid (u1.cell? ⟨w.heap.size, 0, none⟩ = some (.int .i64 kn)) := Lib.hid ((B2'.out.cell (p := ⟨_, _, none⟩) hz1).trans c0)
  have ck : u1.cell? ⟨u.heap.size, kn, none⟩ = some (.string So) := (hrow1.cell kn).trans Hat.out
  clear hb1 hrow1
  refine hK.out _ _ ?hS1 (fun hHeld => ?_)
  case hS1 => exact Hc2.out
  clear hK K
  try simp only [Act.put, List.setIfInBounds_toArray, List.set_cons_zero, List.set_cons_succ]
  refine takeL (i := 3) (v := ?v3) rfl (by kernel_rfl) (by kernel_rfl) (by kernel_rfl) (fun _ _ _ h => h) (Or.inl ⟨by rfl, ?hy3⟩) (by assumption) ?_
  case hy3 => ((intro w' hSw; (try dsimp only at hSw); go_simp) <;> with_reducible rfl)
  try simp only [Act.put, List.setIfInBounds_toArray, List.set_cons_zero, List.set_cons_succ]
  refine wpAnyH_ready (rs := [4]) (by kernel_rfl) (by simp) ?_
  refine readyL rfl (fun K hK => ?_) AllReadyH.nil
  go_simp
  refine hK.out _ _ ?hS2 (fun hHeld => ?_)
  case hS2 => exact Hc2.out
  clear hK K
  try simp only [Act.put, List.setIfInBounds_toArray, List.set_cons_zero, List.set_cons_succ]
  refine takeL (i := 5) (v := ?v5) rfl (by kernel_rfl) (by kernel_rfl) (by kernel_rfl) (fun _ _ _ h => h) (Or.inl ⟨by rfl, ?hy5⟩) (by assumption) ?_
  case hy5 => ((intro w' hSw; (try dsimp only at hSw); go_simp) <;> with_reducible rfl)
  try simp only [Act.put, List.setIfInBounds_toArray, List.set_cons_zero, List.set_cons_succ]
  refine takeL (i := 6) (v := ?v6) rfl (by kernel_rfl) (by kernel_rfl) (by kernel_rfl) (fun _ _ _ h => h) (Or.inl ⟨by rfl, ?hy6⟩) (by assumption) ?_
  case hy6 => ((intro w' hSw; (try dsimp only at hSw); go_simp) <;> with_reducible rfl)
  try simp only [Act.put, List.setIfInBounds_toArray, List.set_cons_zero, List.set_cons_succ]
  refine wpAnyH_done (by kernel_rfl) ?_ _
  have Hr2 := Lib.hid (Hr1.out.on B2'.out)
  have d0 := Hc2.out
  clear c0 ck ha1 ha2 hHeld HN Hat
  by_cases hk1 : kn = 1
  · subst hk1
    have d1 := Hr2.out.cell 1
    obtain ⟨Sx, hSx⟩ : ∃ S, bArr (40 :: plName p.kind ++ [32]) = S := ⟨_, rfl⟩
    have htr := HT.out.1.2.2.1
    have hF := formatInt_ok p.table u1 (by omega) (by omega)
    have hfl := itoa_len0 (n := p.table) (by omega) (by omega)
    obtain ⟨Sk, hSk⟩ : ∃ S, bArr (Lib.itoa p.table) = S := ⟨_, rfl⟩
    have had1 := sAdd (B := ⟨#[32]⟩) (y := [32]) HS0.out rfl hSx rfl (by have := Hol.out; simp; omega) (by simp)
    have had2 := sAdd hSx hSk HS1.out (by rw [← HTT.out.1, Hkn.out]; simp [tabText]) (by have := Hol.out; simp; omega) (by omega)
    obtain ⟨ha1, ha2⟩ := had1
    obtain ⟨ha3, ha4⟩ := had2
    rw [hSk] at hF
    have HF := Lib.hid hF
    clear hF hSx hSk htr hfl
    go_wp2_with fail
    refine HF.out.mono ?_
    rintro e w2 ⟨rfl, hb2⟩
    have HU := Lib.hid (bch B2'.out hb2)
    clear hb2 d0 d1
    go_wp2
    clear ha1 ha2 ha3 ha4
    go_loopg [3, 4] p.cols.length (fun g ov iv wr => ∃ i : Nat, i ≤ p.cols.length ∧ g = p.cols.length - i ∧ iv = .int .i64 i ∧ ov = .string (bArr (T1 ++ colsText (p.cols.take i))) ∧ Below W1.heap.size W1 wr)
    case atStart => exact ⟨0, by omega, by omega, rfl, by rw [← HS1.out]; simp [colsText], HU.out⟩
    case round =>
      obtain ⟨i, hi, rfl, rfl, rfl, hb⟩ := hrel
      have HB := Lib.hid hb
      have c3 := (Hr1.out.on hb).cell 3
      have hct : (colsText (p.cols.take i)).length ≤ (colsText p.cols).length := by
        have e : colsText p.cols = colsText (p.cols.take i) ++ colsText (p.cols.drop i) := by rw [← colsText_append, List.take_append_drop]
        rw [e]; simp
      have hL := HL.out.1
      clear hb
      by_cases hlt : i < p.cols.length
      · obtain ⟨b1, o1, hA, hB1, hcell⟩ := (HC.out.on HB.out).at_ hlt
        have hcell0 : wr.cell? ⟨b1, o1 + i, none⟩ = some (.int .i64 p.cols[i]) := by simpa using hcell 0 _ rfl
        have hil : (i : Int) < (p.cols.length : Int) := by omega
        have hcr := HT.out.2.2.1 _ (List.getElem_mem hlt)
        have hF := formatInt_ok p.cols[i] wr (by omega) (by omega)
        have hfl := itoa_len0 (n := p.cols[i]) (by omega) (by omega)
        obtain ⟨Sa, hSa⟩ : ∃ S, bArr (T1 ++ colsText (p.cols.take i)) = S := ⟨_, rfl⟩
        obtain ⟨Sb, hSb⟩ : ∃ S, bArr (T1 ++ colsText (p.cols.take i) ++ [32, 35]) = S := ⟨_, rfl⟩
        obtain ⟨Sk, hSk⟩ : ∃ S, bArr (Lib.itoa p.cols[i]) = S := ⟨_, rfl⟩
        obtain ⟨Sc, hSc⟩ : ∃ S, bArr (T1 ++ colsText (p.cols.take (i + 1))) = S := ⟨_, rfl⟩
        have had1 := sAdd (B := ⟨#[32, 35]⟩) (y := [32, 35]) hSa rfl hSb rfl (by simp; omega) (by simp)
        have had2 := sAdd hSb hSk hSc (by rw [List.take_succ_eq_append_getElem hlt, colsText_snoc]; simp) (by simp; omega) (by omega)
        obtain ⟨ha1, ha2⟩ := had1
        obtain ⟨ha3, ha4⟩ := had2
        rw [hSk] at hF
        have HF := Lib.hid hF
        have HSc := Lib.hid hSc
        rw [hA] at c3
        rw [hSa]
        clear hF hSa hSb hSk hSc hA hct hL hcr hfl hcell
        go_wp2_with fail
        refine HF.out.mono ?_
        rintro e w5 ⟨rfl, hb5⟩
        go_wp2
        go_roundg (p.cols.length - (i + 1))
        case measure => omega
        case rel => exact ⟨i + 1, by omega, rfl, by go_num, by rw [HSc.out], bch HB.out hb5⟩
      · have hfin : p.cols.take i = p.cols := List.take_of_length_le (by omega)
        rw [hfin, HTT.out.2.1]
        have Hx1 := Lib.hid HB.out
        clear hfin hct hL
        go_wp2
        clear c3
        go_loopg [3, 5] p.exprs.length (fun g ov iv wr => ∃ i : Nat, i ≤ p.exprs.length ∧ g = p.exprs.length - i ∧ iv = .int .i64 i ∧ ov = .string (bArr (T2 ++ exsText (p.exprs.take i))) ∧ Below W1.heap.size W1 wr)
        case atStart => exact ⟨0, by omega, by omega, rfl, by simp [exsText], Hx1.out⟩
        case round =>
          clear hlt HB hi
          obtain ⟨i, hi, rfl, rfl, rfl, hb⟩ := hrel
          have HB := Lib.hid hb
          have c2 := (Hr1.out.on hb).cell 2
          have hct : (exsText (p.exprs.take i)).length ≤ (exsText p.exprs).length := by
            have e : exsText p.exprs = exsText (p.exprs.take i) ++ exsText (p.exprs.drop i) := by rw [← exsText_append, List.take_append_drop]
            rw [e]; simp
          have hL := HL.out.2.1
          clear hb
          by_cases hlt : i < p.exprs.length
          · obtain ⟨b1, o1, g, hA, hB1, ⟨g0, g1, g2, g3, g4⟩, hg⟩ := (HE.out.on HB.out).at_ hlt
            have hil : (i : Int) < (p.exprs.length : Int) := by omega
            have hok := HT.out.2.1 _ (List.getElem_mem hlt)
            have hX0 := formatExpr_ok _ g 8 _ hg (by omega) hok
            have hkl1 := exText_len (by decide) 8 _ hok
            obtain ⟨Sa, hSa⟩ : ∃ S, bArr (T2 ++ exsText (p.exprs.take i)) = S := ⟨_, rfl⟩
            obtain ⟨Sb, hSb⟩ : ∃ S, bArr (T2 ++ exsText (p.exprs.take i) ++ [32]) = S := ⟨_, rfl⟩
            obtain ⟨Sk, hSk⟩ : ∃ S, bArr (exText p.exprs[i]) = S := ⟨_, rfl⟩
            obtain ⟨Sc, hSc⟩ : ∃ S, bArr (T2 ++ exsText (p.exprs.take (i + 1))) = S := ⟨_, rfl⟩
            have had1 := sAdd (B := ⟨#[32]⟩) (y := [32]) hSa rfl hSb rfl (by simp; omega) (by simp)
            have had2 := sAdd hSb hSk hSc (by rw [List.take_succ_eq_append_getElem hlt, exsText_snoc]; simp) (by simp; omega) (by omega)
            obtain ⟨ha1, ha2⟩ := had1
            obtain ⟨ha3, ha4⟩ := had2
            rw [hSk] at hX0
            unfold feV at hX0
            have HX := Lib.hid hX0
            have HSc := Lib.hid hSc
            rw [hA] at c2
            rw [hSa]
            clear hX0 hok hkl1 hSa hSb hSk hSc hg hA hct hL
            go_wp2_with fail
            refine HX.out.mono ?_
            rintro e w5 ⟨rfl, hb5⟩
            go_wp2
            go_roundg (p.exprs.length - (i + 1))
            case measure => omega
            case rel => exact ⟨i + 1, by omega, rfl, by go_num, by rw [HSc.out], bch HB.out hb5⟩
          · have hfin : p.exprs.take i = p.exprs := List.take_of_length_le (by omega)
            rw [hfin, HTT.out.2.2]
            have Hx2 := Lib.hid HB.out
            clear hfin hct hL
            go_wp2
            clear c2
            go_loopg [3, 6] p.kids.length (fun g ov iv wr => ∃ i : Nat, i ≤ p.kids.length ∧ g = p.kids.length - i ∧ iv = .int .i64 i ∧ ov = .string (bArr (T3 ++ plsText (p.kids.take i))) ∧ Below W1.heap.size W1 wr)
            case atStart => exact ⟨0, by omega, by omega, rfl, by simp [plsText], Hx2.out⟩
            case round =>
              clear hlt HB hi
              obtain ⟨i, hi, rfl, rfl, rfl, hb⟩ := hrel
              have HB := Lib.hid hb
              have c4 := (Hr1.out.on hb).cell 4
              have hct : (plsText (p.kids.take i)).length ≤ (plsText p.kids).length := by
                have e : plsText p.kids = plsText (p.kids.take i) ++ plsText (p.kids.drop i) := by rw [← plsText_append, List.take_append_drop]
                rw [e]; simp
              have hL := HL.out.2.2
              clear hb
              by_cases hlt : i < p.kids.length
              · obtain ⟨b1, o1, g, hA, hB1, ⟨g0, g1, g2, g3, g4⟩, hg⟩ := (HK.out.on HB.out).at_ hlt
                have hil : (i : Int) < (p.kids.length : Int) := by omega
                have hmem := List.getElem_mem hlt
                have hd0 : 0 < d := HT.out.2.2.2.1 (by omega)
                have hok := HT.out.2.2.2.2 _ hmem
                have hX0 := HI.out _ hmem g (d - 1) _ hg (by omega) hok
                have hkl1 : (plText p.kids[i]).length ≤ 6400000 := by
                  have h1 := plText_len _ _ hok
                  have h2 := Nat.pow_le_pow_right (show 0 < 2 by omega) (show d - 1 ≤ 8 by omega)
                  have e : 2 ^ 8 = 256 := rfl
                  omega
                obtain ⟨Sa, hSa⟩ : ∃ S, bArr (T3 ++ plsText (p.kids.take i)) = S := ⟨_, rfl⟩
                obtain ⟨Sb, hSb⟩ : ∃ S, bArr (T3 ++ plsText (p.kids.take i) ++ [32]) = S := ⟨_, rfl⟩
                obtain ⟨Sk, hSk⟩ : ∃ S, bArr (plText p.kids[i]) = S := ⟨_, rfl⟩
                obtain ⟨Sc, hSc⟩ : ∃ S, bArr (T3 ++ plsText (p.kids.take (i + 1))) = S := ⟨_, rfl⟩
                have had1 := sAdd (B := ⟨#[32]⟩) (y := [32]) hSa rfl hSb rfl (by simp; omega) (by simp)
                have had2 := sAdd hSb hSk hSc (by rw [List.take_succ_eq_append_getElem hlt, plsText_snoc]; simp) (by simp; omega) (by omega)
                obtain ⟨ha1, ha2⟩ := had1
                obtain ⟨ha3, ha4⟩ := had2
                rw [hSk] at hX0
                unfold fpV at hX0
                have HX := Lib.hid hX0
                have HSc := Lib.hid hSc
                rw [hA] at c4
                rw [hSa]
                clear hX0 hok hkl1 hSa hSb hSk hSc hg hA hct hL hmem
                go_wp2_with fail
                refine HX.out.mono ?_
                rintro e w5 ⟨rfl, hb5⟩
                go_wp2
                go_roundg (p.kids.length - (i + 1))
                case measure => omega
                case rel => exact ⟨i + 1, by omega, rfl, by go_num, by rw [HSc.out], bch HB.out hb5⟩
              · have hfin : p.kids.take i = p.kids := List.take_of_length_le (by omega)
                rw [hfin]
                obtain ⟨Sa, hSa⟩ : ∃ S, bArr (T3 ++ plsText p.kids) = S := ⟨_, rfl⟩
                have had := sAdd (B := ⟨#[41]⟩) (y := [41]) hSa rfl HR.out Htx.out (by simp; omega) (by simp)
                obtain ⟨ha1, ha2⟩ := had
                rw [hSa]
                clear hSa hct hL hfin
                go_wp2
                go_ret
                exact ⟨rfl, bch HB1.out HB.out⟩
  · skip
    have hk1I : ((kn : Int) == 1) = false := by
      rw [beq_eq_false_iff_ne]
      omega
    have eS : S0 = S1 := by
      rw [← HS0.out, ← HS1.out, ← HTT.out.1]
      unfold tabText
      rw [if_neg (by have := Hkn.out; omega)]
      simp
    have HS1' := Lib.hid HS1.out
    clear HS0
    subst eS
    go_wp2
    clear d0
    go_loopg [3, 4] p.cols.length (fun g ov iv wr => ∃ i : Nat, i ≤ p.cols.length ∧ g = p.cols.length - i ∧ iv = .int .i64 i ∧ ov = .string (bArr (T1 ++ colsText (p.cols.take i))) ∧ Below W1.heap.size W1 wr)
    case atStart => exact ⟨0, by omega, by omega, rfl, by rw [← HS1.out]; simp [colsText], B2'.out⟩
    case round =>
      obtain ⟨i, hi, rfl, rfl, rfl, hb⟩ := hrel
      have HB := Lib.hid hb
      have c3 := (Hr1.out.on hb).cell 3
      have hct : (colsText (p.cols.take i)).length ≤ (colsText p.cols).length := by
        have e : colsText p.cols = colsText (p.cols.take i) ++ colsText (p.cols.drop i) := by rw [← colsText_append, List.take_append_drop]
        rw [e]; simp
      have hL := HL.out.1
      clear hb
      by_cases hlt : i < p.cols.length
      · obtain ⟨b1, o1, hA, hB1, hcell⟩ := (HC.out.on HB.out).at_ hlt
        have hcell0 : wr.cell? ⟨b1, o1 + i, none⟩ = some (.int .i64 p.cols[i]) := by simpa using hcell 0 _ rfl
        have hil : (i : Int) < (p.cols.length : Int) := by omega
        have hcr := HT.out.2.2.1 _ (List.getElem_mem hlt)
        have hF := formatInt_ok p.cols[i] wr (by omega) (by omega)
        have hfl := itoa_len0 (n := p.cols[i]) (by omega) (by omega)
        obtain ⟨Sa, hSa⟩ : ∃ S, bArr (T1 ++ colsText (p.cols.take i)) = S := ⟨_, rfl⟩
        obtain ⟨Sb, hSb⟩ : ∃ S, bArr (T1 ++ colsText (p.cols.take i) ++ [32, 35]) = S := ⟨_, rfl⟩
        obtain ⟨Sk, hSk⟩ : ∃ S, bArr (Lib.itoa p.cols[i]) = S := ⟨_, rfl⟩
        obtain ⟨Sc, hSc⟩ : ∃ S, bArr (T1 ++ colsText (p.cols.take (i + 1))) = S := ⟨_, rfl⟩
        have had1 := sAdd (B := ⟨#[32, 35]⟩) (y := [32, 35]) hSa rfl hSb rfl (by simp; omega) (by simp)
        have had2 := sAdd hSb hSk hSc (by rw [List.take_succ_eq_append_getElem hlt, colsText_snoc]; simp) (by simp; omega) (by omega)
        obtain ⟨ha1, ha2⟩ := had1
        obtain ⟨ha3, ha4⟩ := had2
        rw [hSk] at hF
        have HF := Lib.hid hF
        have HSc := Lib.hid hSc
        rw [hA] at c3
        rw [hSa]
        clear hF hSa hSb hSk hSc hA hct hL hcr hfl hcell
        go_wp2_with fail
        refine HF.out.mono ?_
        rintro e w5 ⟨rfl, hb5⟩
        go_wp2
        go_roundg (p.cols.length - (i + 1))
        case measure => omega
        case rel => exact ⟨i + 1, by omega, rfl, by go_num, by rw [HSc.out], bch HB.out hb5⟩
      · have hfin : p.cols.take i = p.cols := List.take_of_length_le (by omega)
        rw [hfin, HTT.out.2.1]
        have Hx1 := Lib.hid HB.out
        clear hfin hct hL
        go_wp2
        clear c3
        go_loopg [3, 5] p.exprs.length (fun g ov iv wr => ∃ i : Nat, i ≤ p.exprs.length ∧ g = p.exprs.length - i ∧ iv = .int .i64 i ∧ ov = .string (bArr (T2 ++ exsText (p.exprs.take i))) ∧ Below W1.heap.size W1 wr)
        case atStart => exact ⟨0, by omega, by omega, rfl, by simp [exsText], Hx1.out⟩
        case round =>
          clear hlt HB hi
          obtain ⟨i, hi, rfl, rfl, rfl, hb⟩ := hrel
          have HB := Lib.hid hb
          have c2 := (Hr1.out.on hb).cell 2
          have hct : (exsText (p.exprs.take i)).length ≤ (exsText p.exprs).length := by
            have e : exsText p.exprs = exsText (p.exprs.take i) ++ exsText (p.exprs.drop i) := by rw [← exsText_append, List.take_append_drop]
            rw [e]; simp
          have hL := HL.out.2.1
          clear hb
          by_cases hlt : i < p.exprs.length
          · obtain ⟨b1, o1, g, hA, hB1, ⟨g0, g1, g2, g3, g4⟩, hg⟩ := (HE.out.on HB.out).at_ hlt
            have hil : (i : Int) < (p.exprs.length : Int) := by omega
            have hok := HT.out.2.1 _ (List.getElem_mem hlt)
            have hX0 := formatExpr_ok _ g 8 _ hg (by omega) hok
            have hkl1 := exText_len (by decide) 8 _ hok
            obtain ⟨Sa, hSa⟩ : ∃ S, bArr (T2 ++ exsText (p.exprs.take i)) = S := ⟨_, rfl⟩
            obtain ⟨Sb, hSb⟩ : ∃ S, bArr (T2 ++ exsText (p.exprs.take i) ++ [32]) = S := ⟨_, rfl⟩
            obtain ⟨Sk, hSk⟩ : ∃ S, bArr (exText p.exprs[i]) = S := ⟨_, rfl⟩
            obtain ⟨Sc, hSc⟩ : ∃ S, bArr (T2 ++ exsText (p.exprs.take (i + 1))) = S := ⟨_, rfl⟩
            have had1 := sAdd (B := ⟨#[32]⟩) (y := [32]) hSa rfl hSb rfl (by simp; omega) (by simp)
            have had2 := sAdd hSb hSk hSc (by rw [List.take_succ_eq_append_getElem hlt, exsText_snoc]; simp) (by simp; omega) (by omega)
            obtain ⟨ha1, ha2⟩ := had1
            obtain ⟨ha3, ha4⟩ := had2
            rw [hSk] at hX0
            unfold feV at hX0
            have HX := Lib.hid hX0
            have HSc := Lib.hid hSc
            rw [hA] at c2
            rw [hSa]
            clear hX0 hok hkl1 hSa hSb hSk hSc hg hA hct hL
            go_wp2_with fail
            refine HX.out.mono ?_
            rintro e w5 ⟨rfl, hb5⟩
            go_wp2
            go_roundg (p.exprs.length - (i + 1))
            case measure => omega
            case rel => exact ⟨i + 1, by omega, rfl, by go_num, by rw [HSc.out], bch HB.out hb5⟩
          · have hfin : p.exprs.take i = p.exprs := List.take_of_length_le (by omega)
            rw [hfin, HTT.out.2.2]
            have Hx2 := Lib.hid HB.out
            clear hfin hct hL
            go_wp2
            clear c2
            go_loopg [3, 6] p.kids.length (fun g ov iv wr => ∃ i : Nat, i ≤ p.kids.length ∧ g = p.kids.length - i ∧ iv = .int .i64 i ∧ ov = .string (bArr (T3 ++ plsText (p.kids.take i))) ∧ Below W1.heap.size W1 wr)
            case atStart => exact ⟨0, by omega, by omega, rfl, by simp [plsText], Hx2.out⟩
            case round =>
              clear hlt HB hi
              obtain ⟨i, hi, rfl, rfl, rfl, hb⟩ := hrel
              have HB := Lib.hid hb
              have c4 := (Hr1.out.on hb).cell 4
              have hct : (plsText (p.kids.take i)).length ≤ (plsText p.kids).length := by
                have e : plsText p.kids = plsText (p.kids.take i) ++ plsText (p.kids.drop i) := by rw [← plsText_append, List.take_append_drop]
                rw [e]; simp
              have hL := HL.out.2.2
              clear hb
              by_cases hlt : i < p.kids.length
              · obtain ⟨b1, o1, g, hA, hB1, ⟨g0, g1, g2, g3, g4⟩, hg⟩ := (HK.out.on HB.out).at_ hlt
                have hil : (i : Int) < (p.kids.length : Int) := by omega
                have hmem := List.getElem_mem hlt
                have hd0 : 0 < d := HT.out.2.2.2.1 (by omega)
                have hok := HT.out.2.2.2.2 _ hmem
                have hX0 := HI.out _ hmem g (d - 1) _ hg (by omega) hok
                have hkl1 : (plText p.kids[i]).length ≤ 6400000 := by
                  have h1 := plText_len _ _ hok
                  have h2 := Nat.pow_le_pow_right (show 0 < 2 by omega) (show d - 1 ≤ 8 by omega)
                  have e : 2 ^ 8 = 256 := rfl
                  omega
                obtain ⟨Sa, hSa⟩ : ∃ S, bArr (T3 ++ plsText (p.kids.take i)) = S := ⟨_, rfl⟩
                obtain ⟨Sb, hSb⟩ : ∃ S, bArr (T3 ++ plsText (p.kids.take i) ++ [32]) = S := ⟨_, rfl⟩
                obtain ⟨Sk, hSk⟩ : ∃ S, bArr (plText p.kids[i]) = S := ⟨_, rfl⟩
                obtain ⟨Sc, hSc⟩ : ∃ S, bArr (T3 ++ plsText (p.kids.take (i + 1))) = S := ⟨_, rfl⟩
                have had1 := sAdd (B := ⟨#[32]⟩) (y := [32]) hSa rfl hSb rfl (by simp; omega) (by simp)
                have had2 := sAdd hSb hSk hSc (by rw [List.take_succ_eq_append_getElem hlt, plsText_snoc]; simp) (by simp; omega) (by omega)
                obtain ⟨ha1, ha2⟩ := had1
                obtain ⟨ha3, ha4⟩ := had2
                rw [hSk] at hX0
                unfold fpV at hX0
                have HX := Lib.hid hX0
                have HSc := Lib.hid hSc
                rw [hA] at c4
                rw [hSa]
                clear hX0 hok hkl1 hSa hSb hSk hSc hg hA hct hL hmem
                go_wp2_with fail
                refine HX.out.mono ?_
                rintro e w5 ⟨rfl, hb5⟩
                go_wp2
                go_roundg (p.kids.length - (i + 1))
                case measure => omega
                case rel => exact ⟨i + 1, by omega, rfl, by go_num, by rw [HSc.out], bch HB.out hb5⟩
              · have hfin : p.kids.take i = p.kids := List.take_of_length_le (by omega)
                rw [hfin]
                obtain ⟨Sa, hSa⟩ : ∃ S, bArr (T3 ++ plsText p.kids) = S := ⟨_, rfl⟩
                have had := sAdd (B := ⟨#[41]⟩) (y := [41]) hSa rfl HR.out Htx.out (by simp; omega) (by simp)
                obtain ⟨ha1, ha2⟩ := had
                rw [hSa]
                clear hSa hct hL hfin
                go_wp2
                go_ret
                exact ⟨rfl, bch HB1.out HB.out⟩

end Go.Proofs.YtmhlpjfijpomkaaGreatDoor
