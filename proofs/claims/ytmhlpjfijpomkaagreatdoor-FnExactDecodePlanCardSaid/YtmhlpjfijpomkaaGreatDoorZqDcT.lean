/-
  Contract: the reference's parser reads an expression (expr). (Printed by wip/dct.py.)
-/
import Derived.Test.YtmhlpjfijpomkaaGreatDoorProg
import Derived.Test.YtmhlpjfijpomkaaGreatDoorZqDcQ
import Derived.Test.YtmhlpjfijpomkaaGreatDoorZqDcK
import Derived.Test.YtmhlpjfijpomkaaGreatDoorZqGa
namespace Go.Proofs.YtmhlpjfijpomkaaGreatDoor
open Go.RowKit Go.Qo
set_option linter.unusedVariables false
set_option linter.unusedSimpArgs false

def XSp (b : Nat) (L : List UInt8) (w : World) (res : Ex × List UInt8 × Bool) (e : Ending) (w' : World) : Prop :=
  ∃ f, e = .returned (feV f) ∧ ExT (fun k => w.heap.size ≤ k) w' f res.1 ∧ Ps w' b L res.2.1 res.2.2 ∧ But b w w'
def PXs (d : Nat) : Prop := ∀ (b : Nat) (L r : List UInt8) (ok : Bool) (w : World), Ps w b L r ok → L.length ≤ 8388608 →
  Calls Tryz.prog 45 #[.pointer (some ⟨b, 0, none⟩), .int .i64 d] w (XSp b L w (spEx d r ok))
theorem Ps.len {w : World} {b : Nat} {L r : List UInt8} {ok : Bool} (h : Ps w b L r ok) : r.length ≤ L.length := by
  obtain ⟨a, h1, _⟩ := h
  rw [h1, List.length_append]
  omega
theorem wordOf_len (l : List UInt8) : (wordOf l).length ≤ l.length := by
  have := congrArg List.length (word_rest l)
  simp at this
  omega
theorem kindOf_snoc {nm : Int → List UInt8} : ∀ (n : Nat) (lo : Int) (l : List UInt8), kindOf nm lo (n + 1) l = match kindOf nm lo n l with
    | some k => some k
    | none => if nm (lo + n) = l then some (lo + n) else none
  | 0, lo, l => by simp [kindOf]
  | n + 1, lo, l => by
    rw [kindOf]
    by_cases h : nm lo = l
    · rw [if_pos h]
      conv => rhs; rw [kindOf]
      rw [if_pos h]
    · rw [if_neg h, kindOf_snoc n (lo + 1) l]
      conv => rhs; rw [kindOf]
      rw [if_neg h, show lo + 1 + (n : Int) = lo + ((n + 1 : Nat) : Int) by omega]
theorem kindOf_name {nm : Int → List UInt8} : ∀ (n : Nat) (lo k : Int) (l : List UInt8), kindOf nm lo n l = some k → nm k = l ∧ lo ≤ k ∧ k < lo + n
  | 0, lo, k, l, h => by cases h
  | n + 1, lo, k, l, h => by
    unfold kindOf at h
    split at h
    · rename_i h1
      cases h
      exact ⟨h1, by omega, by omega⟩
    · have := kindOf_name n (lo + 1) k l h
      exact ⟨this.1, by omega, by omega⟩
/-- One name more is compared. -/
theorem spKind_yes {nm : Int → List UInt8} {lo : Int} {n : Nat} {l : List UInt8} (hi : ∀ j k, lo ≤ j → lo ≤ k → j < lo + n + 1 → k < lo + n + 1 → nm j = nm k → j = k) (h : nm (lo + n) = l) : spKind nm lo (n + 1) l = lo + n := by
  unfold spKind
  rw [kindOf_snoc]
  cases hk : kindOf nm lo n l with
  | none => simp [h]
  | some k =>
    obtain ⟨h1, h2, h3⟩ := kindOf_name n lo k l hk
    have := hi k (lo + n) h2 (by omega) (by omega) (by omega) (by rw [h1, h])
    omega
theorem spKind_no {nm : Int → List UInt8} {lo : Int} {n : Nat} {l : List UInt8} (h : nm (lo + n) ≠ l) : spKind nm lo (n + 1) l = spKind nm lo n l := by
  unfold spKind
  rw [kindOf_snoc]
  cases hk : kindOf nm lo n l with
  | none => simp [h]
  | some k => rfl
theorem spKind_range (l : List UInt8) : 0 ≤ spKind opText 3 9 l ∧ spKind opText 3 9 l ≤ 11 := by
  unfold spKind
  cases hk : kindOf opText 3 9 l with
  | none => simp
  | some k =>
    have := kindOf_name 9 3 k l hk
    simp
    omega
theorem kidsK_range (k : Int) : -1 ≤ kidsK k ∧ kidsK k ≤ 2 := by
  unfold kidsK
  repeat' split
  all_goals omega

set_option maxRecDepth 20000 in
set_option maxHeartbeats 3000000 in
/-- The walk, the kids' contract given. -/
theorem spExpr_of (d : Nat) (hd8 : d ≤ 8) (ih : ∀ d', d = d' + 1 → PXs d') : PXs d := fun b L r ok w h hL => by
  have hbl := h.lt
  have hrL := h.len
  have hrl : r.length ≤ 8388608 := by omega
  obtain ⟨W0, hW0⟩ : ∃ z, w.alloc (.cells #[.int .i64 0, .int .i64 0, .bool false, .int .i64 0, .slice none 0 0] 40) = z := ⟨_, rfl⟩
  have B0 : Below w.heap.size w W0 := by rw [← hW0]; exact balloc (Below.refl _ _) _
  have r0 : Row W0 w.heap.size 40 [.int .i64 0, .int .i64 0, .bool false, .int .i64 0, .slice none 0 0] := by rw [← hW0]; exact Row.new _ _ _
  have hs0 : W0.heap.size = w.heap.size + 1 := by rw [← hW0]; simp
  have HPk := Lib.hid (peek_ok (h.on B0) hL)
  have HPs := Lib.hid (h.on B0)
  have HW0 := Lib.hid hW0
  have HB0 := Lib.hid (show But b w W0 from only_below B0)
  have HR0 := Lib.hid r0
  have Hs0 := Lib.hid hs0
  have IH := Lib.hid ih
  obtain ⟨RES, hR⟩ : ∃ R, spEx d r ok = R := ⟨_, rfl⟩
  rw [hR]
  have HRr := Lib.hid hR
  clear h hW0 B0 r0 hs0 ih hR
  by_cases h40 : ∃ r', r = 40 :: r'
  case neg =>
    have h40' : ∀ r', r ≠ 40 :: r' := fun r' e => h40 ⟨r', e⟩
    have HRv := Lib.hid (show RES = (spLeaf (wordOf r), restOf r, ok) by rw [← HRr.out, spEx_word d ok h40'])
    have hne : (((r.headD 0).toNat : Int) != 40) = true := by
      cases r with
      | nil => rfl
      | cons c r' => exact (u8_ne (c := c) 40 40 rfl (fun e => h40' r' (by rw [e]))).1
    obtain ⟨pk, hpk⟩ : ∃ pk : Nat, (r.headD 0).toNat = pk := ⟨_, rfl⟩
    rw [hpk] at HPk hne
    have hwl : (wordOf r).length ≤ 8388608 := Nat.le_trans (wordOf_len r) hrl
    clear h40 h40' hpk HRr
    go_enter Tryz.func45, Tryz.ntmps45
    go_upto_region 1 with fail
    rw [HW0.out]
    go_wp2_with fail
    refine HPk.out.mono ?_
    rintro e w1 ⟨rfl, hb1⟩
    have H1 := Lib.hid (HPs.out.on hb1)
    have HB1 := Lib.hid (HB0.out.below hb1)
    have HR1 := Lib.hid (HR0.out.on hb1)
    have hz1 : w.heap.size + 1 ≤ w1.heap.size := by have := hb1.size; have := Hs0.out; omega
    clear hb1
    go_wp2_with fail
    refine (spWord_ok H1.out hL).mono ?_
    rintro e w3 ⟨rfl, h3, hb3⟩
    have H3 := Lib.hid h3
    have HB3 := Lib.hid (HB1.out.trans hb3)
    have HR3 := Lib.hid (HR1.out.only hb3 (by omega))
    have hz3 : w.heap.size + 1 ≤ w3.heap.size := by have := hb3.size; omega
    clear h3 hb3
    by_cases h35 : ∃ m, wordOf r = 35 :: m
    · obtain ⟨m, hm⟩ := h35
      have HLf := Lib.hid (show spLeaf (wordOf r) = .mk 1 (pInt m) (false, 0) [] by unfold spLeaf; rw [hm]; simp)
      obtain ⟨S, hS⟩ : ∃ S, bArr (wordOf r) = S := ⟨_, rfl⟩
      have hsz : S.size = m.length + 1 := by rw [← hS, hm]; rfl
      have hS0 : 0 < S.size := by omega
      have hS0' : (0 : Int) < (S.size : Int) := by omega
      have hx0 : S[0]'hS0 = 35 := by
        subst hS
        exact bArr_get (by rw [hm]; rfl) hS0
      have h1S : 1 ≤ S.size := by omega
      have hex : S.extract 1 S.size = bArr m := by
        rw [hsz, ← hS, bArr_extract, hm, List.drop_one, List.tail_cons, Nat.add_sub_cancel, List.take_of_length_le (Nat.le_refl _)]
      have hml : m.length ≤ 8388608 := by rw [hm] at hwl; simp at hwl; omega
      have HPI := Lib.hid (parseInt_ok m w3 hml)
      obtain ⟨M, hM⟩ : ∃ S, bArr m = S := ⟨_, rfl⟩
      rw [hM] at hex HPI
      rw [hS]
      clear hS hm hsz hM
      go_wp2_with fail
      refine HPI.out.mono ?_
      rintro e w4 ⟨rfl, rfl⟩
      have hrow := HR3.out
      have c0 := hrow.cell 0
      have c1 := hrow.cell 1
      have c2 := hrow.cell 2
      have c3 := hrow.cell 3
      have c4 := hrow.cell 4
      have f0 := hrow.frozen 0
      have f1 := hrow.frozen 1
      have f2 := hrow.frozen 2
      have f3 := hrow.frozen 3
      have f4 := hrow.frozen 4
      have hl3 := hrow.lt
      clear hrow
      go_wp2
      refine bodyPost_ret (v := feV ⟨1, pInt m, (false, 0), ⟨none, 0, 0⟩⟩) (by simp [results, Tryz.results45, go_sem, feV, c0, c1, c2, c3, c4]) rfl ?_
      rw [HRv.out]
      exact ⟨_, rfl, by rw [HLf.out]; exact ExT.leaf, H3.out.only (set5 w4 w.heap.size _ _ _ _ _) (by omega), HB3.out.step (set5 w4 w.heap.size _ _ _ _ _) fun i hi => .inr (by omega)⟩
    · have HLf := Lib.hid (show spLeaf (wordOf r) = .mk 2 0 (spVal (wordOf r)) [] by
        unfold spLeaf
        rw [if_neg fun e => by
          cases hw : wordOf r with
          | nil => rw [hw] at e; cases e
          | cons c m => rw [hw] at e; exact h35 ⟨m, by rw [hw]; simp at e; rw [e]⟩])
      have HPV := Lib.hid (parseValue_ok (wordOf r) w3 hwl)
      obtain ⟨S, hS⟩ : ∃ S, bArr (wordOf r) = S := ⟨_, rfl⟩
      rw [hS] at HPV ⊢
      have hcs : S.size = 0 ∨ ∃ c : UInt8, ∃ h0 : 0 < S.size, S[0]'h0 = c ∧ c ≠ 35 := by
        subst hS
        cases hw : wordOf r with
        | nil => exact .inl rfl
        | cons c m => exact .inr ⟨c, by show 0 < m.length + 1; omega, bArr_get rfl _, fun e => h35 ⟨m, by rw [hw, e]⟩⟩
      clear hS h35
      rcases hcs with hz | ⟨c, h0, hx, hc⟩
      · have hz' : (S.size : Int) = 0 := by omega
        go_wp2_with fail
        refine HPV.out.mono ?_
        rintro e w4 ⟨rfl, hb4⟩
        have hrow := HR3.out.on hb4
        have H4 := Lib.hid (H3.out.on hb4)
        have HB4 := Lib.hid (HB3.out.below hb4)
        clear hb4 hz hz'
        have c0 := hrow.cell 0
        have c1 := hrow.cell 1
        have c2 := hrow.cell 2
        have c3 := hrow.cell 3
        have c4 := hrow.cell 4
        have f0 := hrow.frozen 0
        have f1 := hrow.frozen 1
        have f2 := hrow.frozen 2
        have f3 := hrow.frozen 3
        have f4 := hrow.frozen 4
        have hl3 := hrow.lt
        clear hrow
        go_wp2
        refine bodyPost_ret (v := feV ⟨2, 0, spVal (wordOf r), ⟨none, 0, 0⟩⟩) (by simp [results, Tryz.results45, go_sem, feV, c0, c1, c2, c3, c4]) rfl ?_
        rw [HRv.out]
        exact ⟨_, rfl, by rw [HLf.out]; exact ExT.leaf, H4.out.only (set5 w4 w.heap.size _ _ _ _ _) (by omega), HB4.out.step (set5 w4 w.heap.size _ _ _ _ _) fun i hi => .inr (by omega)⟩
      · have h0' : (0 : Int) < (S.size : Int) := by omega
        have hck : ((c.toNat : Int) == 35) = false := (u8_ne 35 35 rfl hc).2
        clear hc
        go_wp2_with fail
        refine HPV.out.mono ?_
        rintro e w4 ⟨rfl, hb4⟩
        have hrow := HR3.out.on hb4
        have H4 := Lib.hid (H3.out.on hb4)
        have HB4 := Lib.hid (HB3.out.below hb4)
        clear hb4
        have c0 := hrow.cell 0
        have c1 := hrow.cell 1
        have c2 := hrow.cell 2
        have c3 := hrow.cell 3
        have c4 := hrow.cell 4
        have f0 := hrow.frozen 0
        have f1 := hrow.frozen 1
        have f2 := hrow.frozen 2
        have f3 := hrow.frozen 3
        have f4 := hrow.frozen 4
        have hl3 := hrow.lt
        clear hrow
        go_wp2
        refine bodyPost_ret (v := feV ⟨2, 0, spVal (wordOf r), ⟨none, 0, 0⟩⟩) (by simp [results, Tryz.results45, go_sem, feV, c0, c1, c2, c3, c4]) rfl ?_
        rw [HRv.out]
        exact ⟨_, rfl, by rw [HLf.out]; exact ExT.leaf, H4.out.only (set5 w4 w.heap.size _ _ _ _ _) (by omega), HB4.out.step (set5 w4 w.heap.size _ _ _ _ _) fun i hi => .inr (by omega)⟩
  obtain ⟨r1, rfl⟩ := h40
  obtain ⟨name, hname⟩ : ∃ m, wordOf r1 = m := ⟨_, rfl⟩
  obtain ⟨K, hK⟩ : ∃ K, spKind opText 3 9 name = K := ⟨_, rfl⟩
  obtain ⟨nk, hnk⟩ : ∃ nk, spMany d K = nk := ⟨_, rfl⟩
  have hRv : RES = (.mk K 0 (false, 0) (spKids (spEx (d - 1)) nk (restOf r1) ok).1, spEat 41 (spKids (spEx (d - 1)) nk (restOf r1) ok).2.1 (spKids (spEx (d - 1)) nk (restOf r1) ok).2.2) := by
    rw [← HRr.out, spEx_paren, hname, hK, hnk]
  have HRv := Lib.hid hRv
  have hKr : 0 ≤ K ∧ K ≤ 11 := by rw [← hK]; exact spKind_range name
  have hnk2 : nk ≤ 2 := by
    rw [← hnk]
    unfold spMany
    have := kidsK_range K
    split <;> omega
  have HK := Lib.hid (And.intro hname (And.intro hK hnk))
  have hpk : ((40 :: r1).headD 0).toNat = 40 := rfl
  rw [hpk] at HPk
  clear HRr hRv hname hnk hK hpk
  have hr1l : r1.length ≤ 8388608 := by simp at hrl; omega
  have hnl : name.length ≤ 8388608 := by rw [← HK.out.1]; exact Nat.le_trans (wordOf_len r1) hr1l
  have hne : (((40 : Nat) : Int) != 40) = false := rfl
  go_enter Tryz.func45, Tryz.ntmps45
  go_upto_region 1 with fail
  rw [HW0.out]
  go_wp2_with fail
  refine HPk.out.mono ?_
  rintro e w1 ⟨rfl, hb1⟩
  have H1 := Lib.hid (HPs.out.on hb1)
  have HB1 := Lib.hid (HB0.out.below hb1)
  have HR1 := Lib.hid (HR0.out.on hb1)
  have hz1 : w.heap.size + 1 ≤ w1.heap.size := by have := hb1.size; have := Hs0.out; omega
  clear hb1
  go_wp2_with fail
  refine (eat_ok 40 40 rfl H1.out hL).mono ?_
  rintro e w2 ⟨rfl, h2, hb2, hz2⟩
  rw [spEat_yes] at h2
  have H2 := Lib.hid h2
  have HB2 := Lib.hid (HB1.out.trans hb2)
  have HR2 := Lib.hid (HR1.out.only hb2 (by omega))
  have hz3 : w.heap.size + 1 ≤ w2.heap.size := by omega
  clear h2 hb2 hz2
  obtain ⟨W4, hW4⟩ : ∃ z, w2.alloc (.cells #[.int .i64 0, .int .i64 0, .bool false, .int .i64 0, .slice none 0 0] 40) = z := ⟨_, rfl⟩
  obtain ⟨ob, hob⟩ : ∃ n, w2.heap.size = n := ⟨_, rfl⟩
  have b4 : Below w2.heap.size w2 W4 := by rw [← hW4]; exact balloc (Below.refl _ _) _
  have r4 : Row W4 ob 40 [.int .i64 0, .int .i64 0, .bool false, .int .i64 0, .slice none 0 0] := by rw [← hW4, ← hob]; exact Row.new _ _ _
  have hs4 : W4.heap.size = ob + 1 := by rw [← hW4, ← hob]; simp
  have HB4 := Lib.hid (HB2.out.below b4)
  have HR4 := Lib.hid (HR2.out.on b4)
  have H4 := Lib.hid (H2.out.on b4)
  have HO4 := Lib.hid r4
  have Hs4 := Lib.hid hs4
  have Hob := Lib.hid hob
  have HW4 := Lib.hid hW4
  have hobw : w.heap.size + 1 ≤ ob := by omega
  clear hW4 b4 r4 hs4 hob hz3 hz1
  go_upto_region 8 with fail
  rw [HW4.out, Hob.out]
  go_wp2_with fail
  refine (spWord_ok H4.out hL).mono ?_
  rintro e w5 ⟨rfl, h5, hb5⟩
  have H5 := Lib.hid h5
  have HB5 := Lib.hid (HB4.out.trans hb5)
  have HR5 := Lib.hid (HR4.out.only hb5 (by omega))
  have HO5 := Lib.hid (HO4.out.only hb5 (by omega))
  have hz5 : ob + 1 ≤ w5.heap.size := by have := hb5.size; have := Hs4.out; omega
  clear h5 hb5
  rw [HK.out.1]
  obtain ⟨NM, hNM⟩ : ∃ S, bArr name = S := ⟨_, rfl⟩
  rw [hNM]
  have HNM := Lib.hid hNM
  clear hNM
  obtain ⟨nb, hnb⟩ : ∃ n, w5.heap.size = n := ⟨_, rfl⟩
  go_wp2_with fail
  refine (exprNames_ok w5).mono ?_
  rintro e w6 ⟨rfl, hb6, hrw6⟩
  rw [hnb] at hrw6 ⊢
  have hnb1 : ob + 1 ≤ nb := by omega
  have H6 := Lib.hid (H5.out.on hb6)
  have HB6 := Lib.hid (HB5.out.below hb6)
  have HR6 := Lib.hid (HR5.out.on hb6)
  have HO6 := Lib.hid (HO5.out.on hb6)
  have HN6 := Lib.hid hrw6
  have hz6 : ob + 1 ≤ w6.heap.size := by have := hb6.size; omega
  have Hnb := Lib.hid hnb
  clear hb6 hrw6 hnb hz5
  go_wp2
  go_loopg [9] 9 (fun g iv wr => ∃ i : Nat, i ≤ 9 ∧ g = 9 - i ∧ iv = .int .i64 (3 + (i : Int)) ∧ Row wr ob 40 [.int .i64 (spKind opText 3 i name), .int .i64 0, .bool false, .int .i64 0, .slice none 0 0] ∧
    Row wr nb 9 (opTexts.map fun l => .string (bArr l)) ∧ Row wr w.heap.size 40 [.int .i64 0, .int .i64 0, .bool false, .int .i64 0, .slice none 0 0] ∧ Ps wr b L (restOf r1) ok ∧ But b w wr ∧ ob + 1 ≤ wr.heap.size)
  case atStart => exact ⟨0, by omega, by omega, rfl, HO6.out, HN6.out, HR6.out, H6.out, HB6.out, hz6⟩
  case round =>
    obtain ⟨i, hi, rfl, rfl, hro, hrn, hrr, hps, hb, hzr⟩ := hrel
    have hlo := hro.lt
    have hln := hrn.lt
    have fo0 := hro.frozen 0
    have HO := Lib.hid hro
    have HN := Lib.hid hrn
    have HRR := Lib.hid hrr
    have HP := Lib.hid hps
    have HB := Lib.hid hb
    have o0 : wr.cell? ⟨ob, 0, none⟩ = some (.int .i64 (spKind opText 3 i name)) := hro.cell 0
    by_cases hlt : i < 9
    · obtain ⟨T, hT⟩ : ∃ T, bArr (opText (3 + (i : Int))) = T := ⟨_, rfl⟩
      have hcell : wr.cell? ⟨nb, 3 + i, none⟩ = some (.string T) := by
        have h12 : 3 + i < 12 := by omega
        have h13 : 3 + i < opTexts.length := h12
        rw [hrn.cell (3 + i), ← hT, List.getElem?_map, List.getElem?_eq_getElem h13]
        unfold opText
        rw [show (3 + (i : Int)).toNat = 3 + i by omega, List.getD_eq_getElem?_getD, List.getElem?_eq_getElem h13]
        rfl
      have HT := Lib.hid hT
      clear hro hrn hrr hps hb hT
      have hi12 : 3 + (i : Int) < 12 := by omega
      have hi12n : 3 + i < 12 := by omega
      have hw1 : IntKind.i64.wrap (3 + (i : Int) + 1) = 3 + (i : Int) + 1 := IntWalk.i64_in _ (by omega)
      have e3 : (3 + (i : Int)).toNat = 3 + i := by omega
      by_cases he : opText (3 + (i : Int)) = name
      · have heq : (T.toList == NM.toList) = true := by rw [← HT.out, he, HNM.out]; simp
        have HE := Lib.hid he
        clear he
        go_wp2
        go_roundg (9 - (i + 1))
        case measure => omega
        case rel =>
          have hs := Only.set (S := fun k => k = ob) (p := ⟨ob, 0, none⟩) (Only.refl wr) (.inl rfl) (.int .i64 (3 + (i : Int)))
          refine ⟨i + 1, by omega, rfl, by go_num, ?_, HN.out.only hs (by show ¬ nb = ob; omega), HRR.out.only hs (by show ¬ w.heap.size = ob; omega), HP.out.only hs (by show ¬ b = ob; omega), HB.out.step hs (fun j hj => .inr (by omega)), by simp only [World.setCell, Array.size_modify]; omega⟩
          rw [spKind_yes (fun j k h1 h2 h3 h4 h5 => opText_inj (by omega) (by omega) h5) HE.out]
          exact HO.out.set 0 _
      · have heq : (T.toList == NM.toList) = false := by
          rw [← HT.out, ← HNM.out, bArr_list, bArr_list, beq_eq_false_iff_ne]
          exact he
        have HE := Lib.hid he
        clear he
        go_wp2
        go_roundg (9 - (i + 1))
        case measure => omega
        case rel =>
          refine ⟨i + 1, by omega, rfl, by go_num, ?_, HN.out, HRR.out, HP.out, HB.out, hzr⟩
          rw [spKind_no HE.out]
          exact HO.out
    · obtain rfl : i = 9 := by omega
      rw [HK.out.2.1] at HO o0
      clear hro hrn hrr hps hb
      have hnK : nk = if d = 0 then 0 else (kidsK K).toNat := HK.out.2.2.symm
      have hkr := kidsK_range K
      obtain ⟨kk, hkk⟩ : ∃ kk, kidsK K = kk := ⟨_, rfl⟩
      have HKn := Lib.hid (fun z => kidsOf_ok K z)
      rw [hkk] at HKn hkr hnK
      have Hnk := Lib.hid hnK
      clear hnK hkk o0 fo0 hlt
      go_wp2
      go_loopg [10] nk (fun g iv wr => ∃ (i : Nat) (A : Option Addr) (c : Nat) (es : List Ex) (q : List UInt8) (oq : Bool), i ≤ nk ∧ g = nk - i ∧ iv = .int .i64 i ∧ es.length = i ∧ Kds (ob + 1) wr (.slice A i c) es ∧ Row wr ob 40 [.int .i64 K, .int .i64 0, .bool false, .int .i64 0, .slice A i c] ∧ Row wr w.heap.size 40 [.int .i64 0, .int .i64 0, .bool false, .int .i64 0, .slice none 0 0] ∧ Ps wr b L q oq ∧ But b w wr ∧ ob + 1 ≤ wr.heap.size ∧
        spKids (spEx (d - 1)) nk (restOf r1) ok = (es ++ (spKids (spEx (d - 1)) (nk - i) q oq).1, (spKids (spEx (d - 1)) (nk - i) q oq).2))
      case atStart => exact ⟨0, none, 0, [], restOf r1, ok, by omega, by omega, rfl, rfl, Kds.nil, HO.out, HRR.out, HP.out, HB.out, hzr, by simp⟩
      case round =>
        clear HO HN HRR HP HB hzr
        obtain ⟨i, A, c, es, q, oq, hi, rfl, rfl, hel, hkd, hro, hrr, hps, hb, hzw, hpk⟩ := hrel
        have HKd := Lib.hid hkd
        have HRo := Lib.hid hro
        have HRR := Lib.hid hrr
        have HP := Lib.hid hps
        have HB := Lib.hid hb
        have HPq := Lib.hid hpk
        have Hel := Lib.hid hel
        have hlol := hro.lt
        have hbl2 := hps.lt
        have o0 : wr.cell? ⟨ob, 0, none⟩ = some (.int .i64 K) := hro.cell 0
        have p2 : wr.cell? ⟨b, 2, none⟩ = some (.bool oq) := by obtain ⟨a, _, hrow⟩ := hps; exact hrow.cell 2
        have hqL := hps.len
        clear hkd hro hrr hps hb hpk hel
        by_cases hgo : i < nk ∧ oq = true
        · obtain ⟨hlt, rfl⟩ := hgo
          obtain ⟨dm, rfl⟩ : ∃ dm, d = dm + 1 := ⟨d - 1, by have := Hnk.out; split at this <;> omega⟩
          have hkn : (nk : Int) = kk := by have := Hnk.out; rw [if_neg (by omega)] at this; omega
          have hik : (i : Int) < kk := by omega
          have hdp : (0 : Int) < ((dm + 1 : Nat) : Int) := by omega
          have hwd : IntKind.i64.wrap (((dm + 1 : Nat) : Int) - 1) = (dm : Int) := by rw [show ((dm + 1 : Nat) : Int) - 1 = dm by omega]; exact IntWalk.i64_in _ (by omega)
          have hdc : ((dm + 1 : Nat) : Int) = (dm : Int) + 1 := by omega
          have hwd2 : IntKind.i64.wrap ((dm : Int) + 1 - 1) = (dm : Int) := by rw [← hdc]; exact hwd
          have hwd3 : IntKind.i64.wrap (dm : Int) = (dm : Int) := IntWalk.i64_in _ (by omega)
          have hdp2 : (0 : Int) < (dm : Int) + 1 := by omega
          have IHd := Lib.hid (IH.out dm rfl)
          obtain ⟨q1, hq1⟩ : ∃ q1, (spEat 32 q true).1 = q1 := ⟨_, rfl⟩
          obtain ⟨o1, ho1⟩ : ∃ o1, (spEat 32 q true).2 = o1 := ⟨_, rfl⟩
          have HQ := Lib.hid (And.intro hq1 ho1)
          clear hq1 ho1
          go_wp2_with fail
          refine (HKn.out _).mono ?_
          rintro e w5 ⟨rfl, rfl⟩
          go_wp2_with fail
          refine (eat_ok 32 32 rfl HP.out hL).mono ?_
          rintro e w6 ⟨rfl, h6, hb6, hz6⟩
          rw [HQ.out.1, HQ.out.2] at h6
          have H6 := Lib.hid h6
          have HB6 := Lib.hid (HB.out.trans hb6)
          have HRo6 := Lib.hid (HRo.out.only hb6 (by omega))
          have HRr6 := Lib.hid (HRR.out.only hb6 (by omega))
          have HKd6 := Lib.hid (HKd.out.only hb6 (fun j (hj : j = b) => show j < ob + 1 by omega))
          have hzw6 : ob + 1 ≤ w6.heap.size := by omega
          have hlol6 := HRo6.out.lt
          clear h6 hb6 hz6 o0 p2
          go_wp2
          have SB := Lib.hid (fun (z : World) (hz : But b w6 z) => show z.cell? ⟨ob, 4, none⟩ = some (.slice A i c) from (HRo6.out.only hz (by omega)).cell 4)
          obtain ⟨u, hu⟩ : ∃ u, w6.drew = u := ⟨_, rfl⟩
          have Bu := Lib.hid (show Below w6.heap.size w6 u from hu ▸ (Below.refl _ _).drew)
          have Hu := Lib.hid hu
          clear hu
          refine wp_region_g 9 (fun z => z.cell? ⟨ob, 4, none⟩ = some (.slice A i c)) (by kernel_rfl) ?_ (fun hHeld => ?_)
          · exact SB.out _ ((Only.refl (S := fun k => k = b) w6).drew)
          rw [Hu.out] at hHeld ⊢
          refine takeG (i := 0) (v := ?v1) rfl (by kernel_rfl) (by kernel_rfl) (by kernel_rfl) (by kernel_rfl) (fun _ _ _ h => h) (Or.inl ⟨by rfl, ?hy1⟩) (by assumption) ?_
          case hy1 => ((intro w' hSw; (try dsimp only at hSw); go_simp) <;> with_reducible rfl)
          try simp only [Act.put, List.setIfInBounds_toArray, List.set_cons_zero, List.set_cons_succ]
          refine takeG (i := 1) (v := ?v2) rfl (by kernel_rfl) (by kernel_rfl) (by kernel_rfl) (by kernel_rfl) (fun _ _ _ h => h) (Or.inl ⟨by rfl, ?hy2⟩) (by assumption) ?_
          case hy2 => ((intro w' hSw; (try dsimp only at hSw); go_simp) <;> with_reducible rfl)
          try simp only [Act.put, List.setIfInBounds_toArray, List.set_cons_zero, List.set_cons_succ]
          refine takeG (i := 2) (v := ?v3) rfl (by kernel_rfl) (by kernel_rfl) (by kernel_rfl) (by kernel_rfl) (fun _ _ _ h => h) (Or.inl ⟨by rfl, ?hy3⟩) (by assumption) ?_
          case hy3 => ((intro w' hSw; (try dsimp only at hSw); go_simp) <;> with_reducible rfl)
          try simp only [Act.put, List.setIfInBounds_toArray, List.set_cons_zero, List.set_cons_succ]
          refine takeG (i := 3) (v := ?v4) rfl (by kernel_rfl) (by kernel_rfl) (by kernel_rfl) (by kernel_rfl) (fun _ _ _ h => h) (Or.inl ⟨by rfl, ?hy4⟩) (by assumption) ?_
          case hy4 => ((intro w' hSw; (try dsimp only at hSw); go_simp) <;> with_reducible rfl)
          try simp only [Act.put, List.setIfInBounds_toArray, List.set_cons_zero, List.set_cons_succ]
          refine takeG (i := 4) (v := ?v5) rfl (by kernel_rfl) (by kernel_rfl) (by kernel_rfl) (by kernel_rfl) (fun _ _ _ h => h) (Or.inl ⟨by rfl, ?hy5⟩) (by assumption) ?_
          case hy5 => ((intro w' hSw; (try dsimp only at hSw); go_simp) <;> with_reducible rfl)
          try simp only [Act.put, List.setIfInBounds_toArray, List.set_cons_zero, List.set_cons_succ]
          refine wpAnyG_ready (rs := [5]) (by kernel_rfl) (by simp) ?_
          refine readyG rfl (fun K hK => ?_) AllReadyG.nil
          go_simp
          go_at_call 45
          refine (IHd.out b L q1 o1 u (H6.out.on Bu.out) hL).mono ?_
          rintro e u1 ⟨f', he, hx, hsc1, hb1⟩
          unfold feV at he
          subst he
          obtain ⟨RX, hRX⟩ : ∃ R, spEx dm q1 o1 = R := ⟨_, rfl⟩
          rw [hRX] at hx hsc1
          have HRX := Lib.hid hRX
          have Bt1 := Lib.hid ((only_below (S := fun k => k = b) Bu.out).trans hb1)
          have HB1 := Lib.hid (HB6.out.trans Bt1.out)
          have X1 := Lib.hid hx
          have Sc1 := Lib.hid (show Ps u1 b L RX.2.1 RX.2.2 from hsc1)
          have hz0 := Bu.out.size
          have hz1 := hb1.size
          clear hb1 hx hsc1 hRX
          refine hK.out _ _ ?hS6 (fun hHeld => ?_)
          case hS6 => exact fun _ => SB.out _ Bt1.out
          replace hHeld := hHeld (by decide)
          clear hK K
          try simp only [Act.put, List.setIfInBounds_toArray, List.set_cons_zero, List.set_cons_succ]
          refine wpAnyG_ready (rs := [6]) (by kernel_rfl) (by simp) ?_
          refine readyG rfl (fun K hK => ?_) AllReadyG.nil
          obtain ⟨u2, hu2⟩ : ∃ z, u1.alloc (.cells #[.int .i64 f'.kind, .int .i64 f'.col, .bool f'.val.1, .int .i64 f'.val.2, .slice f'.sv.A f'.sv.n f'.sv.c] 40) = z := ⟨_, rfl⟩
          have hb2 : Below u1.heap.size u1 u2 := by rw [← hu2]; exact balloc (Below.refl _ _) _
          have hz2 : u2.heap.size = u1.heap.size + 1 := by rw [← hu2]; simp
          have S2 := Lib.hid (show Sl 5 feC u2 u2.heap.size (some ⟨u1.heap.size, 0, none⟩) [f'] by rw [← hu2]; exact Row.sl' (t := 40) feC_length ((Row.new u1 _ _).of rfl))
          have Bt2 := Lib.hid (Bt1.out.below hb2)
          have HB2 := Lib.hid (HB1.out.below hb2)
          have X2 := Lib.hid (X1.out.keep hb2.size fun k _ hl => hb2.block k hl)
          have Sc2 := Lib.hid (show Ps u2 b L RX.2.1 RX.2.2 from Sc1.out.on hb2)
          go_simp
          try rw [hu2]
          have Hu2 := Lib.hid hu2
          clear hu2 hb2
          refine hK.out _ _ ?hS7 (fun hHeld => ?_)
          case hS7 => exact fun _ => SB.out _ Bt2.out
          replace hHeld := hHeld (by decide)
          clear hK K
          try simp only [Act.put, List.setIfInBounds_toArray, List.set_cons_zero, List.set_cons_succ]
          refine wpAnyG_ready (rs := [7]) (by kernel_rfl) (by simp) ?_
          refine readyG rfl (fun K hK => ?_) AllReadyG.nil
          obtain ⟨fs, hfl, how, hfx⟩ := HKd6.out.only Bt2.out (fun j (hj : j = b) => show j < ob + 1 by omega)
          have hfli : fs.length = i := hfl.trans Hel.out
          obtain ⟨fs0, hfl0, how0, _⟩ := HKd6.out
          have X3 := Lib.hid (X2.out.mono (T := fun k => ob + 1 ≤ k ∧ (Value.slice A i c).ownBlock ≠ some k) fun k hk1 hk => by
            refine ⟨by omega, fun e => ?_⟩
            have := (how0.ty k e).2.1
            omega)
          refine step_app2 rfl (.tmp 71) (.tmp 76) 23 rfl (ob + 1) 40 _ 5 56 feC Tryz.underlying23 zeroExT3 rfl (by decide) (by decide) feC_length feC_one _ fs rfl how (some ⟨u1.heap.size, 0, none⟩) 1 1 [f'] rfl rfl S2.out (by simp; omega) (by omega) ?_
          intro v' u3 hown hgr hob3
          have K3 := Kds.snoc hfl (fun i g y hg hy => hfx i g y hg hy) X3.out hown hgr hob3
          obtain ⟨A3, c3, hv3, hc31, hc32⟩ := K3.shape
          have hti3 : (es ++ [RX.1]).length = i + 1 := by have := Hel.out; simp; omega
          rw [hti3] at hv3 hc31
          subst hv3
          have hgo : ∀ k, (Value.slice A i c).ownBlock = some k → ob + 1 ≤ k := fun k hk => (how.ty k hk).1
          have hgb : ∀ k, k < ob + 1 → k < u2.heap.size → u3.heap[k]? = u2.heap[k]? := fun k hk hl => hgr.block k hl fun e => by have := hgo k e.symm; omega
          have rr := HRo6.out.only Bt2.out (by omega)
          have rr0 := HRr6.out.only Bt2.out (by omega)
          have r3o := rr.keep (hgb ob (by omega) rr.lt)
          have r03 := Lib.hid (rr0.keep (hgb w.heap.size (by omega) rr0.lt))
          have C3 : u3.cell? ⟨ob, 4, none⟩ = some (.slice A i c) := r3o.cell 4
          have F3 := r3o.frozen 4
          have HB3 := Lib.hid (HB2.out.grown hgr fun k hk => .inr (by have := hgo k hk; omega))
          have Sc3 := Lib.hid (show Ps u3 b L RX.2.1 RX.2.2 from by obtain ⟨a, h1, h2⟩ := Sc2.out; exact ⟨a, h1, h2.keep (hgb b (by omega) (by omega))⟩)
          have Hr3' := Lib.hid r3o
          have K3' := Lib.hid K3
          have hl3 := r3o.lt
          clear K3 hown hgr hgo rr r3o rr0 how hfx hti3
          refine hK.out _ _ ?hS8 (fun hHeld => ?_)
          case hS8 => exact fun _ => C3
          replace hHeld := hHeld (by decide)
          clear hK K
          try simp only [Act.put, List.setIfInBounds_toArray, List.set_cons_zero, List.set_cons_succ]
          refine takeG (i := 8) (v := ?v9) rfl (by kernel_rfl) (by kernel_rfl) (by kernel_rfl) (by kernel_rfl) (fun _ _ _ h => h) (Or.inl ⟨by rfl, ?hy9⟩) (by assumption) ?_
          case hy9 => ((intro w' hSw; (try dsimp only at hSw); go_simp) <;> with_reducible rfl)
          try simp only [Act.put, List.setIfInBounds_toArray, List.set_cons_zero, List.set_cons_succ]
          refine wpAnyG_ready (rs := [9]) (by kernel_rfl) (by simp) ?_
          refine readyG rfl (fun K hK => ?_) AllReadyG.nil
          go_simp
          refine hK.out _ _ ?hS99 (fun hHeld => ?_)
          case hS99 => exact fun h => absurd rfl h
          clear hK K
          try simp only [Act.put, List.setIfInBounds_toArray, List.set_cons_zero, List.set_cons_succ]
          refine wpAnyG_done (by kernel_rfl) ?_ _
          go_wp2
          go_roundg (nk - (i + 1))
          case measure => omega
          case rel =>
            have hso := Only.set (S := fun k => k = ob) (p := ⟨ob, 4, none⟩) (Only.refl u3) (.inl rfl) (.slice A3 (i + 1) c3)
            have k4 := K3'.out.only hso (fun j (hj : j = ob) => show j < ob + 1 by omega)
            refine ⟨i + 1, A3, c3, es ++ [RX.1], RX.2.1, RX.2.2, by omega, by omega, by go_num, by have := Hel.out; simp; omega, k4, Hr3'.out.set 4 _, r03.out.only hso (show ¬ w.heap.size = ob by omega), Sc3.out.only hso (show ¬ b = ob by omega), HB3.out.step hso (fun j hj => .inr (by omega)), ?_, ?_⟩
            · simp only [World.setCell, Array.size_modify]; omega
            · rw [HPq.out, show nk - i = (nk - (i + 1)) + 1 by omega, spKids, if_pos rfl, HQ.out.1, HQ.out.2, Nat.add_sub_cancel, HRX.out]
              simp
        · have hpk2 : spKids (spEx (d - 1)) nk (restOf r1) ok = (es, q, oq) := by
            rw [HPq.out]
            by_cases hin : i < nk
            · have hoq : oq = false := by
                cases oq
                · rfl
                · exact absurd ⟨hin, rfl⟩ hgo
              rw [show nk - i = (nk - i - 1) + 1 by omega, spKids, if_neg (by rw [hoq]; simp)]
              simp
            · rw [show nk - i = 0 by omega, spKids]
              simp
          have HQ := Lib.hid hpk2
          have hcs : (¬ (i : Int) < kk) ∨ ((i : Int) < kk ∧ oq = false) ∨ ((i : Int) < kk ∧ oq = true ∧ d = 0) := by
            by_cases h1 : (i : Int) < kk
            · cases oq
              · exact .inr (.inl ⟨h1, rfl⟩)
              · refine .inr (.inr ⟨h1, rfl, ?_⟩)
                have h2 := Hnk.out
                by_cases hd0 : d = 0
                · exact hd0
                · rw [if_neg hd0] at h2
                  exact absurd ⟨by omega, rfl⟩ hgo
            · exact .inl h1
          clear hpk2 hgo
          rcases hcs with h1 | ⟨h1, rfl⟩ | ⟨h1, rfl, rfl⟩
          · go_wp2_with fail
            refine (HKn.out _).mono ?_
            rintro e w5 ⟨rfl, rfl⟩
            go_wp2_with fail
            refine (eat_ok 41 41 rfl HP.out hL).mono ?_
            rintro e w6 ⟨rfl, h6, hb6, hz6⟩
            have H6 := Lib.hid h6
            have HB6 := Lib.hid (HB.out.trans hb6)
            have hro := HRo.out.only hb6 (by omega)
            have hrow := HRR.out.only hb6 (by omega)
            have HKd6 := Lib.hid (HKd.out.only hb6 (fun j (hj : j = b) => show j < ob + 1 by omega))
            have a0 := hro.cell 0
            have a1 := hro.cell 1
            have a2 := hro.cell 2
            have a3 := hro.cell 3
            have a4 := hro.cell 4
            clear h6 hb6 hz6 hro o0 p2
            have c0 := hrow.cell 0
            have c1 := hrow.cell 1
            have c2 := hrow.cell 2
            have c3 := hrow.cell 3
            have c4 := hrow.cell 4
            have f0 := hrow.frozen 0
            have f1 := hrow.frozen 1
            have f2 := hrow.frozen 2
            have f3 := hrow.frozen 3
            have f4 := hrow.frozen 4
            have hl3 := hrow.lt
            clear hrow
            go_wp2
            have hO := set5 w6 w.heap.size (.int .i64 K) (.int .i64 0) (.bool false) (.int .i64 0) (.slice A i c)
            refine bodyPost_ret (v := feV ⟨K, 0, (false, 0), ⟨A, i, c⟩⟩) (by simp [results, Tryz.results45, go_sem, feV, c0, c1, c2, c3, c4]) rfl ?_
            rw [HRv.out, HQ.out]
            refine ⟨_, rfl, ?_, ?_, ?_⟩
            · obtain ⟨A', c', hv, hc1, hc2⟩ := HKd6.out.shape
              rw [Hel.out] at hv hc1
              cases hv
              have t1 := (HKd6.out.only hO (fun j (hj : j = w.heap.size) => show j < ob + 1 by omega)).exs
              exact ExT.make (t1.mono fun q _ hq => by show w.heap.size ≤ q; omega) Hel.out.symm hc1 hc2 (by have := Hel.out; show es.length ≤ _; omega)
            · exact H6.out.only hO (by omega)
            · exact HB6.out.step hO fun j hj => .inr (by omega)
          · go_wp2_with fail
            refine (HKn.out _).mono ?_
            rintro e w5 ⟨rfl, rfl⟩
            go_wp2_with fail
            refine (eat_ok 41 41 rfl HP.out hL).mono ?_
            rintro e w6 ⟨rfl, h6, hb6, hz6⟩
            have H6 := Lib.hid h6
            have HB6 := Lib.hid (HB.out.trans hb6)
            have hro := HRo.out.only hb6 (by omega)
            have hrow := HRR.out.only hb6 (by omega)
            have HKd6 := Lib.hid (HKd.out.only hb6 (fun j (hj : j = b) => show j < ob + 1 by omega))
            have a0 := hro.cell 0
            have a1 := hro.cell 1
            have a2 := hro.cell 2
            have a3 := hro.cell 3
            have a4 := hro.cell 4
            clear h6 hb6 hz6 hro o0 p2
            have c0 := hrow.cell 0
            have c1 := hrow.cell 1
            have c2 := hrow.cell 2
            have c3 := hrow.cell 3
            have c4 := hrow.cell 4
            have f0 := hrow.frozen 0
            have f1 := hrow.frozen 1
            have f2 := hrow.frozen 2
            have f3 := hrow.frozen 3
            have f4 := hrow.frozen 4
            have hl3 := hrow.lt
            clear hrow
            go_wp2
            have hO := set5 w6 w.heap.size (.int .i64 K) (.int .i64 0) (.bool false) (.int .i64 0) (.slice A i c)
            refine bodyPost_ret (v := feV ⟨K, 0, (false, 0), ⟨A, i, c⟩⟩) (by simp [results, Tryz.results45, go_sem, feV, c0, c1, c2, c3, c4]) rfl ?_
            rw [HRv.out, HQ.out]
            refine ⟨_, rfl, ?_, ?_, ?_⟩
            · obtain ⟨A', c', hv, hc1, hc2⟩ := HKd6.out.shape
              rw [Hel.out] at hv hc1
              cases hv
              have t1 := (HKd6.out.only hO (fun j (hj : j = w.heap.size) => show j < ob + 1 by omega)).exs
              exact ExT.make (t1.mono fun q _ hq => by show w.heap.size ≤ q; omega) Hel.out.symm hc1 hc2 (by have := Hel.out; show es.length ≤ _; omega)
            · exact H6.out.only hO (by omega)
            · exact HB6.out.step hO fun j hj => .inr (by omega)
          · have hd0 : ¬ (0 : Int) < ((0 : Nat) : Int) := by omega
            go_wp2_with fail
            refine (HKn.out _).mono ?_
            rintro e w5 ⟨rfl, rfl⟩
            go_wp2_with fail
            refine (eat_ok 41 41 rfl HP.out hL).mono ?_
            rintro e w6 ⟨rfl, h6, hb6, hz6⟩
            have H6 := Lib.hid h6
            have HB6 := Lib.hid (HB.out.trans hb6)
            have hro := HRo.out.only hb6 (by omega)
            have hrow := HRR.out.only hb6 (by omega)
            have HKd6 := Lib.hid (HKd.out.only hb6 (fun j (hj : j = b) => show j < ob + 1 by omega))
            have a0 := hro.cell 0
            have a1 := hro.cell 1
            have a2 := hro.cell 2
            have a3 := hro.cell 3
            have a4 := hro.cell 4
            clear h6 hb6 hz6 hro o0 p2
            have c0 := hrow.cell 0
            have c1 := hrow.cell 1
            have c2 := hrow.cell 2
            have c3 := hrow.cell 3
            have c4 := hrow.cell 4
            have f0 := hrow.frozen 0
            have f1 := hrow.frozen 1
            have f2 := hrow.frozen 2
            have f3 := hrow.frozen 3
            have f4 := hrow.frozen 4
            have hl3 := hrow.lt
            clear hrow
            go_wp2
            have hO := set5 w6 w.heap.size (.int .i64 K) (.int .i64 0) (.bool false) (.int .i64 0) (.slice A i c)
            refine bodyPost_ret (v := feV ⟨K, 0, (false, 0), ⟨A, i, c⟩⟩) (by simp [results, Tryz.results45, go_sem, feV, c0, c1, c2, c3, c4]) rfl ?_
            rw [HRv.out, HQ.out]
            refine ⟨_, rfl, ?_, ?_, ?_⟩
            · obtain ⟨A', c', hv, hc1, hc2⟩ := HKd6.out.shape
              rw [Hel.out] at hv hc1
              cases hv
              have t1 := (HKd6.out.only hO (fun j (hj : j = w.heap.size) => show j < ob + 1 by omega)).exs
              exact ExT.make (t1.mono fun q _ hq => by show w.heap.size ≤ q; omega) Hel.out.symm hc1 hc2 (by have := Hel.out; show es.length ≤ _; omega)
            · exact H6.out.only hO (by omega)
            · exact HB6.out.step hO fun j hj => .inr (by omega)

theorem spExpr_ok : ∀ d : Nat, d ≤ 8 → PXs d
  | 0, h => spExpr_of 0 h fun d' hd => by omega
  | d + 1, h => spExpr_of (d + 1) h fun d' hd => by
    obtain rfl : d' = d := by omega
    exact spExpr_ok d' (by omega)
end Go.Proofs.YtmhlpjfijpomkaaGreatDoor
