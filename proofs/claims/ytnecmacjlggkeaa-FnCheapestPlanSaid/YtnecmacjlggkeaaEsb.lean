/-
  Several texts in one (StV EsE EsR EsI EsJ).
-/
import Derived.Test.YtnecmacjlggkeaaProg
import Derived.Test.YtnecmacjlggkeaaEsd
import Derived.Test.YtnecmacjlggkeaaEsa
import Derived.Test.YtnecmacjlggkeaaEsL
import Derived.Test.YtnecmacjlggkeaaPlS
import Derived.Deep.CutBlock
import Derived.Deep.DeepCutAuto
import Derived.Test.YtnecmacjlggkeaaRgG
import Derived.Test.YtnecmacjlggkeaaPlI
/-
  Contracts: ValidStats of both programs.
-/
namespace Go.Proofs.Ytnecmacjlggkeaa
open Go.RowKit Go.Qo
set_option linter.unusedVariables false
set_option linter.unusedSimpArgs false

set_option maxRecDepth 20000 in
set_option maxHeartbeats 2000000 in
theorem specValidStats_ok (s : St) (f : FS) (w : World) (r : Bool) (h : StIn w w.heap.size f s) (hsm : StSm s) (hr : r = true ↔ StOk s) :
    Calls Try.prog 47 #[fsV f, .int .i64 s.dist.length] w fun e w' => e = .returned (.bool r) ∧ Below w.heap.size w w' := by
  obtain ⟨W1, hW1⟩ : ∃ z, w.alloc (.cells #[.int .i64 f.rows, .slice f.dv.A f.dv.n f.dv.c, .slice f.nv.A f.nv.n f.nv.c] 33) = z := ⟨_, rfl⟩
  have B1 : Below w.heap.size w W1 := by rw [← hW1]; exact balloc (Below.refl _ _) _
  have r1 : Row W1 w.heap.size 33 [.int .i64 f.rows, .slice f.dv.A f.dv.n f.dv.c, .slice f.nv.A f.nv.n f.nv.c] := by rw [← hW1]; exact Row.new _ _ _
  obtain ⟨q, hq⟩ : ∃ q, (decide (1 ≤ (s.dist.length : Int)) && decide ((s.dist.length : Int) ≤ 6)) = q := ⟨_, rfl⟩
  have HI := Lib.hid (fun z => inRange_ok s.dist.length 1 6 z q hq)
  have c0 := r1.cell 0
  have c1 := r1.cell 1
  have c2 := r1.cell 2
  have HV := Lib.hid (fun h6 => specvalidStats_ok s f W1 r (h.on B1) hsm h6 hr)
  have HB1 := Lib.hid B1
  have HW1 := Lib.hid hW1
  have Hr := Lib.hid hr
  have Hq := Lib.hid hq
  unfold fsV at HV
  unfold fsV
  clear h hsm hr hq B1 r1 hW1
  cases q
  · have Hz := Lib.hid (show r = false from bno Hr.out fun hs => by have := hs.1; have h2 := Hq.out; simp at h2; omega)
    go_enter Try.func47, Try.ntmps47
    go_upto_region 1 with fail
    rw [HW1.out]
    go_wp2_with fail
    refine (HI.out W1).mono ?_
    rintro e w2 ⟨rfl, rfl⟩
    go_wp2
    go_ret
    exact ⟨ret_bool Hz.out.symm, HB1.out⟩
  · have HX := Lib.hid (HV.out (by have h2 := Hq.out; simp at h2; omega))
    go_enter Try.func47, Try.ntmps47
    go_upto_region 1 with fail
    rw [HW1.out]
    go_wp2_with fail
    refine (HI.out W1).mono ?_
    rintro e w2 ⟨rfl, rfl⟩
    go_wp2_with fail
    refine HX.out.mono ?_
    rintro e w3 ⟨rfl, hb3⟩
    go_wp2
    go_ret
    exact ⟨rfl, bch HB1.out hb3⟩

set_option maxRecDepth 20000 in
set_option maxHeartbeats 4000000 in
theorem implValidStats_ok (s : St) (f : FS) (w : World) (r : Bool) (h : StIn w w.heap.size f s) (hsm : StSm s) (hr : r = true ↔ StOk s) :
    Calls Try.prog 44 #[fsV f, .int .i64 s.dist.length] w fun e w' => e = .returned (.bool r) ∧ Below w.heap.size w w' := by
  obtain ⟨a1, ⟨a2, a2', a2''⟩, ⟨a3, a3', a3''⟩, a4, a5⟩ := h
  obtain ⟨W1, hW1⟩ : ∃ z, w.alloc (.cells #[.int .i64 s.rows, .slice f.dv.A s.dist.length f.dv.c, .slice f.nv.A s.nulls.length f.nv.c] 33) = z := ⟨_, rfl⟩
  have B1 : Below w.heap.size w W1 := by rw [← hW1]; exact balloc (Below.refl _ _) _
  have r1 : Row W1 w.heap.size 33 [.int .i64 s.rows, .slice f.dv.A s.dist.length f.dv.c, .slice f.nv.A s.nulls.length f.nv.c] := by rw [← hW1]; exact Row.new _ _ _
  have BX := Lib.hid (fun (z : World) (hz : Below W1.heap.size W1 z) => show z.cell? ⟨w.heap.size, 0, none⟩ = some (.int .i64 s.rows) ∧ z.cell? ⟨w.heap.size, 1, none⟩ = some (.slice f.dv.A s.dist.length f.dv.c) ∧ z.cell? ⟨w.heap.size, 2, none⟩ = some (.slice f.nv.A s.nulls.length f.nv.c) ∧ w.heap.size < z.heap.size from ⟨(r1.on hz).cell 0, (r1.on hz).cell 1, (r1.on hz).cell 2, (r1.on hz).lt⟩)
  have HD := Lib.hid (fun (z : World) (hz : Below W1.heap.size W1 z) => And.intro (a4.on (bch B1 hz)) (a5.on (bch B1 hz)))
  have HB1 := Lib.hid B1
  have HW1 := Lib.hid hW1
  have Hr := Lib.hid hr
  have HS := Lib.hid hsm
  have hnm : s.nulls.length ≤ maxLen ∧ s.dist.length ≤ maxLen := by omega
  unfold maxLen at hnm
  obtain ⟨hnm1, hnm2⟩ := hnm
  obtain ⟨c0, c1, c2, cl⟩ := BX.out _ (Below.refl _ _)
  unfold fsV
  rw [a1, a2, a3]
  clear a1 a2 a2' a2'' a3 a3' a3'' a4 a5 B1 r1 hW1 hr hsm
  have key : s.dist.length < 1 ∨ 6 < s.dist.length ∨ (1 ≤ s.dist.length ∧ s.dist.length ≤ 6) := by omega
  rcases key with hk | hk | ⟨h61, h66⟩
  · have Hz := Lib.hid (show r = false from bno Hr.out fun hs => by have := hs.1; omega)
    have hkI : (s.dist.length : Int) < 1 := by omega
    clear hk
    go_enter Try.func44, Try.ntmps44
    go_upto_region 1 with fail
    rw [HW1.out]
    go_wp2
    go_ret
    exact ⟨ret_bool Hz.out.symm, HB1.out⟩
  · have Hz := Lib.hid (show r = false from bno Hr.out fun hs => by have := hs.1; omega)
    have hkI : (6 : Int) < (s.dist.length : Int) := by omega
    have hkI1 : (1 : Int) ≤ (s.dist.length : Int) := by omega
    clear hk
    go_enter Try.func44, Try.ntmps44
    go_upto_region 1 with fail
    rw [HW1.out]
    go_wp2
    go_ret
    exact ⟨ret_bool Hz.out.symm, HB1.out⟩
  have h61I : (1 : Int) ≤ (s.dist.length : Int) := by omega
  have h66I : (s.dist.length : Int) ≤ 6 := by omega
  have keyr : s.rows < 0 ∨ (0 ≤ s.rows ∧ 400 < s.rows) ∨ (0 ≤ s.rows ∧ s.rows ≤ 400) := by omega
  rcases keyr with hr0 | ⟨hr0, hr4⟩ | ⟨hr0, hr4⟩
  · have Hz := Lib.hid (show r = false from bno Hr.out fun hs => by have := hs.1; omega)
    go_enter Try.func44, Try.ntmps44
    go_upto_region 1 with fail
    rw [HW1.out]
    go_wp2
    go_ret
    exact ⟨ret_bool Hz.out.symm, HB1.out⟩
  · have Hz := Lib.hid (show r = false from bno Hr.out fun hs => by have := hs.1; omega)
    go_enter Try.func44, Try.ntmps44
    go_upto_region 1 with fail
    rw [HW1.out]
    go_wp2
    go_ret
    exact ⟨ret_bool Hz.out.symm, HB1.out⟩
  by_cases hnl : s.nulls.length = s.dist.length
  case neg =>
    have hnl' : ((s.nulls.length : Int) != (s.dist.length : Int)) = true := by
      have : (s.nulls.length : Int) ≠ (s.dist.length : Int) := by omega
      simpa using this
    have Hz := Lib.hid (show r = false from bno Hr.out fun hs => hnl hs.1.2.1)
    clear hnl
    go_enter Try.func44, Try.ntmps44
    go_upto_region 1 with fail
    rw [HW1.out]
    go_wp2
    go_ret
    exact ⟨ret_bool Hz.out.symm, HB1.out⟩
  case pos =>
    have hnl' : ((s.nulls.length : Int) != (s.dist.length : Int)) = false := by simp [hnl]
    have Hnl := Lib.hid hnl
    clear hnl
    go_enter Try.func44, Try.ntmps44
    go_upto_region 1 with fail
    rw [HW1.out]
    go_wp2
    go_loopg [5, 32] s.dist.length (fun g _ iv wr => ∃ i : Nat, i ≤ s.dist.length ∧ g = s.dist.length - i ∧ iv = .int .i64 i ∧ Below W1.heap.size W1 wr ∧ StUp s i)
    case atStart => exact ⟨0, by omega, by omega, rfl, Below.refl _ _, fun i d n hi => absurd hi (by omega)⟩
    case round =>
      obtain ⟨i, hi, rfl, rfl, hb, hup⟩ := hrel
      have HB := Lib.hid hb
      have HU := Lib.hid hup
      obtain ⟨c0, c1, c2, cl⟩ := BX.out _ hb
      clear hb hup
      by_cases hil : i < s.dist.length
      · have hiI : (i : Int) < (s.dist.length : Int) := by omega
        have hin : i < s.nulls.length := by have := Hnl.out; omega
        have hinI : (i : Int) < (s.nulls.length : Int) := by omega
        obtain ⟨bd, od, hAd, hBd, dd⟩ := (HD.out _ HB.out).1.at1 (f := Value.int .i64) hil
        obtain ⟨bn, on_, hAn, hBn, dn⟩ := (HD.out _ HB.out).2.at1 (f := Value.int .i64) hin
        rw [hAd] at c1
        rw [hAn] at c2
        obtain ⟨x, hx⟩ : ∃ x, s.dist[i] = x := ⟨_, rfl⟩
        obtain ⟨n, hn⟩ : ∃ n, s.nulls[i] = n := ⟨_, rfl⟩
        have Hx := Lib.hid (show s.dist[i]? = some x by rw [← hx]; exact List.getElem?_eq_getElem hil)
        have Hn := Lib.hid (show s.nulls[i]? = some n by rw [← hn]; exact List.getElem?_eq_getElem hin)
        have hns : -1000000 ≤ n ∧ n ≤ 1000000 := by rw [← hn]; exact HS.out.2.2 _ (List.getElem_mem hin)
        have hww : IntKind.i64.wrap (s.rows - n) = s.rows - n := IntWalk.i64_in _ (by omega)
        rw [hx] at dd
        rw [hn] at dn
        have C0 := fun z : Aft wr.heap.size wr => z.cell cl c0
        have C1 := fun z : Aft wr.heap.size wr => z.cell cl c1
        have C2 := fun z : Aft wr.heap.size wr => z.cell cl c2
        have D1 := fun z : Aft wr.heap.size wr => z.cell hBd dd
        have D2 := fun z : Aft wr.heap.size wr => z.cell hBn dn
        clear hx hn hns hAd hAn
        have keyn : n < 0 ∨ (0 ≤ n ∧ s.rows < n) ∨ (0 ≤ n ∧ n ≤ s.rows) := by omega
        rcases keyn with hn0 | ⟨hn0, hn1⟩ | ⟨hn0, hn1⟩
        · have Hz := Lib.hid (show r = false from bno Hr.out fun hs => by have := hs.2 i x n Hx.out Hn.out; omega)
          go_wp2
          go_quiet (fail)
          go_wp2
          go_ret
          exact ⟨ret_bool Hz.out.symm, bch HB1.out (bdrewN HB.out nq)⟩
        · have Hz := Lib.hid (show r = false from bno Hr.out fun hs => by have := hs.2 i x n Hx.out Hn.out; omega)
          go_wp2
          go_quiet (fail)
          go_wp2
          go_ret
          exact ⟨ret_bool Hz.out.symm, bch HB1.out (bdrewN HB.out nq)⟩
        · have keyx : x < 0 ∨ (0 ≤ x ∧ s.rows - n < x) ∨ (0 ≤ x ∧ x ≤ s.rows - n) := by omega
          rcases keyx with hx0 | ⟨hx0, hx1⟩ | ⟨hx0, hx1⟩
          · have Hz := Lib.hid (show r = false from bno Hr.out fun hs => by have := hs.2 i x n Hx.out Hn.out; omega)
            go_wp2
            go_quiet (fail)
            go_wp2
            go_quiet (fail)
            go_wp2
            go_ret
            exact ⟨ret_bool Hz.out.symm, bch HB1.out (bdrewN (bdrewN HB.out _) _)⟩
          · have Hz := Lib.hid (show r = false from bno Hr.out fun hs => by have := hs.2 i x n Hx.out Hn.out; omega)
            go_wp2
            go_quiet (fail)
            go_wp2
            go_quiet (fail)
            go_wp2
            go_ret
            exact ⟨ret_bool Hz.out.symm, bch HB1.out (bdrewN (bdrewN HB.out _) _)⟩
          · have Hy := Lib.hid (HU.out.next Hx.out Hn.out ⟨⟨hn0, hn1⟩, hx0, hx1⟩)
            go_wp2
            go_quiet (fail)
            go_wp2
            go_quiet (fail)
            go_wp2
            go_roundg (s.dist.length - (i + 1))
            case measure => omega
            case rel => exact ⟨i + 1, by omega, rfl, by go_num, bdrewN HB.out _, Hy.out⟩
      · have hiI : ¬ (i : Int) < (s.dist.length : Int) := by omega
        have Hz := Lib.hid (show r = true from Hr.out.2 ⟨⟨⟨h61, h66⟩, Hnl.out, hr0, hr4⟩, StUp.all (show StUp s s.dist.length from (show i = s.dist.length by omega) ▸ HU.out)⟩)
        go_wp2
        go_ret
        exact ⟨ret_bool Hz.out.symm, bch HB1.out HB.out⟩
end Go.Proofs.Ytnecmacjlggkeaa

/-
  Contracts: estimate, estimateCost of the reference. (Printed by wip/ese.py.)
-/
namespace Go.Proofs.Ytnecmacjlggkeaa
open Go.RowKit Go.Qo
set_option linter.unusedVariables false
set_option linter.unusedSimpArgs false

def wsOf (ss : List St) : List Int := ss.map fun s => (s.dist.length : Int)
/-- A valid plan's expression is valid. -/
theorem pl_expr {ws : List Int} {d : Nat} {p : Pl} (hv : plW ws d p ≠ 0) (hk : p.kind = 2 ∨ p.kind = 4 ∨ p.kind = 5) : 0 < p.exprs.length ∧ ∀ e ∈ p.exprs, ∃ width : Int, ExOk width 8 e ∧ (p.kind = 2 → width = kidW (plW ws (d - 1)) p 0) := by
  have ho : OnlyF p := Classical.byContradiction fun hn => hv (plW_no hn)
  have hel : p.exprs.length = 1 := by
    have := ho.2.2.1
    unfold nexprs at this
    rw [if_pos hk] at this
    omega
  have hkp : 0 < p.kids.length := by
    have := ho.2.1
    unfold nkids at this
    rw [if_neg (by omega)] at this
    split at this <;> omega
  have hd : 0 < d := by
    obtain ⟨_, k, h, _⟩ := plW_kids hv (List.getElem_mem hkp)
    omega
  have hx : ∀ x ∈ p.kids, plW ws (d - 1) x ≠ 0 := fun x hx => by
    obtain ⟨_, k, h, hv2⟩ := plW_kids hv hx
    obtain rfl : k = d - 1 := by omega
    exact hv2
  rw [plW_top ho (fun _ => hd) hx] at hv
  unfold topW at hv
  refine ⟨by omega, fun e he => ?_⟩
  rw [if_neg (by omega)] at hv
  by_cases h2 : p.kind = 2
  · rw [if_pos h2] at hv
    have h3 := Classical.byContradiction fun hn => hv (if_neg hn)
    exact ⟨_, (h3 e he).2, fun _ => rfl⟩
  · rw [if_neg h2, if_neg (by omega), if_pos (by omega)] at hv
    have h3 := Classical.byContradiction fun hn => hv (if_neg hn)
    exact ⟨_, (h3.2 e he).2, fun h => absurd h h2⟩
theorem wsOf_getD (ss : List St) (t : Int) : (wsOf ss).getD t.toNat 0 = ((stAt ss t).dist.length : Int) := by
  unfold wsOf stAt
  rw [List.getD_eq_getElem?_getD, List.getD_eq_getElem?_getD, List.getElem?_map]
  by_cases ht : t.toNat < ss.length
  · rw [List.getElem?_eq_getElem ht]; rfl
  · rw [List.getElem?_eq_none (by omega)]; rfl
theorem stAt_at {ss : List St} {j : Nat} (h : j < ss.length) : stAt ss (j : Int) = ss[j] := by
  unfold stAt
  rw [Int.toNat_natCast, List.getD_eq_getElem?_getD, List.getElem?_eq_getElem h]
  rfl
/-- A valid scan's table, and its width. -/
theorem pl_scan {ss : List St} {d : Nat} {p : Pl} (hv : plW (wsOf ss) d p ≠ 0) (hk : p.kind = 1) : ∃ j : Nat, p.table = j ∧ j < ss.length ∧ plW (wsOf ss) d p = ((stAt ss p.table).dist.length : Int) := by
  have hsc := plW_scan hv hk
  obtain ⟨j, hj⟩ := Int.eq_ofNat_of_zero_le hsc.1
  have hl : (wsOf ss).length = ss.length := by unfold wsOf; rw [List.length_map]
  refine ⟨j, hj, by omega, ?_⟩
  have ho : OnlyF p := Classical.byContradiction fun hn => hv (plW_no hn)
  have hkl : p.kids.length = 0 := by
    have := ho.2.1
    rw [hk] at this
    simp [nkids] at this
    simpa using this
  have hkn : p.kids = [] := List.eq_nil_of_length_eq_zero hkl
  rw [plW_top ho (by omega) (by rw [hkn]; intro x hx; cases hx)]
  unfold topW
  rw [if_pos hk, if_pos hsc, wsOf_getD]
theorem kidP_at {ks : List Pl} {i : Nat} (h : i < ks.length) : kidP ks i = ks[i] := by
  unfold kidP
  rw [List.getD_eq_getElem?_getD, List.getElem?_eq_getElem h]
  rfl
theorem at0_kidP {f : Pl → Int} {ks : List Pl} {i : Nat} (h : i < ks.length) : at0 (ks.map f) i = f ks[i] := by
  unfold at0
  rw [List.getD_eq_getElem?_getD, List.getElem?_map, List.getElem?_eq_getElem h]
  rfl
/-- Scaled by a permille. -/
theorem sc_mul {a p : Int} (ha : 0 ≤ a ∧ a ≤ 1000000000) (hp : 0 ≤ p ∧ p ≤ 1000) : IntKind.i64.wrap (a * p) = a * p ∧ IntKind.i64.wrap (a * p / 1000) = a * p / 1000 ∧ (a * p).tdiv 1000 = a * p / 1000 ∧ 0 ≤ a * p := by
  have h := scale_le ha.1 hp
  exact ⟨IntWalk.i64_in _ (by omega), IntWalk.i64_in _ (by omega), Int.tdiv_eq_ediv_of_nonneg h.1, h.1⟩
/-- The lesser of a product and the greatest bound. -/
theorem mn_mul {a b : Int} (ha : 0 ≤ a ∧ a ≤ 1000000000) (hb : 0 ≤ b ∧ b ≤ 1000000000) : IntKind.i64.wrap (a * b) = a * b ∧ 0 ≤ a * b := by
  have h := mul_le ha hb
  exact ⟨IntWalk.i64_in _ (by omega), h.1⟩

def EsS (p : Pl) : Prop := ∀ (f : FP) (ss : List St) (A : Option Addr) (c d : Nat) (w : World) (R : Int), PlIn w w.heap.size f p → plW (wsOf ss) d p ≠ 0 → SsOk ss → StsIn w w.heap.size A ss → ss.length ≤ 4 → p.est ss = R →
  Calls Try.prog 29 #[fpV f, .slice A ss.length c] w fun e w' => e = .returned (.int .i64 R) ∧ Below w.heap.size w w'
set_option maxRecDepth 20000 in
set_option maxHeartbeats 8000000 in
theorem estimate_ok : ∀ p : Pl, EsS p := Pl.ind fun p ih f ss A c d w R h hv hss hsl hs4 hr => by
  obtain ⟨a1, a2, ⟨a3, a3', a3''⟩, ⟨a4, a4', a4''⟩, ⟨a5, a5', a5''⟩, a6, a7⟩ := h.flat
  obtain ⟨W1, hW1⟩ : ∃ z, w.alloc (.cells #[.int .i64 p.kind, .int .i64 p.table, .slice f.es.A p.exprs.length f.es.c, .slice f.cs.A p.cols.length f.cs.c, .slice f.ks.A p.kids.length f.ks.c] 27) = z := ⟨_, rfl⟩
  have B1 : Below w.heap.size w W1 := by rw [← hW1]; exact balloc (Below.refl _ _) _
  have r1 : Row W1 w.heap.size 27 [.int .i64 p.kind, .int .i64 p.table, .slice f.es.A p.exprs.length f.es.c, .slice f.cs.A p.cols.length f.cs.c, .slice f.ks.A p.kids.length f.ks.c] := by rw [← hW1]; exact Row.new _ _ _
  have hbw : w.heap.size < W1.heap.size := r1.lt
  have BX := Lib.hid (fun (z : World) (hz : Below W1.heap.size W1 z) => show z.cell? ⟨w.heap.size, 0, none⟩ = some (.int .i64 p.kind) ∧ z.cell? ⟨w.heap.size, 1, none⟩ = some (.int .i64 p.table) ∧ z.cell? ⟨w.heap.size, 2, none⟩ = some (.slice f.es.A p.exprs.length f.es.c) ∧ z.cell? ⟨w.heap.size, 3, none⟩ = some (.slice f.cs.A p.cols.length f.cs.c) ∧ z.cell? ⟨w.heap.size, 4, none⟩ = some (.slice f.ks.A p.kids.length f.ks.c) from ⟨(r1.on hz).cell 0, (r1.on hz).cell 1, (r1.on hz).cell 2, (r1.on hz).cell 3, (r1.on hz).cell 4⟩)
  have HW1 := Lib.hid hW1
  have HK := Lib.hid (fun (z : World) (hz : Below w.heap.size w z) (i : Nat) (hi : i < p.kids.length) => (h.on hz).kid hi)
  have HE := Lib.hid (fun (z : World) (hz : Below w.heap.size w z) => a6.on hz)
  have HS := Lib.hid (fun (z : World) (hz : Below w.heap.size w z) => hsl.on hz)
  have HB1 := Lib.hid B1
  have IH := Lib.hid ih
  have HV := Lib.hid hv
  have HC := Lib.hid hss
  have He := Lib.hid (show R = topE ss p.kind p.table p.exprs p.cols.length p.kids (p.kids.map (Pl.est ss)) by rw [← hr]; exact est_eq ss p)
  have hof : OnlyF p := Classical.byContradiction fun hn => hv (plW_no hn)
  have Hof := Lib.hid hof
  have hkb : p.kids.length ≤ maxLen ∧ p.cols.length ≤ maxLen ∧ p.exprs.length ≤ maxLen := by omega
  unfold maxLen at hkb
  obtain ⟨hkb1, hkb2, hkb3⟩ := hkb
  unfold fpV
  rw [a1, a2, a3, a4, a5]
  obtain ⟨c0, c1, c2, c3, c4⟩ := BX.out _ (Below.refl _ _)
  clear h hv hss hsl hr ih a1 a2 a3 a4 a5 a3' a3'' a4' a4'' a5' a5'' a6 a7 B1 hof r1 hW1
  by_cases hk1 : p.kind = 1
  · obtain ⟨j, hj, hjl, _⟩ := pl_scan HV.out hk1
    have Hz := Lib.hid (show R = (ss[j]).rows by rw [He.out]; unfold topE; rw [if_pos hk1, hj, stAt_at hjl])
    obtain ⟨bs, os, sf, hAs, hBs, ⟨s0, s1, s2⟩, hsi⟩ := (HS.out _ HB1.out).at_ hjl
    have t1 := hsi.1
    rw [t1] at s0
    subst hAs
    have hjI : (j : Int) < (ss.length : Int) := by omega
    rw [hk1] at c0
    rw [hj] at c1
    clear hk1 hj hsi t1
    go_enter Try.func29, Try.ntmps29
    go_upto_region 1 with fail
    rw [HW1.out]
    go_wp2
    go_ret
    exact ⟨ret_int Hz.out.symm, HB1.out⟩
  have hk1' : (p.kind == 1) = false := by simpa using hk1
  have hkp : 0 < p.kids.length := by
    have := Hof.out.2.1
    unfold nkids at this
    rw [if_neg hk1] at this
    split at this <;> omega
  obtain ⟨_, e, rfl, hv0⟩ := plW_kids HV.out (List.getElem_mem hkp)
  obtain ⟨n, hn⟩ : ∃ n, (p.kids[0]).est ss = n := ⟨_, rfl⟩
  have hnr : 0 ≤ n ∧ n ≤ 1000000000 := by rw [← hn]; exact est_range HC.out _
  obtain ⟨q0, o0, g, hA0, hq0, hgat, hg⟩ := HK.out _ HB1.out 0 hkp
  have HX0 := Lib.hid (IH.out _ (List.getElem_mem hkp) g ss A c e W1 n hg hv0 HC.out (HS.out _ HB1.out) hs4 hn)
  have Hat0 := Lib.hid (show at0 (p.kids.map (Pl.est ss)) 0 = n by rw [at0_kidP hkp]; exact hn)
  have hAk := Lib.hid hA0
  obtain ⟨d0, d1, d2, d3, d4⟩ := hgat
  simp only [Nat.zero_mul, Nat.add_zero] at d0 d1 d2 d3 d4
  rw [hA0] at c4
  have hkpI : (0 : Int) < (p.kids.length : Int) := by omega
  unfold fpV at HX0
  have Hk1 := Lib.hid hk1
  have Hv0 := Lib.hid hv0
  have Hg0 := Lib.hid (And.intro hg.flat.1 hg.flat.2.1)
  clear hn hg hA0 hk1 hv0
  by_cases hk2 : p.kind = 2
  · obtain ⟨hep, hex⟩ := pl_expr HV.out (.inl hk2)
    have hepI : (0 : Int) < (p.exprs.length : Int) := by omega
    obtain ⟨width, hok, hwid⟩ := hex _ (List.getElem_mem hep)
    have hwid := hwid hk2
    rw [hk2] at c0
    have Hk2 := Lib.hid hk2
    have Hz := Lib.hid (show R = n * fltP ss p.exprs[0] p.kids[0] / 1000 by
      rw [He.out]; unfold topE; rw [if_neg Hk1.out, if_pos hk2, Hat0.out, kidE_at hep, kidP_at hkp])
    by_cases hkk : (p.kids[0]).kind = 1
    · obtain ⟨j, hj, hjl, hjw⟩ := pl_scan Hv0.out hkk
      have hjI : (j : Int) < (ss.length : Int) := by omega
      have hst : StOk ss[j] := HC.out _ (List.getElem_mem hjl)
      have hww : width = (ss[j]).dist.length := by
        rw [hwid]
        show kidW (plW (wsOf ss) (e + 1 - 1)) p 0 = _
        unfold kidW
        rw [List.getElem?_eq_getElem hkp]
        show plW (wsOf ss) e p.kids[0] = _
        rw [hjw, hj, stAt_at hjl]
      obtain ⟨m, hm⟩ : ∃ m, (p.exprs[0]).perm ss[j] = m := ⟨_, rfl⟩
      have hmr : 0 ≤ m ∧ m ≤ 1000 := by rw [← hm]; exact perm_range hst _
      have Hv := Lib.hid (show R = n * m / 1000 by rw [Hz.out]; unfold fltP; rw [if_pos hkk, hj, stAt_at hjl, hm])
      obtain ⟨p1, p2, p3, p4⟩ := sc_mul hnr hmr
      have Hkk := Lib.hid (And.intro hkk hj)
      have Hpm := Lib.hid (And.intro hok (And.intro hst (And.intro hww hm)))
      clear hk2 hex hok hwid hkk hj hjw hst hww hm
      go_enter Try.func29, Try.ntmps29
      go_upto_region 1 with fail
      rw [HW1.out]
      go_wp2_with fail
      refine HX0.out.mono ?_
      rintro e' w2 ⟨rfl, hb2⟩
      obtain ⟨e0, e1, e2, e3, e4⟩ := BX.out w2 hb2
      rw [Hk2.out] at e0
      rw [hAk.out] at e4
      have HB2 := Lib.hid hb2
      have hW2 := hb2.size
      have hbw2 : w.heap.size < w2.heap.size := by omega
      have hq2 : q0 < w2.heap.size := by omega
      have l0 := (hb2.cell (p := ⟨_, _, none⟩) hq0).trans d0
      have l1 := (hb2.cell (p := ⟨_, _, none⟩) hq0).trans d1
      rw [Hg0.out.1, Hkk.out.1] at l0
      rw [Hg0.out.2, Hkk.out.2] at l1
      obtain ⟨be, oe, ge, hAe, hBe, ⟨y0, y1, y2, y3, y4⟩, hge⟩ := (HE.out _ (bch HB1.out hb2)).at_ hep
      simp only [Nat.zero_mul, Nat.add_zero] at y0 y1 y2 y3 y4
      rw [hAe] at e2
      obtain ⟨bs, os, sf, hAs, hBs, ⟨s0, s1, s2⟩, hsi⟩ := (HS.out _ (bch HB1.out hb2)).at_ hjl
      have HPM := Lib.hid (fun z : Aft w2.heap.size w2 => permille_ok p.exprs[0] ge ss[j] sf z.v width 8 m (hge.on z.h) Hpm.out.1 Hpm.out.2.1 Hpm.out.2.2.1 (hsi.on z.h) Hpm.out.2.2.2)
      unfold feV fsV at HPM
      have E2 := fun z : Aft w2.heap.size w2 => z.cell hbw2 e2
      have E4 := fun z : Aft w2.heap.size w2 => z.cell hbw2 e4
      have L1 := fun z : Aft w2.heap.size w2 => z.cell hq2 l1
      have Y0 := fun z : Aft w2.heap.size w2 => z.cell hBe y0
      have Y1 := fun z : Aft w2.heap.size w2 => z.cell hBe y1
      have Y2 := fun z : Aft w2.heap.size w2 => z.cell hBe y2
      have Y3 := fun z : Aft w2.heap.size w2 => z.cell hBe y3
      have Y4 := fun z : Aft w2.heap.size w2 => z.cell hBe y4
      have S0 := fun z : Aft w2.heap.size w2 => z.cell hBs s0
      have S1 := fun z : Aft w2.heap.size w2 => z.cell hBs s1
      have S2 := fun z : Aft w2.heap.size w2 => z.cell hBs s2
      subst hAs
      clear hb2 hAe hge hsi
      go_wp2
      refine wp_region_aft w2.heap.size (by kernel_rfl) (by kernel_rfl) ?_
      repeat (go_big_quiet_step ((go_at_call 48; exact Calls.aft (Nat.le_refl _) (HPM.out _))))
      refine wpQuiet_nil ?_
      intro w3 hw'
      obtain ⟨⟨_, hb3⟩, rfl⟩ := hw'
      go_wp2
      go_ret
      exact ⟨ret_int Hv.out.symm, bch HB1.out (bch HB2.out hb3)⟩
    · obtain ⟨m, hm⟩ : ∃ m, (p.exprs[0]).fixed = m := ⟨_, rfl⟩
      have hmr : 0 ≤ m ∧ m ≤ 1000 := by rw [← hm]; exact fixed_range _
      have Hv := Lib.hid (show R = n * m / 1000 by rw [Hz.out]; unfold fltP; rw [if_neg hkk, hm])
      obtain ⟨p1, p2, p3, p4⟩ := sc_mul hnr hmr
      have hkk' : ((p.kids[0]).kind == 1) = false := by simpa using hkk
      have Hpm := Lib.hid (And.intro hok hm)
      clear hk2 hex hok hwid hkk hm
      go_enter Try.func29, Try.ntmps29
      go_upto_region 1 with fail
      rw [HW1.out]
      go_wp2_with fail
      refine HX0.out.mono ?_
      rintro e' w2 ⟨rfl, hb2⟩
      obtain ⟨e0, e1, e2, e3, e4⟩ := BX.out w2 hb2
      rw [Hk2.out] at e0
      rw [hAk.out] at e4
      have HB2 := Lib.hid hb2
      have l0 := (hb2.cell (p := ⟨_, _, none⟩) hq0).trans d0
      rw [Hg0.out.1] at l0
      obtain ⟨be, oe, ge, hAe, hBe, ⟨y0, y1, y2, y3, y4⟩, hge⟩ := (HE.out _ (bch HB1.out hb2)).at_ hep
      simp only [Nat.zero_mul, Nat.add_zero] at y0 y1 y2 y3 y4
      rw [hAe] at e2
      have HFX := Lib.hid (specFixed_ok p.exprs[0] ge w2 width 8 m hge Hpm.out.1 Hpm.out.2)
      unfold feV at HFX
      clear hb2 hAe hge
      go_wp2_with fail
      refine HFX.out.mono ?_
      rintro e' w3 ⟨rfl, hb3⟩
      go_wp2
      go_ret
      exact ⟨ret_int Hv.out.symm, bch HB1.out (bch HB2.out hb3)⟩
  have hk2' : (p.kind == 2) = false := by simpa using hk2
  by_cases hk45 : p.kind = 4 ∨ p.kind = 5
  · obtain ⟨hep, hex⟩ := pl_expr HV.out (.inr hk45)
    have hepI : (0 : Int) < (p.exprs.length : Int) := by omega
    obtain ⟨width, hok, _⟩ := hex _ (List.getElem_mem hep)
    have hkl2 : 1 < p.kids.length := by
      have := Hof.out.2.1
      unfold nkids at this
      rw [if_neg Hk1.out, if_pos (by omega)] at this
      omega
    have hk2I : (1 : Int) < (p.kids.length : Int) := by omega
    obtain ⟨_, e2', he2, hv1⟩ := plW_kids HV.out (List.getElem_mem hkl2)
    obtain rfl : e2' = e := by omega
    obtain ⟨m, hm⟩ : ∃ m, (p.kids[1]).est ss = m := ⟨_, rfl⟩
    have hmr : 0 ≤ m ∧ m ≤ 1000000000 := by rw [← hm]; exact est_range HC.out _
    obtain ⟨x, hx⟩ : ∃ x, (p.exprs[0]).fixed = x := ⟨_, rfl⟩
    have hxr : 0 ≤ x ∧ x ≤ 1000 := by rw [← hx]; exact fixed_range _
    obtain ⟨q1, q2⟩ := mn_mul hnr hmr
    obtain ⟨mn, hmn⟩ : ∃ mn, (if 1000000000 < n * m then 1000000000 else n * m) = mn := ⟨_, rfl⟩
    have hmne : min (n * m) 1000000000 = mn := by rw [← hmn]; split <;> omega
    have hmnr : 0 ≤ mn ∧ mn ≤ 1000000000 := by rw [← hmne]; omega
    obtain ⟨p1, p2, p3, p4⟩ := sc_mul hmnr hxr
    obtain ⟨T, hT⟩ : ∃ T, mn * x / 1000 = T := ⟨_, rfl⟩
    have hwT : IntKind.i64.wrap T = T := by rw [← hT]; exact p2
    have Hj := Lib.hid (show min (at0 (p.kids.map (Pl.est ss)) 0 * at0 (p.kids.map (Pl.est ss)) 1) 1000000000 * (kidE p.exprs 0).fixed / 1000 = T by
      rw [Hat0.out, at0_kidP hkl2, kidE_at hep, hm, hx, hmne, hT])
    have Hpm := Lib.hid (And.intro hok (And.intro hx (And.intro hv1 hm)))
    have hk45' := hk45
    clear hex hok he2 hv1 hm hx hmne hk45
    rcases hk45' with hk | hk
    · have Hv := Lib.hid (show R = T by rw [He.out]; unfold topE; rw [if_neg Hk1.out, if_neg hk2, if_pos hk, Hj.out])
      rw [hk] at c0
      have Hk := Lib.hid hk
      have Hmn := Lib.hid hmn
      have HT := Lib.hid hT
      clear hk hk2 hmn hT
      go_enter Try.func29, Try.ntmps29
      go_upto_region 1 with fail
      rw [HW1.out]
      go_wp2_with fail
      refine HX0.out.mono ?_
      rintro e' w2 ⟨rfl, hb2⟩
      obtain ⟨e0, e1, e2, e3, e4⟩ := BX.out w2 hb2
      rw [hAk.out] at e4
      rw [Hk.out] at e0
      have HB2 := Lib.hid hb2
      have hbw2 : w.heap.size < w2.heap.size := Nat.lt_of_lt_of_le hbw hb2.size
      obtain ⟨q1', o1, g1, hA1, hq1, ⟨k0, k1, k2, k3, k4⟩, hg1⟩ := HK.out w2 (bch HB1.out hb2) 1 hkl2
      rw [hAk.out] at hA1
      cases hA1
      simp only [Nat.one_mul] at k0 k1 k2 k3 k4
      obtain ⟨be, oe, ge, hAe, hBe, ⟨y0, y1, y2, y3, y4⟩, hge⟩ := (HE.out _ (bch HB1.out hb2)).at_ hep
      simp only [Nat.zero_mul, Nat.add_zero] at y0 y1 y2 y3 y4
      rw [hAe] at e2
      have HX1 := Lib.hid (fun z : Aft w2.heap.size w2 => IH.out _ (List.getElem_mem hkl2) g1 ss A c e2' z.v m (hg1.on z.h) Hpm.out.2.2.1 HC.out (HS.out _ (bch HB1.out (bch HB2.out z.h))) hs4 Hpm.out.2.2.2)
      have HFX := Lib.hid (fun z : Aft w2.heap.size w2 => specFixed_ok p.exprs[0] ge z.v width 8 x (hge.on z.h) Hpm.out.1 Hpm.out.2.1)
      unfold fpV at HX1
      unfold feV at HFX
      have hmin := Hmn.out
      have hTT := HT.out
      have E0 := fun z : Aft w2.heap.size w2 => z.cell hbw2 e0
      have E2 := fun z : Aft w2.heap.size w2 => z.cell hbw2 e2
      have E4 := fun z : Aft w2.heap.size w2 => z.cell hbw2 e4
      have E0' := Lib.hid E0
      have K0 := fun z : Aft w2.heap.size w2 => z.cell hq1 k0
      have K1 := fun z : Aft w2.heap.size w2 => z.cell hq1 k1
      have K2 := fun z : Aft w2.heap.size w2 => z.cell hq1 k2
      have K3 := fun z : Aft w2.heap.size w2 => z.cell hq1 k3
      have K4 := fun z : Aft w2.heap.size w2 => z.cell hq1 k4
      have Y0 := fun z : Aft w2.heap.size w2 => z.cell hBe y0
      have Y1 := fun z : Aft w2.heap.size w2 => z.cell hBe y1
      have Y2 := fun z : Aft w2.heap.size w2 => z.cell hBe y2
      have Y3 := fun z : Aft w2.heap.size w2 => z.cell hBe y3
      have Y4 := fun z : Aft w2.heap.size w2 => z.cell hBe y4
      clear hb2 hAe hge hg1
      go_wp2
      refine wp_region_aft w2.heap.size (by kernel_rfl) (by kernel_rfl) ?_
      repeat (go_big_quiet_step (first | (go_at_call 29; exact Calls.aft (Nat.le_refl _) (HX1.out _)) | (go_at_call 49; exact Calls.aft (Nat.le_refl _) (HFX.out _))))
      refine wpQuiet_nil ?_
      intro w3 hw'
      obtain ⟨⟨_, hb3⟩, rfl⟩ := hw'
      have f0 := E0'.out ⟨w3, hb3⟩
      dsimp only at f0
      clear E0 E2 E4 K0 K1 K2 K3 K4 Y0 Y1 Y2 Y3 Y4
      go_wp2
      all_goals go_ret
      exact ⟨ret_int Hv.out.symm, bch HB1.out (bch HB2.out hb3)⟩
    · have Hv := Lib.hid (show R = max T n by rw [He.out]; unfold topE; rw [if_neg Hk1.out, if_neg hk2, if_neg (by omega), if_pos hk, Hj.out, Hat0.out])
      rw [hk] at c0
      have Hk := Lib.hid hk
      have Hmn := Lib.hid hmn
      have HT := Lib.hid hT
      clear hk hk2 hmn hT
      go_enter Try.func29, Try.ntmps29
      go_upto_region 1 with fail
      rw [HW1.out]
      go_wp2_with fail
      refine HX0.out.mono ?_
      rintro e' w2 ⟨rfl, hb2⟩
      obtain ⟨e0, e1, e2, e3, e4⟩ := BX.out w2 hb2
      rw [hAk.out] at e4
      rw [Hk.out] at e0
      have HB2 := Lib.hid hb2
      have hbw2 : w.heap.size < w2.heap.size := Nat.lt_of_lt_of_le hbw hb2.size
      obtain ⟨q1', o1, g1, hA1, hq1, ⟨k0, k1, k2, k3, k4⟩, hg1⟩ := HK.out w2 (bch HB1.out hb2) 1 hkl2
      rw [hAk.out] at hA1
      cases hA1
      simp only [Nat.one_mul] at k0 k1 k2 k3 k4
      obtain ⟨be, oe, ge, hAe, hBe, ⟨y0, y1, y2, y3, y4⟩, hge⟩ := (HE.out _ (bch HB1.out hb2)).at_ hep
      simp only [Nat.zero_mul, Nat.add_zero] at y0 y1 y2 y3 y4
      rw [hAe] at e2
      have HX1 := Lib.hid (fun z : Aft w2.heap.size w2 => IH.out _ (List.getElem_mem hkl2) g1 ss A c e2' z.v m (hg1.on z.h) Hpm.out.2.2.1 HC.out (HS.out _ (bch HB1.out (bch HB2.out z.h))) hs4 Hpm.out.2.2.2)
      have HFX := Lib.hid (fun z : Aft w2.heap.size w2 => specFixed_ok p.exprs[0] ge z.v width 8 x (hge.on z.h) Hpm.out.1 Hpm.out.2.1)
      unfold fpV at HX1
      unfold feV at HFX
      have hmin := Hmn.out
      have hTT := HT.out
      have E0 := fun z : Aft w2.heap.size w2 => z.cell hbw2 e0
      have E2 := fun z : Aft w2.heap.size w2 => z.cell hbw2 e2
      have E4 := fun z : Aft w2.heap.size w2 => z.cell hbw2 e4
      have E0' := Lib.hid E0
      have K0 := fun z : Aft w2.heap.size w2 => z.cell hq1 k0
      have K1 := fun z : Aft w2.heap.size w2 => z.cell hq1 k1
      have K2 := fun z : Aft w2.heap.size w2 => z.cell hq1 k2
      have K3 := fun z : Aft w2.heap.size w2 => z.cell hq1 k3
      have K4 := fun z : Aft w2.heap.size w2 => z.cell hq1 k4
      have Y0 := fun z : Aft w2.heap.size w2 => z.cell hBe y0
      have Y1 := fun z : Aft w2.heap.size w2 => z.cell hBe y1
      have Y2 := fun z : Aft w2.heap.size w2 => z.cell hBe y2
      have Y3 := fun z : Aft w2.heap.size w2 => z.cell hBe y3
      have Y4 := fun z : Aft w2.heap.size w2 => z.cell hBe y4
      clear hb2 hAe hge hg1
      go_wp2
      refine wp_region_aft w2.heap.size (by kernel_rfl) (by kernel_rfl) ?_
      repeat (go_big_quiet_step (first | (go_at_call 29; exact Calls.aft (Nat.le_refl _) (HX1.out _)) | (go_at_call 49; exact Calls.aft (Nat.le_refl _) (HFX.out _))))
      refine wpQuiet_nil ?_
      intro w3 hw'
      obtain ⟨⟨_, hb3⟩, rfl⟩ := hw'
      have f0 := E0'.out ⟨w3, hb3⟩
      dsimp only at f0
      clear E0 E2 E4 K0 K1 K2 K3 K4 Y0 Y1 Y2 Y3 Y4
      go_wp2
      all_goals go_ret
      all_goals exact ⟨ret_int (by rw [Hv.out]; omega), bch HB1.out (bch HB2.out hb3)⟩
  have hk4' : (p.kind == 4) = false := by
    have : p.kind ≠ 4 := by omega
    simpa using this
  have hk5' : (p.kind == 5) = false := by
    have : p.kind ≠ 5 := by omega
    simpa using this
  have h4 : ¬ p.kind = 4 := by omega
  have h5 : ¬ p.kind = 5 := by omega
  by_cases hk6 : p.kind = 6
  · have hkl2 : 1 < p.kids.length := by
      have := Hof.out.2.1
      unfold nkids at this
      rw [if_neg Hk1.out, if_pos (by omega)] at this
      omega
    have hk2I : (1 : Int) < (p.kids.length : Int) := by omega
    obtain ⟨_, e2', he2, hv1⟩ := plW_kids HV.out (List.getElem_mem hkl2)
    obtain rfl : e2' = e := by omega
    obtain ⟨m, hm⟩ : ∃ m, (p.kids[1]).est ss = m := ⟨_, rfl⟩
    have hmr : 0 ≤ m ∧ m ≤ 1000000000 := by rw [← hm]; exact est_range HC.out _
    have Hv := Lib.hid (show R = min (n + m) 1000000000 by rw [He.out]; unfold topE; rw [if_neg Hk1.out, if_neg hk2, if_neg h4, if_neg h5, if_pos hk6, Hat0.out, at0_kidP hkl2, hm])
    have hww : IntKind.i64.wrap (n + m) = n + m := IntWalk.i64_in _ (by omega)
    have Hpm := Lib.hid (And.intro hv1 hm)
    rw [hk6] at c0
    have Hk6 := Lib.hid hk6
    clear he2 hv1 hm hk6 hk2 hk45 h4 h5
    go_enter Try.func29, Try.ntmps29
    go_upto_region 1 with fail
    rw [HW1.out]
    go_wp2_with fail
    refine HX0.out.mono ?_
    rintro e' w2 ⟨rfl, hb2⟩
    obtain ⟨e0, e1, e2, e3, e4⟩ := BX.out w2 hb2
    rw [hAk.out] at e4
    rw [Hk6.out] at e0
    have HB2 := Lib.hid hb2
    obtain ⟨q1, o1, g1, hA1, hq1, ⟨k0, k1, k2, k3, k4⟩, hg1⟩ := HK.out w2 (bch HB1.out hb2) 1 hkl2
    rw [hAk.out] at hA1
    cases hA1
    simp only [Nat.one_mul] at k0 k1 k2 k3 k4
    have HX1 := Lib.hid (IH.out _ (List.getElem_mem hkl2) g1 ss A c e2' w2 m hg1 Hpm.out.1 HC.out (HS.out w2 (bch HB1.out hb2)) hs4 Hpm.out.2)
    unfold fpV at HX1
    clear hb2 hg1
    go_wp2_with fail
    refine HX1.out.mono ?_
    rintro e' w3 ⟨rfl, hb3⟩
    go_wp2
    all_goals go_ret
    all_goals exact ⟨ret_int (by rw [Hv.out]; omega), bch HB1.out (bch HB2.out hb3)⟩
  have hk6' : (p.kind == 6) = false := by simpa using hk6
  by_cases hk8 : p.kind = 8
  · rw [hk8] at c0
    have Hk8 := Lib.hid hk8
    by_cases hcz : p.cols.length = 0
    · have hcz' : ((p.cols.length : Int) == 0) = true := by simp [hcz]
      have Hv := Lib.hid (show R = min n 1 by rw [He.out]; unfold topE; rw [if_neg Hk1.out, if_neg hk2, if_neg h4, if_neg h5, if_neg hk6, if_pos ⟨hk8, hcz⟩, Hat0.out])
      clear hcz hk8 hk2 hk45 h4 h5 hk6
      go_enter Try.func29, Try.ntmps29
      go_upto_region 1 with fail
      rw [HW1.out]
      go_wp2_with fail
      refine HX0.out.mono ?_
      rintro e' w2 ⟨rfl, hb2⟩
      obtain ⟨e0, e1, e2, e3, e4⟩ := BX.out w2 hb2
      rw [Hk8.out] at e0
      go_wp2
      all_goals go_ret
      all_goals exact ⟨ret_int (by rw [Hv.out]; omega), bch HB1.out hb2⟩
    · have hcz' : ((p.cols.length : Int) == 0) = false := by simpa using hcz
      have Hv := Lib.hid (show R = n by rw [He.out]; unfold topE; rw [if_neg Hk1.out, if_neg hk2, if_neg h4, if_neg h5, if_neg hk6, if_neg (fun hh => hcz hh.2), Hat0.out])
      clear hcz hk8 hk2 hk45 h4 h5 hk6
      go_enter Try.func29, Try.ntmps29
      go_upto_region 1 with fail
      rw [HW1.out]
      go_wp2_with fail
      refine HX0.out.mono ?_
      rintro e' w2 ⟨rfl, hb2⟩
      obtain ⟨e0, e1, e2, e3, e4⟩ := BX.out w2 hb2
      rw [Hk8.out] at e0
      go_wp2
      go_ret
      exact ⟨ret_int Hv.out.symm, bch HB1.out hb2⟩
  have hk8' : (p.kind == 8) = false := by simpa using hk8
  have Hv := Lib.hid (show R = n by rw [He.out]; unfold topE; rw [if_neg Hk1.out, if_neg hk2, if_neg h4, if_neg h5, if_neg hk6, if_neg (fun hh => hk8 hh.1), Hat0.out])
  clear hk8 hk2 hk45 h4 h5 hk6
  go_enter Try.func29, Try.ntmps29
  go_upto_region 1 with fail
  rw [HW1.out]
  go_wp2_with fail
  refine HX0.out.mono ?_
  rintro e' w2 ⟨rfl, hb2⟩
  obtain ⟨e0, e1, e2, e3, e4⟩ := BX.out w2 hb2
  go_wp2
  go_ret
  exact ⟨ret_int Hv.out.symm, bch HB1.out hb2⟩

theorem wsOf_length (ss : List St) : (wsOf ss).length = ss.length := by unfold wsOf; rw [List.length_map]
/-- The cost of a valid plan's parts is in range. -/
theorem cost_range {ss : List St} {ws : List Int} {d : Nat} {p : Pl} (h : SsOk ss) (hv : plW ws d p ≠ 0) (hd : d ≤ 8) : 0 ≤ costP ss p ∧ costP ss p ≤ 511000000000 := by
  have h1 := sum_range h p.parts
  have h2 := parts_le d p hv
  have h3 : 2 ^ (d + 1) ≤ 2 ^ 9 := Nat.pow_le_pow_right (by omega) (by omega)
  unfold costP
  omega
theorem costL_le {ss : List St} (h : SsOk ss) (ks : List Pl) (i : Nat) : 0 ≤ costL ss (ks.take i) ∧ costL ss (ks.take i) ≤ costL ss ks := by
  have h0 : partsL ks = partsL (ks.take i) ++ partsL (ks.drop i) := by rw [← partsL_append, List.take_append_drop]
  have h1 := sum_range h (partsL (ks.take i))
  have h2 := sum_range h (partsL (ks.drop i))
  unfold costL
  rw [h0, List.map_append, List.sum_append]
  omega
def EcS (p : Pl) : Prop := ∀ (f : FP) (ss : List St) (A : Option Addr) (c d : Nat) (w : World) (R : Int), PlIn w w.heap.size f p → plW (wsOf ss) d p ≠ 0 → d ≤ 8 → SsOk ss → StsIn w w.heap.size A ss → ss.length ≤ 4 → costP ss p = R →
  Calls Try.prog 30 #[fpV f, .slice A ss.length c] w fun e w' => e = .returned (.int .i64 R) ∧ Below w.heap.size w w'
set_option maxRecDepth 20000 in
set_option maxHeartbeats 4000000 in
theorem estimateCost_ok : ∀ p : Pl, EcS p := Pl.ind fun p ih f ss A c d w R h hv hd8 hss hsl hs4 hr => by
  obtain ⟨a1, a2, ⟨a3, a3', a3''⟩, ⟨a4, a4', a4''⟩, ⟨a5, a5', a5''⟩, a6, a7⟩ := h.flat
  obtain ⟨W1, hW1⟩ : ∃ z, w.alloc (.cells #[.int .i64 f.kind, .int .i64 f.table, .slice f.es.A f.es.n f.es.c, .slice f.cs.A f.cs.n f.cs.c, .slice f.ks.A p.kids.length f.ks.c] 27) = z := ⟨_, rfl⟩
  have B1 : Below w.heap.size w W1 := by rw [← hW1]; exact balloc (Below.refl _ _) _
  have r1 : Row W1 w.heap.size 27 [.int .i64 f.kind, .int .i64 f.table, .slice f.es.A f.es.n f.es.c, .slice f.cs.A f.cs.n f.cs.c, .slice f.ks.A p.kids.length f.ks.c] := by rw [← hW1]; exact Row.new _ _ _
  have C4 := Lib.hid (fun (z : World) (hz : Below W1.heap.size W1 z) => show z.cell? ⟨w.heap.size, 4, none⟩ = some (.slice f.ks.A p.kids.length f.ks.c) from (r1.on hz).cell 4)
  have HES := Lib.hid (estimate_ok p f ss A c d W1 (p.est ss) (h.on B1) hv hss (hsl.on B1) hs4 rfl)
  unfold fpV at HES
  rw [a5] at HES
  have c0 := r1.cell 0
  have c1 := r1.cell 1
  have c2 := r1.cell 2
  have c3 := r1.cell 3
  have c4 := r1.cell 4
  have HK := Lib.hid (fun (z : World) (hz : Below W1.heap.size W1 z) (i : Nat) (hi : i < p.kids.length) => ((h.on B1).on hz).kid hi)
  have HS := Lib.hid (fun (z : World) (hz : Below W1.heap.size W1 z) => (hsl.on B1).on hz)
  have HW1 := Lib.hid hW1
  have HB1 := Lib.hid B1
  have IH := Lib.hid ih
  have HV := Lib.hid (And.intro hv (And.intro hd8 hss))
  obtain ⟨E, hE⟩ : ∃ E, p.est ss = E := ⟨_, rfl⟩
  have hEr : 0 ≤ E ∧ E ≤ 1000000000 := by rw [← hE]; exact est_range hss _
  rw [hE] at HES
  have hct := cost_range hss hv hd8
  rw [hr] at hct
  have HR := Lib.hid (show R = E + costL ss p.kids by rw [← hr, ← hE]; exact costP_eq ss p)
  have hkm : p.kids.length ≤ maxLen := by omega
  unfold maxLen at hkm
  unfold fpV
  rw [a5]
  clear h hv hd8 hss hsl hr ih a1 a2 a3 a4 a5 a6 a7 a3' a3'' a4' a4'' a5' a5'' B1 r1 hW1 hE
  go_enter Try.func30, Try.ntmps30
  go_upto_region 1 with fail
  rw [HW1.out]
  go_wp2_with fail
  refine HES.out.mono ?_
  rintro e w2 ⟨rfl, hb2⟩
  have HB2 := Lib.hid hb2
  clear hb2 c0 c1 c2 c3 c4
  go_wp2
  go_loopg [5, 6] p.kids.length (fun g nv iv wr => ∃ (i : Nat) (m : Int), i ≤ p.kids.length ∧ g = p.kids.length - i ∧ iv = .int .i64 i ∧ nv = .int .i64 m ∧ m = E + costL ss (p.kids.take i) ∧ (0 ≤ m ∧ m ≤ 600000000000) ∧ Below W1.heap.size W1 wr)
  case atStart => exact ⟨0, E, by omega, by omega, rfl, rfl, by rw [List.take_zero, costL_nil]; omega, by omega, HB2.out⟩
  case round =>
    obtain ⟨i, m, hi, rfl, rfl, rfl, hm, hm4, hb⟩ := hrel
    have Hm := Lib.hid hm
    have HB := Lib.hid hb
    have c4 := C4.out _ hb
    clear hm hb
    by_cases hil : i < p.kids.length
    · have hiI : (i : Int) < (p.kids.length : Int) := by omega
      obtain ⟨qi, oi, g, hAi, hqi, ⟨d0, d1, d2, d3, d4⟩, hg⟩ := HK.out _ HB.out i hil
      rw [hAi] at c4
      obtain ⟨_, k, hdk, hvk⟩ := plW_kids HV.out.1 (List.getElem_mem hil)
      have hd8 := HV.out.2.1
      obtain ⟨s, hs⟩ : ∃ s, costP ss p.kids[i] = s := ⟨_, rfl⟩
      have hsr : 0 ≤ s ∧ s ≤ 511000000000 := by rw [← hs]; exact cost_range HV.out.2.2 hvk (by omega)
      have HX := Lib.hid (IH.out _ (List.getElem_mem hil) g ss A c k wr s hg hvk (by omega) HV.out.2.2 (HS.out _ HB.out) hs4 hs)
      unfold fpV at HX
      have Hst := Lib.hid (show m + s = E + costL ss (p.kids.take (i + 1)) by rw [costL_take hil, hs]; have := Hm.out; omega)
      have hms : 0 ≤ m + s ∧ m + s ≤ 600000000000 := by
        have h1 := costL_le HV.out.2.2 p.kids (i + 1)
        have := Hst.out
        have := HR.out
        omega
      clear hAi hg hs hvk hdk hd8
      go_wp2_with fail
      refine HX.out.mono ?_
      rintro e w3 ⟨rfl, hb3⟩
      have HB3 := Lib.hid (bch HB.out hb3)
      have hww : IntKind.i64.wrap (m + s) = m + s := IntWalk.i64_in _ (by omega)
      clear hb3
      go_wp2
      go_roundg (p.kids.length - (i + 1))
      case measure => omega
      case rel => exact ⟨i + 1, m + s, by omega, rfl, by go_num, rfl, Hst.out, hms, HB3.out⟩
    · have hiI : ¬ (i : Int) < (p.kids.length : Int) := by omega
      have Hz := Lib.hid (show m = R by rw [HR.out, Hm.out, List.take_of_length_le (show p.kids.length ≤ i by omega)])
      go_wp2
      go_ret
      exact ⟨ret_int Hz.out, bch HB1.out HB.out⟩
end Go.Proofs.Ytnecmacjlggkeaa

/-
  Contracts: validDatabase, EstimateRows, EstimateCost of the reference. (Printed by wip/esr.py.)
-/
namespace Go.Proofs.Ytnecmacjlggkeaa
open Go.RowKit Go.Qo
set_option linter.unusedVariables false
set_option linter.unusedSimpArgs false

theorem zeroIntE : (Try.prog.info? 3).map (fun i => (i.zero, i.size, i.bytes)) = some (some (.int .i64 0), 1, 8) := by kernel_rfl
/-- The statistics and the plan are valid. -/
def esOk (ss : List St) (p : Pl) : Prop := SsOk ss ∧ widthP (wsOf ss) p ≠ 0
open Classical in
noncomputable def erP (ss : List St) (p : Pl) : Int := if esOk ss p then p.est ss else -1
open Classical in
noncomputable def ecP (ss : List St) (p : Pl) : Int := if esOk ss p then costP ss p else -1
theorem erP_yes {ss : List St} {p : Pl} (h : esOk ss p) : erP ss p = p.est ss := by unfold erP; rw [if_pos h]
theorem erP_no {ss : List St} {p : Pl} (h : ¬ esOk ss p) : erP ss p = -1 := by unfold erP; rw [if_neg h]
theorem ecP_yes {ss : List St} {p : Pl} (h : esOk ss p) : ecP ss p = costP ss p := by unfold ecP; rw [if_pos h]
theorem ecP_no {ss : List St} {p : Pl} (h : ¬ esOk ss p) : ecP ss p = -1 := by unfold ecP; rw [if_neg h]
theorem esOk_w {ss : List St} {p : Pl} (h : esOk ss p) : WsOk (wsOf ss) ∧ plW (wsOf ss) 8 p ≠ 0 ∧ ss.length ≤ 4 := by
  have h2 := h.2
  unfold widthP at h2
  split at h2
  · rename_i hw
    exact ⟨hw, h2, by have := hw.1.2; rwa [wsOf_length] at this⟩
  · exact absurd rfl h2
theorem wsOf_take {ss : List St} {i : Nat} (h : i < ss.length) : (wsOf ss).take (i + 1) = (wsOf ss).take i ++ [((ss[i]).dist.length : Int)] := by
  have hl : i < (wsOf ss).length := by rw [wsOf_length]; exact h
  rw [List.take_add_one, List.getElem?_eq_getElem hl]
  simp [wsOf]
theorem widthP_range {ws : List Int} {p : Pl} : 0 ≤ widthP ws p ∧ widthP ws p ≤ 6 := by
  unfold widthP
  split
  · rename_i hw; exact plW_range hw.2 _ _
  · omega

set_option maxRecDepth 20000 in
set_option maxHeartbeats 4000000 in
theorem validDatabase_ok (p : Pl) (f : FP) (ss : List St) (A : Option Addr) (c : Nat) (w : World) (r : Bool) (h : PlIn w w.heap.size f p) (hsl : StsIn w w.heap.size A ss) (hsm : ∀ s ∈ ss, StSm s) (hs4 : ss.length ≤ 1000) (hr : r = true ↔ esOk ss p) :
    Calls Try.prog 28 #[fpV f, .slice A ss.length c] w fun e w' => e = .returned (.bool r) ∧ Below w.heap.size w w' := by
  obtain ⟨W1, hW1⟩ : ∃ z, w.alloc (.cells #[.int .i64 f.kind, .int .i64 f.table, .slice f.es.A f.es.n f.es.c, .slice f.cs.A f.cs.n f.cs.c, .slice f.ks.A f.ks.n f.ks.c] 27) = z := ⟨_, rfl⟩
  obtain ⟨W2, hW2⟩ : ∃ z, W1.alloc (.cells #[] 3) = z := ⟨_, rfl⟩
  have B1 : Below w.heap.size w W1 := by rw [← hW1]; exact balloc (Below.refl _ _) _
  have B2 : Below W1.heap.size W1 W2 := by rw [← hW2]; exact balloc (Below.refl _ _) _
  have r1 : Row W1 w.heap.size 27 [.int .i64 f.kind, .int .i64 f.table, .slice f.es.A f.es.n f.es.c, .slice f.cs.A f.cs.n f.cs.c, .slice f.ks.A f.ks.n f.ks.c] := by rw [← hW1]; exact Row.new _ _ _
  have s1 : w.heap.size + 1 = W1.heap.size := by rw [← hW1]; simp
  have HR1 := Lib.hid (fun (z : World) (hz : Below W1.heap.size W1 z) => r1.on hz)
  have HP := Lib.hid (fun (z : World) (hz : Below W1.heap.size W1 z) => h.on (bch B1 hz))
  have HS := Lib.hid (fun (z : World) (hz : Below W1.heap.size W1 z) => hsl.on (bch B1 hz))
  have HO2 := Lib.hid (show Ow W1.heap.size 3 1 intC W2 (.slice (some ⟨W1.heap.size, 0, none⟩) 0 0) ([] : List Int) by rw [← hW2]; exact Ow.lit (xs := ([] : List Int)) rfl rfl (Nat.le_refl _) (by decide))
  have HSM := Lib.hid hsm
  have HB1 := Lib.hid B1
  have HB2 := Lib.hid B2
  have S1 := Lib.hid s1
  have HW1 := Lib.hid hW1
  have HW2 := Lib.hid hW2
  have Hr := Lib.hid hr
  unfold fpV
  clear h hsl hsm hr hW1 hW2 B1 B2 s1 r1
  go_enter Try.func28, Try.ntmps28
  go_upto_region 2 with fail
  rw [HW1.out, S1.out, HW2.out]
  go_wp2
  go_loopg [5, 6] ss.length (fun g v iv wr => ∃ i : Nat, i ≤ ss.length ∧ g = ss.length - i ∧ iv = .int .i64 i ∧ Ow W1.heap.size 3 1 intC wr v ((wsOf ss).take i) ∧ Below W1.heap.size W1 wr ∧ ∀ j (hj : j < ss.length), j < i → StOk ss[j])
  case atStart => exact ⟨0, by omega, by omega, rfl, by rw [List.take_zero]; exact HO2.out, HB2.out, fun j hj hn => absurd hn (by omega)⟩
  case round =>
    obtain ⟨i, hi, rfl, rfl, how, hb, hall⟩ := hrel
    have HO := Lib.hid how
    have HB := Lib.hid hb
    have HA := Lib.hid hall
    have hbz := hb.size
    clear how hb hall
    by_cases hil : i < ss.length
    · have hiI : (i : Int) < (ss.length : Int) := by omega
      obtain ⟨bs, os, sf, hAs, hBs, ⟨s0, s1, s2⟩, hsi⟩ := (HS.out _ HB.out).at_ hil
      have hdl := hsi.2.1.1
      obtain ⟨q, hq⟩ : ∃ q : Bool, q = true ↔ StOk ss[i] := ⟨_, @decide_eq_true_iff _ (Classical.propDecidable _)⟩
      have HX := Lib.hid (fun z : Aft wr.heap.size wr => specValidStats_ok ss[i] sf z.v q (hsi.on z.h) (HSM.out _ (List.getElem_mem hil)) hq)
      have Hq := Lib.hid hq
      have Hst := Lib.hid (wsOf_take hil)
      unfold fsV at HX
      rw [hdl] at HX s1
      generalize (ss[i]).dist.length = dl at *
      have T0 := fun z : Aft wr.heap.size wr => z.cell hBs s0
      have T1 := fun z : Aft wr.heap.size wr => z.cell hBs s1
      have T2 := fun z : Aft wr.heap.size wr => z.cell hBs s2
      subst hAs
      clear hq hsi hdl
      go_wp2
      refine wp_region_aft wr.heap.size (by kernel_rfl) (by kernel_rfl) ?_
      repeat (go_big_quiet_step ((go_at_call 47; exact Calls.aft (Nat.le_refl _) (HX.out _))))
      refine wpQuiet_nil ?_
      intro w3 hw'
      obtain ⟨⟨_, hb3⟩, rfl⟩ := hw'
      have HB3 := Lib.hid (bch HB.out hb3)
      have t1 := T1 ⟨w3, hb3⟩
      have hBs3 : bs < w3.heap.size := Nat.lt_of_lt_of_le hBs hb3.size
      dsimp only at t1
      have HO3 := Lib.hid (HO.out.on hb3)
      clear T0 T1 T2 s0 s1 s2
      cases q
      · have Hz := Lib.hid (show r = false from bno Hr.out fun hs => by have := Hq.out.2 (hs.1 _ (List.getElem_mem hil)); cases this)
        go_wp2
        go_ret
        exact ⟨ret_bool Hz.out.symm, bch HB1.out HB3.out⟩
      · have Hy := Lib.hid (Hq.out.1 rfl)
        obtain ⟨U, hU⟩ : ∃ z, w3.alloc (.cells #[.int .i64 dl] 3) = z := ⟨_, rfl⟩
        have hub : Below w3.heap.size w3 U := by rw [← hU]; exact balloc (Below.refl _ _) _
        have HB5 := Lib.hid (bch HB3.out hub)
        have HO5 := Lib.hid (HO3.out.on hub)
        have HS5 := Lib.hid (show Sl 1 intC U U.heap.size (some ⟨w3.heap.size, 0, none⟩) [(dl : Int)] by rw [← hU]; exact Row.sl' (t := 3) intC_length ((Row.new w3 _ _).of rfl))
        have hsz6 : W1.heap.size ≤ U.heap.size := HB5.out.size
        have hcl : ((wsOf ss).take i).length ≤ 1000 := by rw [List.length_take, wsOf_length]; omega
        have HU := Lib.hid hU
        clear hU hub hb3
        go_wp2_with (at_builtin; rw [HU.out]; refine wpList_app rfl (.tmp 26) (.tmp 33) 24 rfl W1.heap.size 3 _ 1 8 intC Try.underlying24 zeroIntE rfl (by decide) (by decide) intC_length intC_one _ _ rfl HO5.out (some ⟨w3.heap.size, 0, none⟩) 1 1 [(dl : Int)] rfl rfl HS5.out (by simp only [List.length_singleton]; omega) hsz6 ?_; intro v' w' hown hgr)
        go_roundg (ss.length - (i + 1))
        case measure => omega
        case rel =>
          refine ⟨i + 1, by omega, rfl, by go_num, by rw [Hst.out]; exact hown, ((only_below (S := fun _ => False) HB5.out).grown hgr fun k hk => .inr (HO5.out.ty k hk).1).old fun _ _ h => h, fun j hj hn => ?_⟩
          by_cases hji : j < i
          · exact HA.out j hj hji
          · have : j = i := by omega
            subst this
            exact Hy.out
    · have hiI : ¬ (i : Int) < (ss.length : Int) := by omega
      have hte : (wsOf ss).take i = wsOf ss := List.take_of_length_le (by rw [wsOf_length]; omega)
      rw [hte] at HO
      obtain ⟨A6, c6, rfl, _, _, hs6⟩ := HO.out.shape intC_length
      obtain ⟨wd, hwd⟩ : ∃ wd, widthP (wsOf ss) p = wd := ⟨_, rfl⟩
      have HX := Lib.hid (widthOf_ok p f (wsOf ss) A6 c6 wr wd (HP.out _ HB.out) (by rw [wsOf_length]; unfold maxLen; omega) hs6.sl hwd)
      unfold fpV at HX
      have hwr := widthP_range (ws := wsOf ss) (p := p)
      rw [hwd] at hwr
      have Hok := Lib.hid (show SsOk ss from fun s hs => by obtain ⟨j, hj, rfl⟩ := List.getElem_of_mem hs; exact HA.out j hj (by omega))
      have Hz := Lib.hid (show r = decide (0 < wd) by
        by_cases h0 : 0 < wd
        · rw [decide_eq_true h0]; exact Hr.out.2 ⟨Hok.out, by rw [hwd]; omega⟩
        · rw [decide_eq_false h0]; exact bno Hr.out fun hs => hs.2 (by rw [hwd]; omega))
      have RW := HR1.out _ HB.out
      have c0 := RW.cell 0
      have c1 := RW.cell 1
      have c2 := RW.cell 2
      have c3 := RW.cell 3
      have c4 := RW.cell 4
      clear hs6 hwd hte RW
      go_wp2_with fail
      refine HX.out.mono ?_
      rintro e w4 ⟨rfl, hb4⟩
      go_wp2
      go_ret
      exact ⟨ret_bool Hz.out.symm, bch HB1.out (bch HB.out hb4)⟩

set_option maxRecDepth 20000 in
set_option maxHeartbeats 2000000 in
theorem specEstimateRows_ok (p : Pl) (f : FP) (ss : List St) (A : Option Addr) (c : Nat) (w : World) (R : Int) (h : PlIn w w.heap.size f p) (hsl : StsIn w w.heap.size A ss) (hsm : ∀ s ∈ ss, StSm s) (hs4 : ss.length ≤ 1000) (hr : erP ss p = R) :
    Calls Try.prog 11 #[fpV f, .slice A ss.length c] w fun e w' => e = .returned (.int .i64 R) ∧ Below w.heap.size w w' := by
  obtain ⟨W1, hW1⟩ : ∃ z, w.alloc (.cells #[.int .i64 f.kind, .int .i64 f.table, .slice f.es.A f.es.n f.es.c, .slice f.cs.A f.cs.n f.cs.c, .slice f.ks.A f.ks.n f.ks.c] 27) = z := ⟨_, rfl⟩
  have B1 : Below w.heap.size w W1 := by rw [← hW1]; exact balloc (Below.refl _ _) _
  have r1 : Row W1 w.heap.size 27 [.int .i64 f.kind, .int .i64 f.table, .slice f.es.A f.es.n f.es.c, .slice f.cs.A f.cs.n f.cs.c, .slice f.ks.A f.ks.n f.ks.c] := by rw [← hW1]; exact Row.new _ _ _
  have RX := Lib.hid (fun (z : World) (hz : Below W1.heap.size W1 z) => r1.on hz)
  have HP := Lib.hid (fun (z : World) (hz : Below W1.heap.size W1 z) => h.on (bch B1 hz))
  have HS := Lib.hid (fun (z : World) (hz : Below W1.heap.size W1 z) => hsl.on (bch B1 hz))
  obtain ⟨q, hq⟩ : ∃ q : Bool, q = true ↔ esOk ss p := ⟨_, @decide_eq_true_iff _ (Classical.propDecidable _)⟩
  have HV := Lib.hid (validDatabase_ok p f ss A c W1 q (h.on B1) (hsl.on B1) hsm hs4 hq)
  unfold fpV at HV
  have c0 := r1.cell 0
  have c1 := r1.cell 1
  have c2 := r1.cell 2
  have c3 := r1.cell 3
  have c4 := r1.cell 4
  have HB1 := Lib.hid B1
  have HW1 := Lib.hid hW1
  have Hq := Lib.hid hq
  have HR := Lib.hid hr
  unfold fpV
  clear h hsl hsm hr hW1 B1 r1 hq
  cases q
  · have Hz := Lib.hid (show R = -1 by rw [← HR.out]; exact erP_no fun hs => by have := Hq.out.2 hs; cases this)
    go_enter Try.func11, Try.ntmps11
    go_upto_region 1 with fail
    rw [HW1.out]
    go_wp2_with fail
    refine HV.out.mono ?_
    rintro e w2 ⟨rfl, hb2⟩
    go_wp2
    go_ret
    exact ⟨ret_int Hz.out.symm, bch HB1.out hb2⟩
  · have Hok := Lib.hid (Hq.out.1 rfl)
    have hok := Hok.out
    have Hw := Lib.hid (esOk_w hok)
    have HX := Lib.hid (fun (z : World) (hz : Below W1.heap.size W1 z) => estimate_ok p f ss A c 8 z R (HP.out _ hz) Hw.out.2.1 hok.1 (HS.out _ hz) Hw.out.2.2 (by rw [← HR.out, erP_yes hok]))
    unfold fpV at HX
    clear hok
    go_enter Try.func11, Try.ntmps11
    go_upto_region 1 with fail
    rw [HW1.out]
    go_wp2_with fail
    refine HV.out.mono ?_
    rintro e w2 ⟨rfl, hb2⟩
    have RW := RX.out _ hb2
    have e0 := RW.cell 0
    have e1 := RW.cell 1
    have e2 := RW.cell 2
    have e3 := RW.cell 3
    have e4 := RW.cell 4
    have HX2 := Lib.hid (HX.out _ hb2)
    have H2 := Lib.hid (bch HB1.out hb2)
    clear hb2 RW c0 c1 c2 c3 c4
    go_wp2_with fail
    refine HX2.out.mono ?_
    rintro e w3 ⟨rfl, hb3⟩
    go_wp2
    go_ret
    exact ⟨rfl, bch H2.out hb3⟩

set_option maxRecDepth 20000 in
set_option maxHeartbeats 2000000 in
theorem specEstimateCost_ok (p : Pl) (f : FP) (ss : List St) (A : Option Addr) (c : Nat) (w : World) (R : Int) (h : PlIn w w.heap.size f p) (hsl : StsIn w w.heap.size A ss) (hsm : ∀ s ∈ ss, StSm s) (hs4 : ss.length ≤ 1000) (hr : ecP ss p = R) :
    Calls Try.prog 16 #[fpV f, .slice A ss.length c] w fun e w' => e = .returned (.int .i64 R) ∧ Below w.heap.size w w' := by
  obtain ⟨W1, hW1⟩ : ∃ z, w.alloc (.cells #[.int .i64 f.kind, .int .i64 f.table, .slice f.es.A f.es.n f.es.c, .slice f.cs.A f.cs.n f.cs.c, .slice f.ks.A f.ks.n f.ks.c] 27) = z := ⟨_, rfl⟩
  have B1 : Below w.heap.size w W1 := by rw [← hW1]; exact balloc (Below.refl _ _) _
  have r1 : Row W1 w.heap.size 27 [.int .i64 f.kind, .int .i64 f.table, .slice f.es.A f.es.n f.es.c, .slice f.cs.A f.cs.n f.cs.c, .slice f.ks.A f.ks.n f.ks.c] := by rw [← hW1]; exact Row.new _ _ _
  have RX := Lib.hid (fun (z : World) (hz : Below W1.heap.size W1 z) => r1.on hz)
  have HP := Lib.hid (fun (z : World) (hz : Below W1.heap.size W1 z) => h.on (bch B1 hz))
  have HS := Lib.hid (fun (z : World) (hz : Below W1.heap.size W1 z) => hsl.on (bch B1 hz))
  obtain ⟨q, hq⟩ : ∃ q : Bool, q = true ↔ esOk ss p := ⟨_, @decide_eq_true_iff _ (Classical.propDecidable _)⟩
  have HV := Lib.hid (validDatabase_ok p f ss A c W1 q (h.on B1) (hsl.on B1) hsm hs4 hq)
  unfold fpV at HV
  have c0 := r1.cell 0
  have c1 := r1.cell 1
  have c2 := r1.cell 2
  have c3 := r1.cell 3
  have c4 := r1.cell 4
  have HB1 := Lib.hid B1
  have HW1 := Lib.hid hW1
  have Hq := Lib.hid hq
  have HR := Lib.hid hr
  unfold fpV
  clear h hsl hsm hr hW1 B1 r1 hq
  cases q
  · have Hz := Lib.hid (show R = -1 by rw [← HR.out]; exact ecP_no fun hs => by have := Hq.out.2 hs; cases this)
    go_enter Try.func16, Try.ntmps16
    go_upto_region 1 with fail
    rw [HW1.out]
    go_wp2_with fail
    refine HV.out.mono ?_
    rintro e w2 ⟨rfl, hb2⟩
    go_wp2
    go_ret
    exact ⟨ret_int Hz.out.symm, bch HB1.out hb2⟩
  · have Hok := Lib.hid (Hq.out.1 rfl)
    have hok := Hok.out
    have Hw := Lib.hid (esOk_w hok)
    have HX := Lib.hid (fun (z : World) (hz : Below W1.heap.size W1 z) => estimateCost_ok p f ss A c 8 z R (HP.out _ hz) Hw.out.2.1 (by omega) hok.1 (HS.out _ hz) Hw.out.2.2 (by rw [← HR.out, ecP_yes hok]))
    unfold fpV at HX
    clear hok
    go_enter Try.func16, Try.ntmps16
    go_upto_region 1 with fail
    rw [HW1.out]
    go_wp2_with fail
    refine HV.out.mono ?_
    rintro e w2 ⟨rfl, hb2⟩
    have RW := RX.out _ hb2
    have e0 := RW.cell 0
    have e1 := RW.cell 1
    have e2 := RW.cell 2
    have e3 := RW.cell 3
    have e4 := RW.cell 4
    have HX2 := Lib.hid (HX.out _ hb2)
    have H2 := Lib.hid (bch HB1.out hb2)
    clear hb2 RW c0 c1 c2 c3 c4
    go_wp2_with fail
    refine HX2.out.mono ?_
    rintro e w3 ⟨rfl, hb3⟩
    go_wp2
    go_ret
    exact ⟨rfl, bch H2.out hb3⟩
end Go.Proofs.Ytnecmacjlggkeaa

/-
  Contract: estimate of the program. (Printed by wip/esi.py.)
-/
namespace Go.Proofs.Ytnecmacjlggkeaa
open Go.RowKit Go.Qo
set_option linter.unusedVariables false
set_option linter.unusedSimpArgs false

theorem exIn_more {w : World} {B B' : Nat} {f : FE} {e : Ex} (h : ExIn w B f e) (hB : B ≤ B') : ExIn w B' f e := h.imp fun n h => ExAt.map (fun A fs h => h.more hB) n f e h
theorem stIn_more {w : World} {B B' : Nat} {f : FS} {s : St} (h : StIn w B f s) (hB : B ≤ B') : StIn w B' f s := ⟨h.1, h.2.1, h.2.2.1, h.2.2.2.1.more hB, h.2.2.2.2.more hB⟩
theorem stIn_below {w w' : World} {B : Nat} {f : FS} {s : St} (h : StIn w B f s) (hb : Below B w w') : StIn w' B f s := ⟨h.1, h.2.1, h.2.2.1, h.2.2.2.1.below hb, h.2.2.2.2.below hb⟩
theorem stsIn_below {w w' : World} {B : Nat} {A : Option Addr} {ss : List St} (h : StsIn w B A ss) (hb : Below B w w') : StsIn w' B A ss := by
  obtain ⟨fs, h1, h2, h3⟩ := h
  exact ⟨fs, h1, h2.below hb, fun i g x hg hx => stIn_below (h3 i g x hg hx) hb⟩
theorem at0_take {f : Pl → Int} {ks : List Pl} {i j : Nat} (h : i ≤ j) : at0 ((ks.take i).map f) j = 0 := by
  unfold at0
  rw [List.getD_eq_getElem?_getD, List.getElem?_map, List.getElem?_take, if_neg (by omega)]
  rfl
theorem at0_take' {f : Pl → Int} {ks : List Pl} {i j : Nat} (h : j < i) : at0 ((ks.take i).map f) j = at0 (ks.map f) j := by
  unfold at0
  rw [List.getD_eq_getElem?_getD, List.getD_eq_getElem?_getD, List.getElem?_map, List.getElem?_map, List.getElem?_take, if_pos h]

def EsI (p : Pl) : Prop := ∀ (f : FP) (b o : Nat) (ss : List St) (A : Option Addr) (c d B cb : Nat) (n : Int) (w : World) (R C : Int), PlIn w B f p → b < B → B ≤ w.heap.size → B ≤ cb → FpAt w b o f → plW (wsOf ss) d p ≠ 0 → d ≤ 8 → SsOk ss → StsIn w B A ss → ss.length ≤ 4 → Row w cb 3 [.int .i64 n] → 0 ≤ n → n + costP ss p ≤ 600000000000 → p.est ss = R → n + costP ss p = C →
  Calls Try.prog 46 #[.pointer (some ⟨b, o, none⟩), .slice A ss.length c, .pointer (some ⟨cb, 0, none⟩)] w fun e w' => e = .returned (.int .i64 R) ∧ Row w' cb 3 [.int .i64 C] ∧ But cb w w'
set_option maxRecDepth 20000 in
set_option maxHeartbeats 8000000 in
theorem implEstimate_ok : ∀ p : Pl, EsI p := Pl.ind fun p ih f b o ss A c d B cb n w R C h hbB hB hcb hat hv hd8 hss hsl hs4 hrow hn0 hnc hr hC => by
  obtain ⟨a1, a2, ⟨a3, a3', a3''⟩, ⟨a4, a4', a4''⟩, ⟨a5, a5', a5''⟩, a6, a7⟩ := h.flat
  have hcl := hrow.lt
  obtain ⟨W1, hW1⟩ : ∃ z, w.alloc (.cells #[.int .i64 0, .int .i64 0] 93) = z := ⟨_, rfl⟩
  have b1 : Below w.heap.size w W1 := by rw [← hW1]; exact balloc (Below.refl _ _) _
  have HX := Lib.hid (fun (z : World) (hz : Only (fun k => k = cb ∨ k = w.heap.size) W1 z) => show PlIn z B f p ∧ FpAt z b o f ∧ StsIn z B A ss ∧ B ≤ z.heap.size from
    have hz' : Below B w z := (b1.mono hB).trans ⟨hz.os, hz.tape, hz.output, hz.size, fun k hk => hz.block k (by have := b1.size; omega) (fun h => by omega)⟩
    ⟨h.below hz', hat.below hz' hbB, stsIn_below hsl hz', Nat.le_trans hB hz'.size⟩)
  have hbig : cb < W1.heap.size ∧ cb ≠ w.heap.size := by have := b1.size; omega
  have Hk1 := Lib.hid (show Row W1 w.heap.size 93 [.int .i64 0, .int .i64 0] by rw [← hW1]; exact Row.new _ _ _)
  have Hc1 := Lib.hid (hrow.on b1)
  have IH := Lib.hid ih
  have HV := Lib.hid (And.intro hv (And.intro hd8 hss))
  have hof : OnlyF p := Classical.byContradiction fun hn => hv (plW_no hn)
  have Hof := Lib.hid hof
  have hk2 : p.kids.length ≤ 2 := hof.kids_le
  have HA := Lib.hid (And.intro a1 (And.intro a2 (And.intro a3 (And.intro a4 a5))))
  have HR := Lib.hid (And.intro hr hC)
  have hct := cost_range hss hv hd8
  have HB1 := Lib.hid b1
  have HW1 := Lib.hid hW1
  have hce := costP_eq ss p
  have her := est_range hss p
  have hcm : p.cols.length ≤ maxLen ∧ p.exprs.length ≤ maxLen := by omega
  unfold maxLen at hcm
  obtain ⟨hcm1, hcm2⟩ := hcm
  rw [hr] at hce her
  have HCE := Lib.hid hce
  have HN := Lib.hid (And.intro hn0 hnc)
  clear h hat hv hd8 hss hsl hrow hr hC ih a1 a2 a3 a4 a5 a6 a7 a3' a3'' a4' a4'' a5' a5'' hof hW1 b1 hce
  obtain ⟨_, ⟨c0, c1, c2, c3, c4⟩, _, _⟩ := HX.out W1 (Only.refl _)
  rw [HA.out.2.2.2.2] at c4
  have hbw : b < W1.heap.size := by have := HB1.out.size; omega
  go_enter Try.func46, Try.ntmps46
  go_upto_region 2 with fail
  rw [HW1.out]
  have hk2m : p.kids.length ≤ 9223372036854775807 := by omega
  go_wp2
  go_loopg [8, 16] p.kids.length (fun g _ iv wr => ∃ (i : Nat) (m : Int), i ≤ p.kids.length ∧ g = p.kids.length - i ∧ iv = .int .i64 i ∧ m = n + costL ss (p.kids.take i) ∧ Row wr cb 3 [.int .i64 m] ∧ Row wr w.heap.size 93 [.int .i64 (at0 ((p.kids.take i).map (Pl.est ss)) 0), .int .i64 (at0 ((p.kids.take i).map (Pl.est ss)) 1)] ∧ Only (fun k => k = cb ∨ k = w.heap.size) W1 wr)
  case atStart => exact ⟨0, n, by omega, by omega, rfl, by rw [List.take_zero, costL_nil]; omega, Hc1.out, Hk1.out, Only.refl _⟩
  case round =>
    obtain ⟨i, m, hi, rfl, rfl, hm, hrc, hrk, ho⟩ := hrel
    have Hm := Lib.hid hm
    have Hrc := Lib.hid hrc
    have Hrk := Lib.hid hrk
    have HO := Lib.hid ho
    have hoz := ho.size
    obtain ⟨hpl, ⟨c0, c1, c2, c3, c4⟩, hst, hBz⟩ := HX.out wr ho
    rw [HA.out.2.2.2.2] at c4
    have hclr := hrc.lt
    have hklr := hrk.lt
    clear hm hrc hrk ho
    by_cases hil : i < p.kids.length
    · have hiI : (i : Int) < (p.kids.length : Int) := by omega
      obtain ⟨qi, oi, g, hAi, hqi, hgat, hg⟩ := hpl.kid hil
      rw [hAi] at c4
      obtain ⟨_, k, hdk, hvk⟩ := plW_kids HV.out.1 (List.getElem_mem hil)
      have hd8 := HV.out.2.1
      obtain ⟨s, hs⟩ : ∃ s, costP ss p.kids[i] = s := ⟨_, rfl⟩
      obtain ⟨x, hx⟩ : ∃ x, (p.kids[i]).est ss = x := ⟨_, rfl⟩
      have Hst := Lib.hid (show m + s = n + costL ss (p.kids.take (i + 1)) by rw [costL_take hil, hs]; have := Hm.out; omega)
      have hms : m + s ≤ 600000000000 := by
        have h1 := costL_le HV.out.2.2 p.kids (i + 1)
        have := Hst.out
        have := HCE.out
        have := HN.out
        omega
      have hm0 : 0 ≤ m := by
        have h1 := costL_le HV.out.2.2 p.kids i
        have := Hm.out
        omega
      have HC := Lib.hid (IH.out _ (List.getElem_mem hil) g qi _ ss A c k B cb m wr x (m + s) hg hqi hBz hcb hgat hvk (by omega) HV.out.2.2 hst hs4 Hrc.out hm0 (by rw [hs]; exact hms) hx (by rw [hs]))
      have Hx := Lib.hid (show at0 (p.kids.map (Pl.est ss)) i = x by rw [at0_kidP hil]; exact hx)
      clear hAi hgat hg hvk hdk hd8 hs hx hpl hst
      go_wp2_with fail
      refine HC.out.mono ?_
      rintro e w2 ⟨rfl, hrc2, hb2⟩
      have hk2' := Hrk.out.only hb2 (show ¬ w.heap.size = cb by omega)
      have hkl2 := hk2'.lt
      have f0 := hk2'.frozen i
      have HO2 := Lib.hid (HO.out.trans (hb2.mono (T := fun k => k = cb ∨ k = w.heap.size) fun k _ hk => .inl hk))
      have Hc2 := Lib.hid hrc2
      have Hk2 := Lib.hid hk2'
      clear hrc2 hb2 hk2'
      have hi01 : i = 0 ∨ i = 1 := by omega
      rcases hi01 with rfl | rfl
      · have g0 := Hk2.out.cell 0
        have f1 := Hk2.out.frozen 0
        go_wp2
        go_roundg (p.kids.length - (0 + 1))
        case measure => omega
        case rel =>
          have hs := Only.set (S := fun k => k = cb ∨ k = w.heap.size) (p := ⟨w.heap.size, 0, none⟩) (Only.refl w2) (.inl (.inr rfl)) (.int .i64 x)
          refine ⟨1, m + s, by omega, rfl, by go_num, Hst.out, Hc2.out.far (p := ⟨w.heap.size, 0, none⟩) hbig.2 _, ?_, HO2.out.trans hs⟩
          have h1 := Hk2.out.set 0 (.int .i64 x)
          rw [at0_take (show (0 : Nat) ≤ 1 by omega)] at h1
          rw [at0_take' (show 0 < 1 by omega), at0_take (show (1 : Nat) ≤ 1 by omega), Hx.out]
          exact h1
      · have g0 := Hk2.out.cell 1
        have f1 := Hk2.out.frozen 1
        go_wp2
        go_roundg (p.kids.length - (1 + 1))
        case measure => omega
        case rel =>
          have hs := Only.set (S := fun k => k = cb ∨ k = w.heap.size) (p := ⟨w.heap.size, 1, none⟩) (Only.refl w2) (.inl (.inr rfl)) (.int .i64 x)
          refine ⟨2, m + s, by omega, rfl, by go_num, Hst.out, Hc2.out.far (p := ⟨w.heap.size, 1, none⟩) hbig.2 _, ?_, HO2.out.trans hs⟩
          have h1 := Hk2.out.set 1 (.int .i64 x)
          rw [at0_take' (show 0 < 1 by omega)] at h1
          rw [at0_take' (show 0 < 2 by omega), at0_take' (show 1 < 2 by omega), Hx.out]
          exact h1
    · have hiI : ¬ (i : Int) < (p.kids.length : Int) := by omega
      have hte : p.kids.take i = p.kids := List.take_of_length_le (by omega)
      rw [hte] at Hm Hrk
      obtain ⟨a, ha⟩ : ∃ a, at0 (p.kids.map (Pl.est ss)) 0 = a := ⟨_, rfl⟩
      obtain ⟨bb, hbb⟩ : ∃ bb, at0 (p.kids.map (Pl.est ss)) 1 = bb := ⟨_, rfl⟩
      have har : 0 ≤ a ∧ a ≤ 1000000000 := by rw [← ha]; exact at0_mapP (by decide) fun x _ => est_range HV.out.2.2 x
      have hbr : 0 ≤ bb ∧ bb ≤ 1000000000 := by rw [← hbb]; exact at0_mapP (by decide) fun x _ => est_range HV.out.2.2 x
      rw [ha, hbb] at Hrk
      have k0 : wr.cell? ⟨w.heap.size, 0, none⟩ = some (.int .i64 a) := Hrk.out.cell 0
      have k1 : wr.cell? ⟨w.heap.size, 1, none⟩ = some (.int .i64 bb) := Hrk.out.cell 1
      have He := Lib.hid (show R = topE ss p.kind p.table p.exprs p.cols.length p.kids (p.kids.map (Pl.est ss)) by rw [← HR.out.1]; exact est_eq ss p)
      have Hab := Lib.hid (And.intro ha hbb)
      have hbr' : b < wr.heap.size := by omega
      rw [HA.out.1] at c0
      rw [HA.out.2.1] at c1
      rw [HA.out.2.2.1] at c2
      rw [HA.out.2.2.2.1] at c3
      have Hpl := Lib.hid (And.intro hpl hst)
      have HM := Lib.hid (And.intro Hm.out (And.intro Hrc.out HO.out))
      clear hte ha hbb Hm hpl hst
      go_upto_block 2 with fail
      go_cut [9] (fun v wx => v = .int .i64 R ∧ Below wr.heap.size wr wx)
      case first =>
        by_cases hk1 : p.kind = 1
        · obtain ⟨j, hj, hjl, _⟩ := pl_scan HV.out.1 hk1
          have Hz := Lib.hid (show R = (ss[j]).rows by rw [He.out]; unfold topE; rw [if_pos hk1, hj, stAt_at hjl])
          obtain ⟨bs, os, sf, hAs, hBs, ⟨s0, s1, s2⟩, hsi⟩ := Hpl.out.2.at_ hjl
          have t1 := hsi.1
          rw [t1] at s0
          subst hAs
          have hjI : (j : Int) < (ss.length : Int) := by omega
          have hk1' : (p.kind == 1) = true := by simp [hk1]
          rw [hj] at c1
          clear hk1 hj hsi t1
          go_wp2
          go_meet
          exact ⟨by rw [Hz.out], Below.refl _ _⟩
        have hk1' : (p.kind == 1) = false := by simpa using hk1
        have hkp : 0 < p.kids.length := by
          have := Hof.out.2.1
          unfold nkids at this
          rw [if_neg hk1] at this
          split at this <;> omega
        have hkpI : (0 : Int) < (p.kids.length : Int) := by omega
        obtain ⟨_, e, hde, hv0⟩ := plW_kids HV.out.1 (List.getElem_mem hkp)
        by_cases hk2 : p.kind = 2
        · obtain ⟨hep, hex⟩ := pl_expr HV.out.1 (.inl hk2)
          have hepI : (0 : Int) < (p.exprs.length : Int) := by omega
          obtain ⟨width, hok, hwid⟩ := hex _ (List.getElem_mem hep)
          have hwid := hwid hk2
          have hk2' : (p.kind == 2) = true := by simp [hk2]
          have Hz := Lib.hid (show R = a * fltP ss p.exprs[0] p.kids[0] / 1000 by
            rw [He.out]; unfold topE; rw [if_neg hk1, if_pos hk2, Hab.out.1, kidE_at hep, kidP_at hkp])
          obtain ⟨be, oe, ge, hAe, hBe, hyat, hge⟩ := Hpl.out.1.flat.2.2.2.2.2.1.at_ hep
          simp only [Nat.zero_mul, Nat.add_zero] at hyat
          have hge' := exIn_more hge hBz
          rw [hAe] at c2
          obtain ⟨x, hx⟩ : ∃ x, (p.exprs[0]).fixed = x := ⟨_, rfl⟩
          have hxr : 0 ≤ x ∧ x ≤ 1000 := by rw [← hx]; exact fixed_range _
          have HFX := Lib.hid (implFixed_ok p.exprs[0] ge be oe wr width 8 x (Nat.lt_of_lt_of_le hBe hBz) hyat hge' hok hx)
          obtain ⟨q0, o0, g, hA0, hq0, hgat, hg⟩ := Hpl.out.1.kid hkp
          obtain ⟨d0, d1, d2, d3, d4⟩ := hgat
          simp only [Nat.zero_mul, Nat.add_zero] at d0 d1 d2 d3 d4
          have g1 := hg.flat.1
          have g2 := hg.flat.2.1
          rw [g1] at d0
          rw [g2] at d1
          rw [hA0] at c4
          by_cases hkk : (p.kids[0]).kind = 1
          · obtain ⟨j, hj, hjl, hjw⟩ := pl_scan hv0 hkk
            have hjI : (j : Int) < (ss.length : Int) := by omega
            have hst : StOk ss[j] := HV.out.2.2 _ (List.getElem_mem hjl)
            have hww : width = (ss[j]).dist.length := by
              rw [hwid, hde]
              show kidW (plW (wsOf ss) (e + 1 - 1)) p 0 = _
              unfold kidW
              rw [List.getElem?_eq_getElem hkp]
              show plW (wsOf ss) e p.kids[0] = _
              rw [hjw, hj, stAt_at hjl]
            obtain ⟨y, hy⟩ : ∃ y, (p.exprs[0]).perm ss[j] = y := ⟨_, rfl⟩
            have hyr : 0 ≤ y ∧ y ≤ 1000 := by rw [← hy]; exact perm_range hst _
            have Hv := Lib.hid (show R = a * y / 1000 by rw [Hz.out]; unfold fltP; rw [if_pos hkk, hj, stAt_at hjl, hy])
            obtain ⟨p1, p2, p3, p4⟩ := sc_mul har hyr
            obtain ⟨bs, os, sf, hAs, hBs, hsat, hsi⟩ := Hpl.out.2.at_ hjl
            subst hAs
            have HCX := Lib.hid (fun (z : World) (hz : Below wr.heap.size wr z) => show z.cell? ⟨b, o, none⟩ = _ ∧ z.cell? ⟨b, o + 2, none⟩ = _ ∧ z.cell? ⟨b, o + 4, none⟩ = _ ∧ z.cell? ⟨q0, o0, none⟩ = _ ∧ z.cell? ⟨q0, o0 + 1, none⟩ = _ from ⟨(hz.cell (p := ⟨_, _, none⟩) hbr').trans c0, (hz.cell (p := ⟨_, _, none⟩) hbr').trans c2, (hz.cell (p := ⟨_, _, none⟩) hbr').trans c4, (hz.cell (p := ⟨_, _, none⟩) (Nat.lt_of_lt_of_le hq0 hBz)).trans d0, (hz.cell (p := ⟨_, _, none⟩) (Nat.lt_of_lt_of_le hq0 hBz)).trans d1⟩)
            have HPM := Lib.hid (fun (z : World) (hz : Below wr.heap.size wr z) => selectivity_ok p.exprs[0] ge be oe ss[j] sf bs (os + j * 3) z width 8 y (Nat.lt_of_lt_of_le (Nat.lt_of_lt_of_le hBe hBz) hz.size) (feAt_below hyat hz (Nat.lt_of_lt_of_le hBe hBz)) (hge'.on hz) hok hst hww (Nat.lt_of_lt_of_le (Nat.lt_of_lt_of_le hBs hBz) hz.size) (hsat.below hz (Nat.lt_of_lt_of_le hBs hBz)) ((stIn_more hsi hBz).on hz) hy)
            have Hkk := Lib.hid (And.intro hkk hj)
            clear hk1 hk2 hex hok hwid hkk hst hww hy hx hAe hge hge' hyat hg g1 g2 hA0 hsi hsat hv0 hde hjw
            go_wp2_with fail
            refine HFX.out.mono ?_
            rintro e' w2 ⟨rfl, hb2⟩
            obtain ⟨l0, l2, l4, l5, l6⟩ := HCX.out w2 hb2
            have H2 := Lib.hid hb2
            rw [Hkk.out.1] at l5
            rw [Hkk.out.2] at l6
            have hbw2 : b < w2.heap.size := Nat.lt_of_lt_of_le hbr' hb2.size
            have hqw2 : q0 < w2.heap.size := Nat.lt_of_lt_of_le (Nat.lt_of_lt_of_le hq0 hBz) hb2.size
            have HPM2 := Lib.hid (fun z : Aft w2.heap.size w2 => HPM.out z.v (bch H2.out z.h))
            have L2 := fun z : Aft w2.heap.size w2 => z.cell hbw2 l2
            have L4 := fun z : Aft w2.heap.size w2 => z.cell hbw2 l4
            have L6 := fun z : Aft w2.heap.size w2 => z.cell hqw2 l6
            clear hb2 d0 d1
            go_wp2
            refine wp_region_aft w2.heap.size (by kernel_rfl) (by kernel_rfl) ?_
            repeat (go_big_quiet_step ((go_at_call 67; exact Calls.aft (Nat.le_refl _) (HPM2.out _))))
            refine wpQuiet_nil ?_
            intro w3 hw'
            obtain ⟨⟨_, hb3⟩, rfl⟩ := hw'
            have H3 := Lib.hid (bch H2.out hb3)
            clear L2 L4 L6 hb3
            go_wp2
            go_meet
            exact ⟨by rw [Hv.out], H3.out⟩
          · have Hv := Lib.hid (show R = a * x / 1000 by rw [Hz.out]; unfold fltP; rw [if_neg hkk, hx])
            obtain ⟨p1, p2, p3, p4⟩ := sc_mul har hxr
            have hkk' : ((p.kids[0]).kind == 1) = false := by simpa using hkk
            have HCX := Lib.hid (fun (z : World) (hz : Below wr.heap.size wr z) => show z.cell? ⟨b, o, none⟩ = _ ∧ z.cell? ⟨b, o + 2, none⟩ = _ ∧ z.cell? ⟨b, o + 4, none⟩ = _ ∧ z.cell? ⟨q0, o0, none⟩ = _ from ⟨(hz.cell (p := ⟨_, _, none⟩) hbr').trans c0, (hz.cell (p := ⟨_, _, none⟩) hbr').trans c2, (hz.cell (p := ⟨_, _, none⟩) hbr').trans c4, (hz.cell (p := ⟨_, _, none⟩) (Nat.lt_of_lt_of_le hq0 hBz)).trans d0⟩)
            clear hk1 hk2 hex hok hwid hkk hx hAe hge hge' hyat hg g1 g2 hA0 hv0 hde
            go_wp2_with fail
            refine HFX.out.mono ?_
            rintro e' w2 ⟨rfl, hb2⟩
            obtain ⟨l0, l2, l4, l5⟩ := HCX.out w2 hb2
            have H2 := Lib.hid hb2
            clear hb2 d0 d1
            go_wp2
            go_meet
            exact ⟨by rw [Hv.out], H2.out⟩
        have hk2' : (p.kind == 2) = false := by simpa using hk2
        by_cases hk45 : p.kind = 4 ∨ p.kind = 5
        · obtain ⟨hep, hex⟩ := pl_expr HV.out.1 (.inr hk45)
          have hepI : (0 : Int) < (p.exprs.length : Int) := by omega
          obtain ⟨width, hok, _⟩ := hex _ (List.getElem_mem hep)
          obtain ⟨be, oe, ge, hAe, hBe, hyat, hge⟩ := Hpl.out.1.flat.2.2.2.2.2.1.at_ hep
          simp only [Nat.zero_mul, Nat.add_zero] at hyat
          have hge' := exIn_more hge hBz
          rw [hAe] at c2
          obtain ⟨x, hx⟩ : ∃ x, (p.exprs[0]).fixed = x := ⟨_, rfl⟩
          have hxr : 0 ≤ x ∧ x ≤ 1000 := by rw [← hx]; exact fixed_range _
          have HFX := Lib.hid (fun z : Aft wr.heap.size wr => implFixed_ok p.exprs[0] ge be oe z.v width 8 x (Nat.lt_of_lt_of_le (Nat.lt_of_lt_of_le hBe hBz) z.h.size) (feAt_below hyat z.h (Nat.lt_of_lt_of_le hBe hBz)) (hge'.on z.h) hok hx)
          obtain ⟨q1, q2⟩ := mn_mul har hbr
          obtain ⟨mn, hmn⟩ : ∃ mn, (if 1000000000 < a * bb then 1000000000 else a * bb) = mn := ⟨_, rfl⟩
          have hmne : min (a * bb) 1000000000 = mn := by rw [← hmn]; split <;> omega
          have hmnr : 0 ≤ mn ∧ mn ≤ 1000000000 := by rw [← hmne]; omega
          obtain ⟨p1, p2, p3, p4⟩ := sc_mul hmnr hxr
          obtain ⟨T, hT⟩ : ∃ T, mn * x / 1000 = T := ⟨_, rfl⟩
          have hwT : IntKind.i64.wrap T = T := by rw [← hT]; exact p2
          have Hj := Lib.hid (show min (at0 (p.kids.map (Pl.est ss)) 0 * at0 (p.kids.map (Pl.est ss)) 1) 1000000000 * (kidE p.exprs 0).fixed / 1000 = T by
            rw [Hab.out.1, Hab.out.2, kidE_at hep, hx, hmne, hT])
          have hk45' := hk45
          have C0 := Lib.hid (fun z : Aft wr.heap.size wr => z.cell hbr' c0)
          have C2 := fun z : Aft wr.heap.size wr => z.cell hbr' c2
          have K0 := fun z : Aft wr.heap.size wr => z.cell hklr k0
          have K1 := fun z : Aft wr.heap.size wr => z.cell hklr k1
          have K0' := Lib.hid K0
          clear hex hok hx hmne hk45 hAe hge hge' hyat hv0 hde
          rcases hk45' with hk | hk
          · have Hv := Lib.hid (show R = T by rw [He.out]; unfold topE; rw [if_neg hk1, if_neg hk2, if_pos hk, Hj.out])
            have hkq : (p.kind == 4) = true := by simp [hk]
            skip
            have Hk := Lib.hid hk
            clear hk hk2 hk1
            go_wp2
            refine wp_region_aft wr.heap.size (by kernel_rfl) (by kernel_rfl) ?_
            repeat (go_big_quiet_step ((go_at_call 66; exact Calls.aft (Nat.le_refl _) (HFX.out _))))
            refine wpQuiet_nil ?_
            intro w3 hw'
            obtain ⟨⟨_, hb3⟩, rfl⟩ := hw'
            have H3 := Lib.hid hb3
            have l0 := C0.out ⟨w3, hb3⟩
            have l1 := K0'.out ⟨w3, hb3⟩
            dsimp only at l0 l1
            rw [Hk.out] at l0
            clear C2 K0 K1 hb3
            go_wp2
            all_goals go_meet
            all_goals exact ⟨by rw [Hv.out], H3.out⟩
          · have Hv := Lib.hid (show R = max T a by rw [He.out]; unfold topE; rw [if_neg hk1, if_neg hk2, if_neg (by omega), if_pos hk, Hj.out, Hab.out.1])
            have hkq : (p.kind == 5) = true := by simp [hk]
            have hkq4 : (p.kind == 4) = false := by simp [hk]
            have Hk := Lib.hid hk
            clear hk hk2 hk1
            go_wp2
            refine wp_region_aft wr.heap.size (by kernel_rfl) (by kernel_rfl) ?_
            repeat (go_big_quiet_step ((go_at_call 66; exact Calls.aft (Nat.le_refl _) (HFX.out _))))
            refine wpQuiet_nil ?_
            intro w3 hw'
            obtain ⟨⟨_, hb3⟩, rfl⟩ := hw'
            have H3 := Lib.hid hb3
            have l0 := C0.out ⟨w3, hb3⟩
            have l1 := K0'.out ⟨w3, hb3⟩
            dsimp only at l0 l1
            rw [Hk.out] at l0
            clear C2 K0 K1 hb3
            go_wp2
            all_goals go_meet
            all_goals exact ⟨by rw [Hv.out]; congr 1; omega, H3.out⟩
        have h4 : ¬ p.kind = 4 := by omega
        have h5 : ¬ p.kind = 5 := by omega
        have hk4' : (p.kind == 4) = false := by simpa using h4
        have hk5' : (p.kind == 5) = false := by simpa using h5
        by_cases hk6 : p.kind = 6
        · have Hv := Lib.hid (show R = min (a + bb) 1000000000 by rw [He.out]; unfold topE; rw [if_neg hk1, if_neg hk2, if_neg h4, if_neg h5, if_pos hk6, Hab.out.1, Hab.out.2])
          have hww : IntKind.i64.wrap (a + bb) = a + bb := IntWalk.i64_in _ (by omega)
          have hk6' : (p.kind == 6) = true := by simp [hk6]
          clear hk1 hk2 hk45 h4 h5 hk6 hde
          go_wp2
          all_goals go_meet
          all_goals exact ⟨by rw [Hv.out]; congr 1; omega, Below.refl _ _⟩
        have hk6' : (p.kind == 6) = false := by simpa using hk6
        by_cases hk8 : p.kind = 8
        · have hk8' : (p.kind == 8) = true := by simp [hk8]
          by_cases hcz : p.cols.length = 0
          · have hcz' : ((p.cols.length : Int) == 0) = true := by simp [hcz]
            have Hv := Lib.hid (show R = min a 1 by rw [He.out]; unfold topE; rw [if_neg hk1, if_neg hk2, if_neg h4, if_neg h5, if_neg hk6, if_pos ⟨hk8, hcz⟩, Hab.out.1])
            clear hcz hk8 hk1 hk2 hk45 h4 h5 hk6 hde
            go_wp2
            all_goals go_meet
            all_goals exact ⟨by rw [Hv.out]; congr 1; omega, Below.refl _ _⟩
          · have hcz' : ((p.cols.length : Int) == 0) = false := by simpa using hcz
            have Hv := Lib.hid (show R = a by rw [He.out]; unfold topE; rw [if_neg hk1, if_neg hk2, if_neg h4, if_neg h5, if_neg hk6, if_neg (fun hh => hcz hh.2), Hab.out.1])
            clear hcz hk8 hk1 hk2 hk45 h4 h5 hk6 hde
            go_wp2
            go_meet
            exact ⟨by rw [Hv.out], Below.refl _ _⟩
        have hk8' : (p.kind == 8) = false := by simpa using hk8
        have Hv := Lib.hid (show R = a by rw [He.out]; unfold topE; rw [if_neg hk1, if_neg hk2, if_neg h4, if_neg h5, if_neg hk6, if_neg (fun hh => hk8 hh.1), Hab.out.1])
        clear hk8 hk1 hk2 hk45 h4 h5 hk6 hde
        go_wp2
        go_meet
        exact ⟨by rw [Hv.out], Below.refl _ _⟩
      case rest =>
        obtain ⟨rfl, hbx⟩ := hcut
        have hrx := HM.out.2.1.on hbx
        have e0 : wc.cell? ⟨cb, 0, none⟩ = some (.int .i64 m) := hrx.cell 0
        have f0 := hrx.frozen 0
        have hlx := hrx.lt
        have hCm := HCE.out
        have HmC := Lib.hid (show m + R = C by have h1 := HM.out.1; have h2 := HR.out.2; have h3 := HCE.out; omega)
        have hww : IntKind.i64.wrap (m + R) = m + R := IntWalk.i64_in _ (by have h1 := HmC.out; have h2 := HR.out.2; have h3 := HN.out; omega)
        have Hrx := Lib.hid (And.intro hrx hbx)
        clear hrx hbx hCm
        go_wp2
        go_ret
        have hs := Only.set (S := fun k => k = cb) (p := ⟨cb, 0, none⟩) (Only.refl wc) (.inl rfl) (.int .i64 (m + R))
        refine ⟨rfl, ?_, (((only_below (S := fun k => k = cb) HB1.out).step HM.out.2.2 fun k hk => hk.elim (fun h => .inl h) (fun h => .inr (by omega))).below Hrx.out.2).trans hs⟩
        have h1 := Hrx.out.1.set 0 (.int .i64 (m + R))
        rw [← HmC.out]
        exact h1
end Go.Proofs.Ytnecmacjlggkeaa

/-
  Contracts: estimated, EstimateRows, EstimateCost of the program. (Printed by wip/esj.py.)
-/
namespace Go.Proofs.Ytnecmacjlggkeaa
open Go.RowKit Go.Qo
set_option linter.unusedVariables false
set_option linter.unusedSimpArgs false

def GotW (ss : List St) (w : World) (e : Ending) (w' : World) : Prop := ∃ v : Value, e = .returned v ∧ Ow w.heap.size 3 1 intC w' v (wsOf ss) ∧ Below w.heap.size w w'
set_option maxRecDepth 20000 in
set_option maxHeartbeats 2000000 in
theorem statsWidths_ok (ss : List St) (A : Option Addr) (c : Nat) (w : World) (hsl : StsIn w w.heap.size A ss) (hs4 : ss.length ≤ 1000) :
    Calls Try.prog 45 #[.slice A ss.length c] w (GotW ss w) := by
  have HS := Lib.hid (fun (z : World) (hz : Below w.heap.size w z) => hsl.on hz)
  clear hsl
  go_enter Try.func45, Try.ntmps45
  go_wp2
  go_loopg [3, 4, 7] ss.length (fun g v _ iv wr => ∃ i : Nat, i ≤ ss.length ∧ g = ss.length - i ∧ iv = .int .i64 i ∧ Ow w.heap.size 3 1 intC wr v ((wsOf ss).take i) ∧ Below w.heap.size w wr)
  case atStart => exact ⟨0, by omega, by omega, rfl, by rw [List.take_zero]; exact Ow.nil, Below.refl _ _⟩
  case round =>
    obtain ⟨i, hi, rfl, rfl, how, hb⟩ := hrel
    have HO := Lib.hid how
    have HB := Lib.hid hb
    clear how hb
    by_cases hil : i < ss.length
    · have hiI : (i : Int) < (ss.length : Int) := by omega
      obtain ⟨bs, os, sf, hAs, hBs, ⟨s0, s1, s2⟩, hsi⟩ := (HS.out _ HB.out).at_ hil
      have hdl := hsi.2.1.1
      rw [hdl] at s1
      have Hst := Lib.hid (wsOf_take hil)
      generalize (ss[i]).dist.length = dl at *
      subst hAs
      obtain ⟨U, hU⟩ : ∃ z, wr.alloc (.cells #[.int .i64 dl] 3) = z := ⟨_, rfl⟩
      have hub : Below wr.heap.size wr U := by rw [← hU]; exact balloc (Below.refl _ _) _
      have HB5 := Lib.hid (bch HB.out hub)
      have HO5 := Lib.hid (HO.out.on hub)
      have HS5 := Lib.hid (show Sl 1 intC U U.heap.size (some ⟨wr.heap.size, 0, none⟩) [(dl : Int)] by rw [← hU]; exact Row.sl' (t := 3) intC_length ((Row.new wr _ _).of rfl))
      have hsz6 : w.heap.size ≤ U.heap.size := HB5.out.size
      have hcl : ((wsOf ss).take i).length ≤ 1000 := by rw [List.length_take, wsOf_length]; omega
      have HU := Lib.hid hU
      clear hU hub hsi hdl
      go_wp2_with (at_builtin; rw [HU.out]; refine wpList_app rfl (.tmp 10) (.tmp 17) 24 rfl w.heap.size 3 _ 1 8 intC Try.underlying24 zeroIntE rfl (by decide) (by decide) intC_length intC_one _ _ rfl HO5.out (some ⟨wr.heap.size, 0, none⟩) 1 1 [(dl : Int)] rfl rfl HS5.out (by simp only [List.length_singleton]; omega) hsz6 ?_; intro v' w' hown hgr)
      go_roundg (ss.length - (i + 1))
      case measure => omega
      case rel => exact ⟨i + 1, by omega, rfl, by go_num, by rw [Hst.out]; exact hown, ((only_below (S := fun _ => False) HB5.out).grown hgr fun k hk => .inr (HO5.out.ty k hk).1).old fun _ _ h => h⟩
    · have hiI : ¬ (i : Int) < (ss.length : Int) := by omega
      have hte : (wsOf ss).take i = wsOf ss := List.take_of_length_le (by rw [wsOf_length]; omega)
      rw [hte] at HO
      go_wp2
      go_ret
      exact ⟨_, rfl, HO.out, HB.out⟩

def GotE (R C : Int) (w : World) (e : Ending) (w' : World) : Prop := e = .returned (.tuple #[.int .i64 R, .int .i64 C]) ∧ Below w.heap.size w w'
set_option maxRecDepth 20000 in
set_option maxHeartbeats 4000000 in
theorem estimated_ok (p : Pl) (f : FP) (b o : Nat) (ss : List St) (A : Option Addr) (c : Nat) (w : World) (R C : Int) (hb : b < w.heap.size) (hat : FpAt w b o f) (h : PlIn w w.heap.size f p) (hsl : StsIn w w.heap.size A ss) (hsm : ∀ s ∈ ss, StSm s) (hs4 : ss.length ≤ 1000) (hr : erP ss p = R) (hcc : ecP ss p = C) :
    Calls Try.prog 27 #[.pointer (some ⟨b, o, none⟩), .slice A ss.length c] w (GotE R C w) := by
  have HS := Lib.hid (fun (z : World) (hz : Below w.heap.size w z) => hsl.on hz)
  have HP := Lib.hid (fun (z : World) (hz : Below w.heap.size w z) => h.on hz)
  have HT := Lib.hid (fun (z : World) (hz : Below w.heap.size w z) => hat.below hz hb)
  have HSM := Lib.hid hsm
  have HR := Lib.hid (And.intro hr hcc)
  clear h hat hsl hsm hr hcc
  by_cases h4 : 4 < ss.length
  · have hno : ¬ esOk ss p := fun hs => by have := (esOk_w hs).2.2; omega
    have Hz := Lib.hid (show R = -1 ∧ C = -1 from ⟨by rw [← HR.out.1]; exact erP_no hno, by rw [← HR.out.2]; exact ecP_no hno⟩)
    have h4I : (4 : Int) < (ss.length : Int) := by omega
    clear hno
    go_enter Try.func27, Try.ntmps27
    go_wp2
    refine bodyPost_ret (v := .tuple #[.int .i64 (-1), .int .i64 (-1)]) (by simp [results, Try.results27, go_sem]) rfl ?_
    exact ⟨by rw [Hz.out.1, Hz.out.2], Below.refl _ _⟩
  have h4I : (ss.length : Int) ≤ 4 := by omega
  go_enter Try.func27, Try.ntmps27
  go_wp2
  go_loopg [6, 14] ss.length (fun g _ iv wr => ∃ i : Nat, i ≤ ss.length ∧ g = ss.length - i ∧ iv = .int .i64 i ∧ Below w.heap.size w wr ∧ ∀ j (hj : j < ss.length), j < i → StOk ss[j])
  case atStart => exact ⟨0, by omega, by omega, rfl, Below.refl _ _, fun j hj hn => absurd hn (by omega)⟩
  case round =>
    obtain ⟨i, hi, rfl, rfl, hbb, hall⟩ := hrel
    have HB := Lib.hid hbb
    have HA := Lib.hid hall
    have hbz := hbb.size
    clear hbb hall
    by_cases hil : i < ss.length
    · have hiI : (i : Int) < (ss.length : Int) := by omega
      obtain ⟨bs, os, sf, hAs, hBs, ⟨s0, s1, s2⟩, hsi⟩ := (HS.out _ HB.out).at_ hil
      have hdl := hsi.2.1.1
      obtain ⟨q, hq⟩ : ∃ q : Bool, q = true ↔ StOk ss[i] := ⟨_, @decide_eq_true_iff _ (Classical.propDecidable _)⟩
      have HX := Lib.hid (fun z : Aft wr.heap.size wr => implValidStats_ok ss[i] sf z.v q (hsi.on z.h) (HSM.out _ (List.getElem_mem hil)) hq)
      have Hq := Lib.hid hq
      unfold fsV at HX
      rw [hdl] at HX s1
      generalize (ss[i]).dist.length = dl at *
      have T0 := fun z : Aft wr.heap.size wr => z.cell hBs s0
      have T1 := fun z : Aft wr.heap.size wr => z.cell hBs s1
      have T2 := fun z : Aft wr.heap.size wr => z.cell hBs s2
      subst hAs
      clear hq hsi hdl
      go_wp2
      refine wp_region_aft wr.heap.size (by kernel_rfl) (by kernel_rfl) ?_
      repeat (go_big_quiet_step ((go_at_call 44; exact Calls.aft (Nat.le_refl _) (HX.out _))))
      refine wpQuiet_nil ?_
      intro w3 hw'
      obtain ⟨⟨_, hb3⟩, rfl⟩ := hw'
      have HB3 := Lib.hid (bch HB.out hb3)
      clear T0 T1 T2 s0 s1 s2 hb3
      cases q
      · have hno : ¬ esOk ss p := fun hs => by have := Hq.out.2 (hs.1 _ (List.getElem_mem hil)); cases this
        have Hz := Lib.hid (show R = -1 ∧ C = -1 from ⟨by rw [← HR.out.1]; exact erP_no hno, by rw [← HR.out.2]; exact ecP_no hno⟩)
        clear hno
        go_wp2
        refine bodyPost_ret (v := .tuple #[.int .i64 (-1), .int .i64 (-1)]) (by simp [results, Try.results27, go_sem]) rfl ?_
        exact ⟨by rw [Hz.out.1, Hz.out.2], HB3.out⟩
      · have Hy := Lib.hid (Hq.out.1 rfl)
        go_wp2
        go_roundg (ss.length - (i + 1))
        case measure => omega
        case rel =>
          refine ⟨i + 1, by omega, rfl, by go_num, HB3.out, fun j hj hn => ?_⟩
          by_cases hji : j < i
          · exact HA.out j hj hji
          · have : j = i := by omega
            subst this
            exact Hy.out
    · have hiI : ¬ (i : Int) < (ss.length : Int) := by omega
      have Hok := Lib.hid (show SsOk ss from fun s hs => by obtain ⟨j, hj, rfl⟩ := List.getElem_of_mem hs; exact HA.out j hj (by omega))
      obtain ⟨wd, hwd⟩ : ∃ wd, widthP (wsOf ss) p = wd := ⟨_, rfl⟩
      have Hwd := Lib.hid hwd
      have hbz2 : b < wr.heap.size := by omega
      have hat := HT.out _ HB.out
      obtain ⟨c0, c1, c2, c3, c4⟩ := hat
      have KF := Lib.hid (fun (z : World) (hz : Below wr.heap.size wr z) => show z.cell? ⟨b, o, none⟩ = some (.int .i64 f.kind) ∧ z.cell? ⟨b, o + 1, none⟩ = some (.int .i64 f.table) ∧ z.cell? ⟨b, o + 2, none⟩ = some (.slice f.es.A f.es.n f.es.c) ∧ z.cell? ⟨b, o + 3, none⟩ = some (.slice f.cs.A f.cs.n f.cs.c) ∧ z.cell? ⟨b, o + 4, none⟩ = some (.slice f.ks.A f.ks.n f.ks.c) from
        ⟨(hz.cell (p := ⟨_, _, none⟩) hbz2).trans c0, (hz.cell (p := ⟨_, _, none⟩) hbz2).trans c1, (hz.cell (p := ⟨_, _, none⟩) hbz2).trans c2, (hz.cell (p := ⟨_, _, none⟩) hbz2).trans c3, (hz.cell (p := ⟨_, _, none⟩) hbz2).trans c4⟩)
      clear hwd c0 c1 c2 c3 c4
      go_wp2
      obtain ⟨u0, hu0⟩ : ∃ z, wr.drew = z := ⟨_, rfl⟩
      have Bu0 := Lib.hid (show Below wr.heap.size wr u0 from hu0 ▸ (Below.refl _ _).drew)
      have Hu0 := Lib.hid hu0
      clear hu0
      refine wp_region_g 99 (fun z => z.cell? ⟨b, o, none⟩ = some (.int .i64 f.kind) ∧ z.cell? ⟨b, o + 1, none⟩ = some (.int .i64 f.table) ∧ z.cell? ⟨b, o + 2, none⟩ = some (.slice f.es.A f.es.n f.es.c) ∧ z.cell? ⟨b, o + 3, none⟩ = some (.slice f.cs.A f.cs.n f.cs.c) ∧ z.cell? ⟨b, o + 4, none⟩ = some (.slice f.ks.A f.ks.n f.ks.c)) (by kernel_rfl) ?_ (fun hHeld => ?_)
      · exact KF.out _ (Below.refl _ _).drew
      rw [Hu0.out] at hHeld ⊢
      refine takeG (i := 0) (v := ?v1) rfl (by kernel_rfl) (by kernel_rfl) (by kernel_rfl) (by kernel_rfl) (fun _ _ _ h => h) (Or.inl ⟨by rfl, ?hy1⟩) (by assumption) ?_
      case hy1 => ((intro w' hSw; (try dsimp only at hSw); go_simp) <;> with_reducible rfl)
      try simp only [Act.put, List.setIfInBounds_toArray, List.set_cons_zero, List.set_cons_succ]
      refine takeG (i := 1) (v := ?v2) rfl (by kernel_rfl) (by kernel_rfl) (by kernel_rfl) (by kernel_rfl) (fun _ _ _ h => h) (Or.inl ⟨by rfl, ?hy2⟩) (by assumption) ?_
      case hy2 => ((intro w' hSw; (try dsimp only at hSw); go_simp) <;> with_reducible rfl)
      try simp only [Act.put, List.setIfInBounds_toArray, List.set_cons_zero, List.set_cons_succ]
      refine takeG (i := 2) (v := ?v3) rfl (by kernel_rfl) (by kernel_rfl) (by kernel_rfl) (by kernel_rfl) (fun _ _ _ h => h) (Or.inl ⟨by rfl, ?hy3⟩) (by assumption) ?_
      case hy3 => ((intro w' hSw; (try dsimp only at hSw); go_simp) <;> with_reducible rfl)
      try simp only [Act.put, List.setIfInBounds_toArray, List.set_cons_zero, List.set_cons_succ]
      refine takeG (i := 3) (v := ?v4) rfl (by kernel_rfl) (by kernel_rfl) (by kernel_rfl) (by kernel_rfl) (fun _ _ _ h => h) (Or.inl ⟨by rfl, ?hy4⟩) (by assumption) ?_
      case hy4 => ((intro w' hSw; (try dsimp only at hSw); go_simp) <;> with_reducible rfl)
      try simp only [Act.put, List.setIfInBounds_toArray, List.set_cons_zero, List.set_cons_succ]
      refine wpAnyG_ready (rs := [4]) (by kernel_rfl) (by simp) ?_
      refine readyG rfl (fun K hK => ?_) AllReadyG.nil
      go_simp
      go_at_call 45
      refine (statsWidths_ok ss A c u0 (HS.out _ (bch HB.out Bu0.out)) hs4).mono ?_
      rintro e x1 ⟨v1, rfl, how1, hb1⟩
      obtain ⟨A1, c1, rfl, _, _, hs1⟩ := how1.shape intC_length
      have B1 := Lib.hid (bch Bu0.out hb1)
      have S1 := Lib.hid hs1.sl
      clear how1 hs1 hb1
      rw [wsOf_length]
      refine hK.out _ _ ?hS5 (fun hHeld => ?_)
      case hS5 => exact fun _ => KF.out _ B1.out
      replace hHeld := hHeld (by decide)
      clear hK K
      try simp only [Act.put, List.setIfInBounds_toArray, List.set_cons_zero, List.set_cons_succ]
      refine wpAnyG_ready (rs := [5]) (by kernel_rfl) (by simp) ?_
      refine readyG rfl (fun K hK => ?_) AllReadyG.nil
      have HPW := PlanWidth_ok p f (wsOf ss) A1 c1 x1 wd (HP.out _ (bch HB.out B1.out)) (by rw [wsOf_length]; unfold maxLen; omega) S1.out Hwd.out
      rw [wsOf_length] at HPW
      unfold fpV at HPW
      have HPW := Lib.hid HPW
      go_simp
      go_at_call 31
      refine HPW.out.mono ?_
      rintro e x2 ⟨rfl, hb2⟩
      have B2 := Lib.hid (bch B1.out hb2)
      clear hb2 HPW
      refine hK.out _ _ ?hS6 (fun hHeld => ?_)
      case hS6 => exact fun _ => KF.out _ B2.out
      replace hHeld := hHeld (by decide)
      clear hK K
      try simp only [Act.put, List.setIfInBounds_toArray, List.set_cons_zero, List.set_cons_succ]
      refine takeG (i := 6) (v := ?v7) rfl (by kernel_rfl) (by kernel_rfl) (by kernel_rfl) (by kernel_rfl) (fun _ _ _ h => h) (Or.inl ⟨by rfl, ?hy7⟩) (by assumption) ?_
      case hy7 => ((intro w' hSw; (try dsimp only at hSw); go_simp) <;> with_reducible rfl)
      try simp only [Act.put, List.setIfInBounds_toArray, List.set_cons_zero, List.set_cons_succ]
      refine wpAnyG_done (by kernel_rfl) ?_ _
      by_cases hw0 : wd = 0
      · have hno : ¬ esOk ss p := fun hs => hs.2 (by rw [Hwd.out]; exact hw0)
        have Hz := Lib.hid (show R = -1 ∧ C = -1 from ⟨by rw [← HR.out.1]; exact erP_no hno, by rw [← HR.out.2]; exact ecP_no hno⟩)
        have hw0' : (wd == 0) = true := by simp [hw0]
        clear hno hw0
        go_wp2
        refine bodyPost_ret (v := .tuple #[.int .i64 (-1), .int .i64 (-1)]) (by simp [results, Try.results27, go_sem]) rfl ?_
        exact ⟨by rw [Hz.out.1, Hz.out.2], bch HB.out B2.out⟩
      · have hok : esOk ss p := ⟨Hok.out, by rw [Hwd.out]; exact hw0⟩
        have hw0' : (wd == 0) = false := by simpa using hw0
        have hkw := esOk_w hok
        obtain ⟨W3, hW3⟩ : ∃ z, x2.alloc (.cells #[.int .i64 0] 3) = z := ⟨_, rfl⟩
        have b3 : Below x2.heap.size x2 W3 := by rw [← hW3]; exact balloc (Below.refl _ _) _
        have r3 : Row W3 x2.heap.size 3 [.int .i64 0] := by rw [← hW3]; exact Row.new _ _ _
        have hB2 := bch HB.out B2.out
        have hx2 := hB2.size
        have hcr := cost_range hok.1 hkw.2.1 (Nat.le_refl 8)
        have HX := Lib.hid (implEstimate_ok p f b o ss A c 8 x2.heap.size x2.heap.size 0 W3 R C (PlIn.below (HP.out _ hB2) b3) (by omega) b3.size (Nat.le_refl _) (FpAt.below (HT.out _ hB2) b3 (by omega)) hkw.2.1 (Nat.le_refl _) hok.1 (stsIn_below (HS.out _ hB2) b3) hkw.2.2 r3 (Int.le_refl _) (by omega) (by rw [← HR.out.1, erP_yes hok]) (by rw [← HR.out.2, ecP_yes hok]; omega))
        have H3 := Lib.hid (And.intro hB2 b3)
        have HW3 := Lib.hid hW3
        clear hok hw0 hkw b3 r3 hB2 hcr hW3
        go_upto_region 12 with fail
        rw [HW3.out]
        go_wp2_with fail
        refine HX.out.mono ?_
        rintro e w5 ⟨rfl, hr5, hb5⟩
        have e0 : w5.cell? ⟨x2.heap.size, 0, none⟩ = some (.int .i64 C) := hr5.cell 0
        have el := hr5.lt
        have H5 := Lib.hid (Only.from_ (bch H3.out.1 H3.out.2) rfl hb5 fun i (hi : i = x2.heap.size) => by omega)
        have E0 := fun z : Aft w5.heap.size w5 => z.cell el e0
        clear hr5 hb5
        go_wp2
        go_quiet (fail)
        go_wp2
        refine bodyPost_ret (v := .tuple #[.int .i64 R, .int .i64 C]) (by simp [results, Try.results27, go_sem]) rfl ?_
        exact ⟨rfl, bdrewN H5.out _⟩

set_option maxRecDepth 20000 in
set_option maxHeartbeats 2000000 in
theorem implEstimateRows_ok (p : Pl) (f : FP) (ss : List St) (A : Option Addr) (c : Nat) (w : World) (R : Int) (h : PlIn w w.heap.size f p) (hsl : StsIn w w.heap.size A ss) (hsm : ∀ s ∈ ss, StSm s) (hs4 : ss.length ≤ 1000) (hr : erP ss p = R) :
    Calls Try.prog 10 #[fpV f, .slice A ss.length c] w fun e w' => e = .returned (.int .i64 R) ∧ Below w.heap.size w w' := by
  obtain ⟨W1, hW1⟩ : ∃ z, w.alloc (.cells #[.int .i64 f.kind, .int .i64 f.table, .slice f.es.A f.es.n f.es.c, .slice f.cs.A f.cs.n f.cs.c, .slice f.ks.A f.ks.n f.ks.c] 27) = z := ⟨_, rfl⟩
  have B1 : Below w.heap.size w W1 := by rw [← hW1]; exact balloc (Below.refl _ _) _
  have r1 : Row W1 w.heap.size 27 [.int .i64 f.kind, .int .i64 f.table, .slice f.es.A f.es.n f.es.c, .slice f.cs.A f.cs.n f.cs.c, .slice f.ks.A f.ks.n f.ks.c] := by rw [← hW1]; exact Row.new _ _ _
  have HX := Lib.hid (estimated_ok p f w.heap.size 0 ss A c W1 R (ecP ss p) r1.lt ⟨r1.cell 0, r1.cell 1, r1.cell 2, r1.cell 3, r1.cell 4⟩ (h.on B1) (hsl.on B1) hsm hs4 hr rfl)
  have HB1 := Lib.hid B1
  have HW1 := Lib.hid hW1
  unfold fpV
  clear h hsl hsm hr hW1 B1 r1
  go_enter Try.func10, Try.ntmps10
  go_upto_region 1 with fail
  rw [HW1.out]
  go_wp2_with fail
  refine HX.out.mono ?_
  rintro e w2 ⟨rfl, hb2⟩
  go_wp2
  go_ret
  exact ⟨rfl, bch HB1.out hb2⟩

set_option maxRecDepth 20000 in
set_option maxHeartbeats 2000000 in
theorem implEstimateCost_ok (p : Pl) (f : FP) (ss : List St) (A : Option Addr) (c : Nat) (w : World) (R : Int) (h : PlIn w w.heap.size f p) (hsl : StsIn w w.heap.size A ss) (hsm : ∀ s ∈ ss, StSm s) (hs4 : ss.length ≤ 1000) (hr : ecP ss p = R) :
    Calls Try.prog 15 #[fpV f, .slice A ss.length c] w fun e w' => e = .returned (.int .i64 R) ∧ Below w.heap.size w w' := by
  obtain ⟨W1, hW1⟩ : ∃ z, w.alloc (.cells #[.int .i64 f.kind, .int .i64 f.table, .slice f.es.A f.es.n f.es.c, .slice f.cs.A f.cs.n f.cs.c, .slice f.ks.A f.ks.n f.ks.c] 27) = z := ⟨_, rfl⟩
  have B1 : Below w.heap.size w W1 := by rw [← hW1]; exact balloc (Below.refl _ _) _
  have r1 : Row W1 w.heap.size 27 [.int .i64 f.kind, .int .i64 f.table, .slice f.es.A f.es.n f.es.c, .slice f.cs.A f.cs.n f.cs.c, .slice f.ks.A f.ks.n f.ks.c] := by rw [← hW1]; exact Row.new _ _ _
  have HX := Lib.hid (estimated_ok p f w.heap.size 0 ss A c W1 (erP ss p) R r1.lt ⟨r1.cell 0, r1.cell 1, r1.cell 2, r1.cell 3, r1.cell 4⟩ (h.on B1) (hsl.on B1) hsm hs4 rfl hr)
  have HB1 := Lib.hid B1
  have HW1 := Lib.hid hW1
  unfold fpV
  clear h hsl hsm hr hW1 B1 r1
  go_enter Try.func15, Try.ntmps15
  go_upto_region 1 with fail
  rw [HW1.out]
  go_wp2_with fail
  refine HX.out.mono ?_
  rintro e w2 ⟨rfl, hb2⟩
  go_wp2
  go_ret
  exact ⟨rfl, bch HB1.out hb2⟩
end Go.Proofs.Ytnecmacjlggkeaa
