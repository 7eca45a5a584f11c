/-
  Contract of IndexOf: the program's.
-/
import Derived.Test.YtlhonhacehgooaaGreatProg
import Derived.Test.YtlhonhacehgooaaGreatZjPln
import Derived.Test.YtlhonhacehgooaaGreatZjJsx
import Derived.Test.YtlhonhacehgooaaGreatZjHasC
import Derived.Test.YtlhonhacehgooaaGreatZjRwt
import Derived.Test.YtlhonhacehgooaaGreatZjCol
namespace Go.Proofs.YtlhonhacehgooaaGreat
open Go.RowKit Go.Qo
set_option linter.unusedVariables false
set_option linter.unusedSimpArgs false

theorem zeroIntI : (Tryz.prog.info? 3).map (fun i => (i.zero, i.size, i.bytes)) = some (some (.int .i64 0), 1, 8) := by kernel_rfl
/-- A list of numbers, of the call's own. -/
def IntRes (xs : List Int) (w : World) (e : Ending) (w' : World) : Prop := ∃ v, e = .returned v ∧ Ow w.heap.size 3 1 intC w' v xs ∧ Below w.heap.size w w'

set_option maxHeartbeats 1000000 in
theorem idxCmp_ok (W : Int) (A : Option Addr) (c : Nat) (rows : List Row1) (cn tb cb : Nat) (i j : Int) (w : World) (hi : InR rows.length i) (hj : InR rows.length j) (hn : rows.length ≤ 400) (hr : ∀ r ∈ rows, RowOk W r) (hc : (cn : Int) < W)
    (h : Rws w w.heap.size A rows) (htb : tb < w.heap.size) (hcb : cb < w.heap.size) (k0 : w.cell? ⟨tb, 1, none⟩ = some (.slice A rows.length c)) (k1 : w.cell? ⟨cb, 0, none⟩ = some (.int .i64 cn)) :
    Calls Tryz.prog 162 #[.int .i64 i, .int .i64 j, .pointer (some ⟨tb, 0, none⟩), .pointer (some ⟨cb, 0, none⟩)] w fun e w' => e = .returned (.int .i64 (cAt rows cn i j)) ∧ Below w.heap.size w w' := by
  obtain ⟨i, rfl⟩ := Int.eq_ofNat_of_zero_le hi.1
  obtain ⟨j, rfl⟩ := Int.eq_ofNat_of_zero_le hj.1
  have hi1 : i < rows.length := by have := hi.2; omega
  have hj1 : j < rows.length := by have := hj.2; omega
  have hxi := Lib.hid (List.getElem?_eq_getElem hi1)
  have hxj := Lib.hid (List.getElem?_eq_getElem hj1)
  have hri := hr _ (List.getElem_mem hi1)
  have hrj := hr _ (List.getElem_mem hj1)
  obtain ⟨b1, o1, A1, C1, hA1, hB1, c1, _, _, s1⟩ := h.at_ hi1
  obtain ⟨b2, o2, A2, C2, hA2, hB2, c2, _, _, s2⟩ := h.at_ hj1
  generalize rows[i] = x at *
  generalize rows[j] = y at *
  have hcx : cn < x.length := by have := hri.2; omega
  have hcy : cn < y.length := by have := hrj.2; omega
  have hlx := (rowValid_len hri.1).2
  have hly := (rowValid_len hrj.1).2
  obtain ⟨b3, o3, hA3, hB3, d30, d31⟩ := Val.at_ s1 hcx
  obtain ⟨b4, o4, hA4, hB4, d40, d41⟩ := Val.at_ s2 hcy
  have hvx := List.getElem?_eq_getElem hcx
  have hvy := List.getElem?_eq_getElem hcy
  have HE := Lib.hid (show cAt rows cn (i : Int) (j : Int) = iCmp x[cn].2 y[cn].2 by unfold cAt; rw [nAt_eq hxi.out hvx, nAt_eq hxj.out hvy])
  generalize x[cn] = u at *
  generalize y[cn] = v at *
  subst hA1
  cases hA2
  subst hA3
  subst hA4
  have HK := Lib.hid (fun z => cmpCompare_ok u.2 v.2 z)
  have d1 := fun z : Aft w.heap.size w => z.cell htb k0
  have d2 := fun z : Aft w.heap.size w => z.cell hcb k1
  have d3 := fun z : Aft w.heap.size w => z.cell hB1 c1
  have d4 := fun z : Aft w.heap.size w => z.cell hB2 c2
  have d5 := fun z : Aft w.heap.size w => z.cell hB3 d31
  have d6 := fun z : Aft w.heap.size w => z.cell hB4 d41
  have hi4 : i ≤ 400 := by omega
  have hj4 : j ≤ 400 := by omega
  have hc6 : cn ≤ 6 := by omega
  have hi5 : (i : Int) < (rows.length : Int) := by omega
  have hj5 : (j : Int) < (rows.length : Int) := by omega
  have hcx5 : (cn : Int) < (x.length : Int) := by omega
  have hcy5 : (cn : Int) < (y.length : Int) := by omega
  clear hi hj hr hri hrj h s1 s2 hvx hvy k0 k1 c1 c2 d30 d31 d40 d41
  go_enter Tryz.func162, Tryz.ntmps162
  go_wp2
  refine wp_region_aft w.heap.size (by kernel_rfl) (by kernel_rfl) ?_
  repeat (go_big_quiet_step ((go_at_call 163; exact Calls.aft (Nat.le_refl _) ((HK.out _).mono fun e w' h => ⟨h.1, by rw [← h.2]; exact Below.refl _ _⟩))))
  refine wpQuiet_nil ?_
  intro w1 hw'
  obtain ⟨⟨_, hb1⟩, rfl⟩ := hw'
  go_wp2
  go_ret
  exact ⟨ret_int HE.out.symm, hb1⟩
theorem callIdx : Callable 162 := callable_of Tryz.func162 (by kernel_rfl) (by kernel_rfl)

set_option maxRecDepth 20000 in
set_option maxHeartbeats 2000000 in
theorem implIndexOf_ok (W col : Int) (A : Option Addr) (c : Nat) (rows : List Row1) (w : World) (hn : rows.length ≤ 1048576) (h : Rws w w.heap.size A rows) (q : Bool) (hq : q = true ↔ (TabOk W rows ∧ 0 ≤ col ∧ col < W)) :
    Calls Tryz.prog 118 #[.agg #[.int .i64 W, .slice A rows.length c], .int .i64 col] w (IntRes (if q then idxOf rows col.toNat else []) w) := by
  obtain ⟨W0, hW0⟩ : ∃ z, (w.alloc (.cells #[.int .i64 W, .slice A rows.length c] 32)).alloc (.cells #[.int .i64 col] 3) = z := ⟨_, rfl⟩
  have B0 : Below w.heap.size w W0 := by rw [← hW0]; exact balloc (balloc (Below.refl _ _) _) _
  have r0 : Row W0 w.heap.size 32 [.int .i64 W, .slice A rows.length c] := by rw [← hW0]; exact Row.first _ _ _ _
  have r1 : Row W0 (w.heap.size + 1) 3 [.int .i64 col] := by rw [← hW0]; exact Row.second _ _ _ _
  have HW := Lib.hid hW0
  have HB := Lib.hid (And.intro B0 (And.intro r0 r1))
  have HC := Lib.hid (hasColumn_ok W col A c rows W0 hn (h.on B0) q hq)
  have HH := Lib.hid h
  have Hq := Lib.hid hq
  have a0 : W0.cell? ⟨w.heap.size, 0, none⟩ = some (.int .i64 W) := r0.cell 0
  have a1 : W0.cell? ⟨w.heap.size, 1, none⟩ = some (.slice A rows.length c) := r0.cell 1
  have a2 : W0.cell? ⟨w.heap.size + 1, 0, none⟩ = some (.int .i64 col) := r1.cell 0
  clear hW0 B0 r0 r1 h hq
  cases q
  · go_enter Tryz.func118, Tryz.ntmps118
    go_upto_region 1 with fail
    rw [HW.out]
    go_wp2_with fail
    refine HC.out.mono ?_
    rintro e w1 ⟨rfl, hb1⟩
    have H1 := Lib.hid (bch HB.out.1 hb1)
    have R1 := Lib.hid (And.intro (HB.out.2.1.on hb1) (HB.out.2.2.on hb1))
    clear hb1 a0 a1 a2
    go_wp2
    go_ret
    exact ⟨_, rfl, Ow.nil, H1.out⟩
  · obtain ⟨hto, hc0, hcW⟩ := Hq.out.1 rfl
    obtain ⟨cn, rfl⟩ := Int.eq_ofNat_of_zero_le hc0
    have hn4 : rows.length ≤ 400 := hto.2.2.1
    have hW6 : W ≤ 6 := hto.2.1
    have Hr := Lib.hid (tabRows1 hto)
    clear hto hc0
    go_enter Tryz.func118, Tryz.ntmps118
    go_upto_region 1 with fail
    rw [HW.out]
    go_wp2_with fail
    refine HC.out.mono ?_
    rintro e w1 ⟨rfl, hb1⟩
    have H1 := Lib.hid (bch HB.out.1 hb1)
    have R1 := Lib.hid (And.intro (HB.out.2.1.on hb1) (HB.out.2.2.on hb1))
    clear hb1 a0 a1 a2
    have a1 : w1.cell? ⟨w.heap.size, 1, none⟩ = some (.slice A rows.length c) := R1.out.1.cell 1
    go_wp2
    go_loopg [5, 15] rows.length (fun g v5 iv wr => ∃ k : Nat, k ≤ rows.length ∧ g = rows.length - k ∧ iv = .int .i64 k ∧ Below w1.heap.size w1 wr ∧ Ow w1.heap.size 3 1 intC wr v5 (idxTo rows cn k))
    case atStart => exact ⟨0, by omega, by omega, rfl, Below.refl _ _, Ow.nil⟩
    case round =>
      obtain ⟨k, hk, rfl, rfl, hb, how⟩ := hrel
      have HI := Lib.hid (And.intro hb how)
      have hsz := hb.size
      by_cases hlt : k < rows.length
      · obtain ⟨b3, off3, A3, C3, hA3, hB3, c3, _, _, s3⟩ := (HH.out.on (bch H1.out hb)).at_ hlt
        have hx := Lib.hid (List.getElem?_eq_getElem hlt)
        have hxo := Hr.out _ (List.getElem_mem hlt)
        generalize rows[k] = x at *
        subst hA3
        have hx6 := (rowValid_len hxo.1).2
        have hcx : cn < x.length := by have := hxo.2; omega
        obtain ⟨b4, o4, hA4, hB4, d0, d1⟩ := Val.at_ s3 hcx
        subst hA4
        have HV := Lib.hid (nul_eq hx.out (List.getElem?_eq_getElem hcx))
        have a2 : wr.cell? ⟨w.heap.size + 1, 0, none⟩ = some (.int .i64 cn) := (R1.out.2.on hb).cell 0
        generalize x[cn] = u at *
        obtain ⟨un, n⟩ := u
        dsimp only at HV d0 d1
        have hcx5 : (cn : Int) < (x.length : Int) := by omega
        have hlt5 : (k : Int) < (rows.length : Int) := by omega
        clear hb hxo s3
        cases un
        · obtain ⟨A5, c5, rfl, _, _, _⟩ := how.shape intC_length
          have hL := idxTo_len (rows := rows) (cn := cn) k
          have B2 := Lib.hid (balloc (Below.refl wr.heap.size wr) (.cells #[.int .i64 k] 3))
          have O2 := Lib.hid (HI.out.2.on B2.out)
          have S2 := Lib.hid (Row.sl' (w := wr.alloc (.cells #[.int .i64 k] 3)) (t := 3) (xs := [(k : Int)]) intC_length ((Row.new wr _ _).of rfl))
          clear how
          go_wp2_with (at_builtin; refine wpList_app rfl (.tmp 26) (.tmp 28) 23 rfl w1.heap.size 3 _ 1 8 intC Tryz.underlying23 zeroIntI rfl (by decide) (by decide) intC_length intC_one _ (idxTo rows cn k) rfl O2.out (some ⟨wr.heap.size, 0, none⟩) 1 1 [(k : Int)] rfl rfl S2.out (by simp <;> omega) (by simp; omega) ?_; intro v7 w7 how7 hgr7)
          go_roundg (rows.length - (k + 1))
          case measure => omega
          case rel =>
            refine ⟨k + 1, by omega, rfl, by go_num, ?_, ?_⟩
            · exact (balloc HI.out.1 _).grown hgr7 (by simp; omega) fun b hb => (O2.out.ty b hb).1
            · have e : idxTo rows cn (k + 1) = idxTo rows cn k ++ [(k : Int)] := idxTo_yes HV.out
              rw [e]; exact how7
        · go_wp2
          go_roundg (rows.length - (k + 1))
          case measure => omega
          case rel =>
            refine ⟨k + 1, by omega, rfl, by go_num, HI.out.1, ?_⟩
            have e : idxTo rows cn (k + 1) = idxTo rows cn k := idxTo_no HV.out
            rw [e]; exact HI.out.2
      · obtain rfl : k = rows.length := by omega
        obtain ⟨L, hL⟩ : ∃ L, idxTo rows cn rows.length = L := ⟨_, rfl⟩
        have HL := Lib.hid hL
        have hll : L.length ≤ 400 := by rw [← hL]; have := idxTo_len (rows := rows) (cn := cn) rows.length; omega
        rw [hL] at how
        have hLi : ∀ i ∈ L, InR rows.length i := by rw [← hL]; exact idxTo_in (Nat.le_refl _)
        obtain ⟨A5, c5, rfl, _, _, _⟩ := how.shape intC_length
        have HI2 := Lib.hid (And.intro HI.out.1 how)
        rcases Nat.eq_zero_or_pos L.length with hz | hz
        · have hl0 : L = [] := List.eq_nil_of_length_eq_zero hz
          have hlz : (L.length : Nat) = 0 := hz
          have HSN := Lib.hid (fun (v : Value) z => Js.sortStableNil_ok A5 c5 v z)
          clear hb how hL hLi
          rw [hlz]
          go_wp2_with fail
          refine (HSN.out _ _).mono ?_
          rintro e w5 ⟨rfl, rfl⟩
          go_wp2
          go_ret
          refine ⟨_, rfl, ?_, bch H1.out HI2.out.1⟩
          have e : idxOf rows cn = [] := by unfold idxOf; rw [HL.out, hl0]; rfl
          have h1 := HI2.out.2
          rw [hz, hl0] at h1
          simp only [if_true, Int.toNat_natCast]
          rw [e]
          exact h1.low H1.out.size
        · obtain ⟨g, hA5, _, hg, hgl, _, _, _⟩ := how.head intC_length hz
          subst hA5
          have hz0 : w.heap.size + 1 < w1.heap.size := R1.out.2.lt
          have hOL : Js.OwL (Js.elCell id) w1.heap.size g L.length c5 wr L := ⟨rfl, by have h1 := how; unfold Ow at h1; exact h1⟩
          have hIC : Js.IsCmpG (Js.elCell id) (cAt rows cn) (InR rows.length) wr (.slice (some ⟨g, 0, none⟩) L.length c5) (.func (.func 162) #[] #[.pointer (some ⟨w.heap.size, 0, none⟩), .pointer (some ⟨w.heap.size + 1, 0, none⟩)]) := by
            refine ⟨_, _, rfl, callIdx, fun z hz i j hi hj => ?_⟩
            have hz' : Below w.heap.size w z := Only.from_ (bch H1.out HI2.out.1) rfl hz fun b hb => by injection hb with hb; have hb' : g = b := hb; omega
            have hbz : ∀ b, b < w1.heap.size → z.heap[b]? = wr.heap[b]? := fun b hb => hz.block b (by omega) fun hh => by injection hh with hh; have hh' : g = b := hh; omega
            have q1 := (R1.out.1.on HI2.out.1).keep (hbz _ (by omega))
            have q2 := (R1.out.2.on HI2.out.1).keep (hbz _ (by omega))
            exact idxCmp_ok W A c rows cn w.heap.size (w.heap.size + 1) i j z hi hj hn4 Hr.out hcW (HH.out.on hz') q1.lt q2.lt (q1.cell 1) (q2.cell 0)
          have HSN := Lib.hid (Js.sortStable_ok id (cAt rows cn) (InR rows.length) (cAt_cm _) w1.heap.size g L.length c5 L _ wr rfl (by omega) hLi hIC hOL)
          clear hb how hL hLi hOL hIC
          go_wp2_with fail
          refine HSN.out.mono ?_
          rintro e w5 ⟨rfl, hO5, hb5⟩
          have H5 := Lib.hid (And.intro hO5 hb5)
          clear hO5 hb5
          go_wp2
          go_ret
          have e : idxOf rows cn = gSort (cAt rows cn) L := by unfold idxOf; rw [HL.out]
          refine ⟨_, rfl, ?_, Only.from_ (bch H1.out HI2.out.1) rfl H5.out.2 fun b hb => by subst hb; omega⟩
          simp only [if_true, Int.toNat_natCast]
          rw [e]
          exact (H5.out.1.ow).low H1.out.size
end Go.Proofs.YtlhonhacehgooaaGreat
