/-
  Several texts in one (StO StA StS).
-/
import Derived.Test.YtnecmacjlggkeaaProg
import Derived.Test.YtnecmacjlggkeaaEsd
import Derived.Test.YtnecmacjlggkeaaRwt
import Derived.Test.YtnecmacjlggkeaaTbg
import Derived.Test.YtnecmacjlggkeaaPln
/-
  Contract: statsOf of the reference, as far as the generators need it: numbers in range, memory of the call's own.
-/
namespace Go.Proofs.Ytnecmacjlggkeaa
open Go.RowKit Go.Qo
set_option linter.unusedVariables false
set_option linter.unusedSimpArgs false

/-- Statistics in memory of the call's own, their two lists apart. -/
def StOw (lo : Nat) (w : World) (f : FS) (s : St) : Prop := f.rows = s.rows ∧ Ow lo 3 1 intC w (.slice f.dv.A f.dv.n f.dv.c) s.dist ∧ Ow lo 3 1 intC w (.slice f.nv.A f.nv.n f.nv.c) s.nulls ∧ ∀ b, (Value.slice f.dv.A f.dv.n f.dv.c).ownBlock = some b → (Value.slice f.nv.A f.nv.n f.nv.c).ownBlock ≠ some b
def GotSt (lo : Nat) (N W : Nat) (w : World) (e : Ending) (w' : World) : Prop := ∃ (f : FS) (s : St), e = .returned (fsV f) ∧ StOw lo w' f s ∧ s.rows = N ∧ s.dist.length = W ∧ s.nulls.length = W ∧ (∀ x ∈ s.dist, 0 ≤ x ∧ x ≤ 400) ∧ (∀ x ∈ s.nulls, 0 ≤ x ∧ x ≤ 400) ∧ Below w.heap.size w w'
theorem zeroIntO : (Try.prog.info? 3).map (fun i => (i.zero, i.size, i.bytes)) = some (some (.int .i64 0), 1, 8) := by kernel_rfl
theorem zeroRowO : (Try.prog.info? 88).map (fun i => (i.zero, i.size, i.bytes)) = some (some (.slice none 0 0), 1, 24) := by kernel_rfl
set_option maxRecDepth 20000 in
set_option maxHeartbeats 8000000 in
theorem statsOf_ok (W : Nat) (A : Option Addr) (c : Nat) (rows : List Row1) (w : World) (hW : W ≤ 16) (hn : rows.length ≤ 400) (hrl : ∀ r ∈ rows, r.length = W) (h : Rws w w.heap.size A rows) :
    Calls Try.prog 41 #[.agg #[.int .i64 W, .slice A rows.length c]] w (GotSt w.heap.size rows.length W w) := by
  obtain ⟨rb, hrb⟩ : ∃ n, w.heap.size + 1 = n := ⟨_, rfl⟩
  obtain ⟨ob, hob⟩ : ∃ n, rb + 1 = n := ⟨_, rfl⟩
  obtain ⟨W1, hW1⟩ : ∃ z, w.alloc (.cells #[.int .i64 W, .slice A rows.length c] 72) = z := ⟨_, rfl⟩
  obtain ⟨W2, hW2⟩ : ∃ z, W1.alloc (.cells #[.int .i64 0, .slice none 0 0, .slice none 0 0] 33) = z := ⟨_, rfl⟩
  obtain ⟨W3, hW3⟩ : ∃ z, W2.alloc (.cells #[.int .i64 rows.length, .slice none 0 0, .slice none 0 0] 33) = z := ⟨_, rfl⟩
  have b1 : Below w.heap.size w W1 := by rw [← hW1]; exact balloc (Below.refl _ _) _
  have b2 : Below W1.heap.size W1 W2 := by rw [← hW2]; exact balloc (Below.refl _ _) _
  have b3 : Below W2.heap.size W2 W3 := by rw [← hW3]; exact balloc (Below.refl _ _) _
  have s1 : rb = W1.heap.size := by rw [← hW1]; simp; omega
  have s2 : ob = W2.heap.size := by rw [← hW2]; simp; omega
  have s3 : ob + 1 = W3.heap.size := by rw [← hW3]; simp; omega
  have r1 : Row W1 w.heap.size 72 [.int .i64 W, .slice A rows.length c] := by rw [← hW1]; exact Row.new _ _ _
  have r2 : Row W2 rb 33 [.int .i64 0, .slice none 0 0, .slice none 0 0] := by rw [s1, ← hW2]; exact Row.new _ _ _
  have r3 : Row W3 ob 33 [.int .i64 rows.length, .slice none 0 0, .slice none 0 0] := by rw [s2, ← hW3]; exact Row.new _ _ _
  have HR1 := Lib.hid ((r1.on b2).on b3)
  have HR2 := Lib.hid (r2.on b3)
  have HR3 := Lib.hid r3
  have HB3 := Lib.hid (bch (bch b1 b2) b3)
  have HW1 := Lib.hid hW1
  have HW2 := Lib.hid hW2
  have HW3 := Lib.hid hW3
  have S1 := Lib.hid s1
  have S2 := Lib.hid s2
  have S3 := Lib.hid s3
  have HS := Lib.hid (fun (z : World) (hz : Below w.heap.size w z) => h.on hz)
  have HL := Lib.hid hrl
  clear b1 b2 b3 s1 s2 s3 r1 r2 r3 hW1 hW2 hW3 h hrl
  go_enter Try.func41, Try.ntmps41
  go_upto_region 2 with fail
  rw [HW1.out, HW2.out, HW3.out]
  go_wp2
  go_loopg [4] W (fun g cv wr => ∃ (k : Nat) (dl nl : List Int) (fd fn : SV), k ≤ W ∧ g = W - k ∧ cv = .int .i64 k ∧ dl.length = k ∧ nl.length = k ∧ (∀ x ∈ dl, 0 ≤ x ∧ x ≤ 400) ∧ (∀ x ∈ nl, 0 ≤ x ∧ x ≤ 400) ∧ Below w.heap.size w wr ∧ Row wr w.heap.size 72 [.int .i64 W, .slice A rows.length c] ∧ Row wr rb 33 [.int .i64 0, .slice none 0 0, .slice none 0 0] ∧ Row wr ob 33 [.int .i64 rows.length, .slice fd.A fd.n fd.c, .slice fn.A fn.n fn.c] ∧ Ow (ob + 1) 3 1 intC wr (.slice fd.A fd.n fd.c) dl ∧ Ow (ob + 1) 3 1 intC wr (.slice fn.A fn.n fn.c) nl ∧ ∀ b, (Value.slice fd.A fd.n fd.c).ownBlock = some b → (Value.slice fn.A fn.n fn.c).ownBlock ≠ some b)
  case atStart => exact ⟨0, [], [], ⟨none, 0, 0⟩, ⟨none, 0, 0⟩, by omega, by omega, rfl, rfl, rfl, by simp, by simp, HB3.out, HR1.out, HR2.out, HR3.out, Ow.nil, Ow.nil, fun b hb => by cases hb⟩
  case round =>
    obtain ⟨wq, hwq⟩ : ∃ z, z = wr := ⟨_, rfl⟩
    subst hwq
    obtain ⟨k, dl, nl, fd, fn, hk, rfl, rfl, hdl, hnl, hdr, hnr, hb, h1, h2, h3, hod, hon, hap⟩ := hrel
    have HH := Lib.hid (And.intro hdl (And.intro hnl (And.intro hdr (And.intro hnr (And.intro hb (And.intro h1 (And.intro h2 (And.intro h3 (And.intro hod (And.intro hon hap))))))))))
    have hbz := h3.lt
    have c0 : wq.cell? ⟨w.heap.size, 0, none⟩ = some (.int .i64 W) := h1.cell 0
    clear hdl hnl hdr hnr hb h1 h2 h3 hod hon hap
    by_cases hkW : k < W
    · have hkI : (k : Int) < (W : Int) := by omega
      obtain ⟨Wo, hWo⟩ : ∃ z, wq.alloc (.cells #[] 88) = z := ⟨_, rfl⟩
      have bo : Below wq.heap.size wq Wo := by rw [← hWo]; exact balloc (Below.refl _ _) _
      have so : wq.heap.size + 1 = Wo.heap.size := by rw [← hWo]; simp
      have HOo := Lib.hid (show Ow wq.heap.size 88 1 svC Wo (.slice (some ⟨wq.heap.size, 0, none⟩) 0 0) ([] : List SV) by rw [← hWo]; exact Ow.lit (xs := ([] : List SV)) rfl rfl (Nat.le_refl _) (by decide))
      have HBo := Lib.hid bo
      have HWo := Lib.hid hWo
      clear hWo bo so
      go_upto_region 6 with fail
      rw [HWo.out]
      go_wp2
      go_loopg [5, 6, 7] rows.length (fun g sv nv iv WI => ∃ (i n : Nat) (svs : List SV) (rws : List Row1), i ≤ rows.length ∧ g = rows.length - i ∧ iv = .int .i64 i ∧ nv = .int .i64 n ∧ n ≤ i ∧ rws.length ≤ i ∧ (∀ r ∈ rws, r.length = 1) ∧ Below wq.heap.size wq WI ∧ Ow wq.heap.size 88 1 svC WI sv svs ∧ RowsT 37 2 valC wq.heap.size WI svs rws)
      case atStart => exact ⟨0, 0, [], [], by omega, by omega, rfl, rfl, by omega, by simp, by simp, HBo.out, HOo.out, RowsT.nil⟩
      case round =>
        obtain ⟨i, n, svs, rws, hi, rfl, rfl, rfl, hni, hri, hr1, hbi, hoi, hti⟩ := hrel
        have HI := Lib.hid (And.intro hbi (And.intro hoi (And.intro hti hr1)))
        have hsl := hti.1
        obtain ⟨As, cs, rfl, hcs1, hcs2, hss⟩ := hoi.shape svC_length
        have hbr := bch HH.out.2.2.2.2.1 hbi
        have d0 : wr.cell? ⟨w.heap.size, 0, none⟩ = some (.int .i64 W) := (HH.out.2.2.2.2.2.1.on hbi).cell 0
        have d1 : wr.cell? ⟨w.heap.size, 1, none⟩ = some (.slice A rows.length c) := (HH.out.2.2.2.2.2.1.on hbi).cell 1
        have Hss := Lib.hid (And.intro hss (And.intro hsl hcs2))
        clear hoi hti hr1 hss hsl hcs1 hcs2
        by_cases hil : i < rows.length
        · have hiI : (i : Int) < (rows.length : Int) := by omega
          obtain ⟨bs, os, Ar, cr, hA, hBs, ccs, hrc1, hrc2, hrs⟩ := (HS.out _ hbr).at_ hil
          have hrW := HL.out _ (List.getElem_mem hil)
          rw [hrW] at ccs hrc1
          have hkr : k < (rows[i]).length := by omega
          obtain ⟨bv, ov, hAv, hBv, v0, v1⟩ := hrs.at2 (f := fun x : Val => Value.bool x.1) (g := fun x : Val => Value.int .i64 x.2) hkr
          generalize (rows[i])[k] = v at *
          obtain ⟨nl1, nv⟩ := v
          subst hA
          subst hAv
          clear hrs hrc1 hrc2 hrW hkr
          cases nl1
          · obtain ⟨V8, hV8⟩ : ∃ z, wr.alloc (.cells #[.bool false, .int .i64 nv] 37) = z := ⟨_, rfl⟩
            obtain ⟨V9, hV9⟩ : ∃ z, V8.alloc (.cells #[.bool false, .int .i64 nv] 37) = z := ⟨_, rfl⟩
            have b8 : Below wr.heap.size wr V8 := by rw [← hV8]; exact balloc (Below.refl _ _) _
            have b9 : Below V8.heap.size V8 V9 := by rw [← hV9]; exact balloc (Below.refl _ _) _
            have s8 : wr.heap.size + 1 = V8.heap.size := by rw [← hV8]; simp
            have r8 : Row V8 wr.heap.size 37 [.bool false, .int .i64 nv] := by rw [← hV8]; exact Row.new _ _ _
            have hS9 : Sl 2 valC V9 V9.heap.size (some ⟨V8.heap.size, 0, none⟩) [((false, nv) : Val)] := by rw [← hV9]; exact Row.sl' (t := 37) valC_length ((Row.new V8 _ _).of rfl)
            have hb9 := bch b8 b9
            have hCN := specCountRow_ok As (some ⟨V8.heap.size, 0, none⟩) cs 1 rws [((false, nv) : Val)] V9 (by unfold maxLen; omega) (by simp; decide) (sls_of' (Hss.out.1.on hb9).sl (HI.out.2.2.1.on hb9)) hS9
            obtain ⟨q, hq⟩ : ∃ q, cnt rws [((false, nv) : Val)] = q := ⟨_, rfl⟩
            rw [hq, ← Hss.out.2.1] at hCN
            simp only [List.length_singleton] at hCN
            have HCN := Lib.hid hCN
            have R8 := Lib.hid (fun (z : World) (hz : Below V9.heap.size V9 z) => (r8.on b9).on hz)
            have H9 := Lib.hid hb9
            have HV8 := Lib.hid hV8
            have HV9 := Lib.hid hV9
            have S8 := Lib.hid s8
            clear hV8 hV9 b8 b9 s8 r8 hS9 hb9 hCN hq
            go_upto_region 11 with fail
            rw [HV8.out]
            have z0 : V8.cell? ⟨wr.heap.size, 0, none⟩ = some (.bool false) := by rw [← HV8.out]; exact (Row.new _ _ _ : Row _ _ 37 _).cell 0
            have z1 : V8.cell? ⟨wr.heap.size, 1, none⟩ = some (.int .i64 nv) := by rw [← HV8.out]; exact (Row.new _ _ _ : Row _ _ 37 _).cell 1
            go_wp2_with fail
            rw [HV9.out]
            refine HCN.out.mono ?_
            rintro e w9 ⟨rfl, hb9⟩
            have HB9 := Lib.hid (bch H9.out hb9)
            have y0 : w9.cell? ⟨wr.heap.size, 0, none⟩ = some (.bool false) := (R8.out _ hb9).cell 0
            have y1 : w9.cell? ⟨wr.heap.size, 1, none⟩ = some (.int .i64 nv) := (R8.out _ hb9).cell 1
            have hl9 := HB9.out.size
            have hq9 : wq.heap.size ≤ w9.heap.size := Nat.le_trans HI.out.1.size hl9
            clear hb9 z0 z1
            by_cases hq0 : q = 0
            · have hq0' : ((q : Int) == 0) = true := by simp [hq0]
              obtain ⟨X1, hX1⟩ : ∃ z, w9.alloc (.cells #[.bool false, .int .i64 nv] 37) = z := ⟨_, rfl⟩
              obtain ⟨X2, hX2⟩ : ∃ z, X1.alloc (.cells #[.slice (some ⟨w9.heap.size, 0, none⟩) 1 1] 88) = z := ⟨_, rfl⟩
              have d1' : Below w9.heap.size w9 X1 := by rw [← hX1]; exact balloc (Below.refl _ _) _
              have d2' : Below X1.heap.size X1 X2 := by rw [← hX2]; exact balloc (Below.refl _ _) _
              have t1 : w9.heap.size + 1 = X1.heap.size := by rw [← hX1]; simp
              have HB2 := Lib.hid (bch HB9.out (bch d1' d2'))
              have HO2 := Lib.hid (HI.out.2.1.on (bch HB9.out (bch d1' d2')))
              have HT2 := Lib.hid ((HI.out.2.2.1.on (bch HB9.out (bch d1' d2'))).snoc (s := ⟨some ⟨w9.heap.size, 0, none⟩, 1, 1⟩) (xs := [((false, nv) : Val)]) rfl (Nat.le_refl _) (show 1 ≤ maxLen by decide) (SlT.on (by rw [← hX1]; exact Row.slT' valC_length ((Row.new w9 37 #[.bool false, .int .i64 nv]).of rfl) hq9) d2'))
              have HS2 := Lib.hid (show Sl 1 svC X2 X2.heap.size (some ⟨X1.heap.size, 0, none⟩) [(⟨some ⟨w9.heap.size, 0, none⟩, 1, 1⟩ : SV)] by rw [← hX2]; exact Row.sl' (t := 88) svC_length ((Row.new X1 _ _).of rfl))
              have hsz2 : wq.heap.size ≤ X2.heap.size := by have := d2'.size; have := HI.out.1.size; omega
              have hsv4 : svs.length ≤ 400 := by have := Hss.out.2.1; omega
              have HX1 := Lib.hid hX1
              have HX2 := Lib.hid hX2
              have T1 := Lib.hid t1
              clear hX1 hX2 d1' d2' t1 hq0
              go_wp2_with (at_builtin; rw [HX1.out, HX2.out, T1.out]; refine wpList_app rfl (.tmp 44) (.tmp 47) 70 rfl wq.heap.size 88 _ 1 24 svC Try.underlying70 zeroRowO rfl (by decide) (by decide) svC_length svC_one _ svs rfl HO2.out (some ⟨X1.heap.size, 0, none⟩) 1 1 [(⟨some ⟨w9.heap.size, 0, none⟩, 1, 1⟩ : SV)] rfl rfl HS2.out (by simp only [List.length_singleton]; omega) hsz2 ?_; intro v3 w4 how3 hgr3)
              go_roundg (rows.length - (i + 1))
              case measure => omega
              case rel =>
                have hrow : ∀ q, (Value.slice As svs.length cs).ownBlock = some q → wq.heap.size ≤ q ∧ TyAt X2 q 88 := fun q hq => ⟨(HO2.out.ty q hq).1, (HO2.out.ty q hq).2.2⟩
                refine ⟨i + 1, n, svs ++ [⟨some ⟨w9.heap.size, 0, none⟩, 1, 1⟩], rws ++ [[(false, nv)]], by omega, rfl, by go_num, rfl, by omega, by simp; omega, ?_, ?_, how3, HT2.out.grown hgr3 fun q hq => .inr ⟨88, by decide, (hrow q hq).2⟩⟩
                · intro r hr
                  rcases List.mem_append.1 hr with hr | hr
                  · exact HI.out.2.2.2 r hr
                  · simp at hr; subst hr; rfl
                · exact ((only_below (S := fun _ => False) HI.out.1).below HB2.out |>.grown hgr3 fun q hq => .inr (hrow q hq).1).old fun _ _ h => h
            · have hq0' : ((q : Int) == 0) = false := by simpa using hq0
              clear hq0
              go_wp2
              go_roundg (rows.length - (i + 1))
              case measure => omega
              case rel => exact ⟨i + 1, n, svs, rws, by omega, rfl, by go_num, rfl, by omega, by omega, HI.out.2.2.2, bch HI.out.1 HB9.out, HI.out.2.1.on HB9.out, HI.out.2.2.1.on HB9.out⟩
          · have hnw : IntKind.i64.wrap ((n : Int) + 1) = (n : Int) + 1 := IntWalk.i64_in _ (by omega)
            go_wp2
            go_roundg (rows.length - (i + 1))
            case measure => omega
            case rel => exact ⟨i + 1, n + 1, svs, rws, by omega, rfl, by go_num, by congr 1, by omega, by omega, HI.out.2.2.2, HI.out.1.alloc (Nat.le_trans (Nat.le_refl _) HI.out.1.size) _, HI.out.2.1.on (balloc (Below.refl _ _) _), HI.out.2.2.1.on (balloc (Below.refl _ _) _)⟩
        · have hiI : ¬ (i : Int) < (rows.length : Int) := by omega
          have hqr : wq.heap.size ≤ wr.heap.size := HI.out.1.size
          have R3 := HH.out.2.2.2.2.2.2.2.1.on HI.out.1
          have hR3l := R3.lt
          have o1 : wr.cell? ⟨ob, 1, none⟩ = some (.slice fd.A fd.n fd.c) := R3.cell 1
          have HOd := Lib.hid (HH.out.2.2.2.2.2.2.2.2.1.on HI.out.1)
          have HOn := Lib.hid (HH.out.2.2.2.2.2.2.2.2.2.1.on HI.out.1)
          have Hap := Lib.hid HH.out.2.2.2.2.2.2.2.2.2.2
          have hsv4 : svs.length ≤ 400 := by have := Hss.out.2.1; omega
          have hdl8 : dl.length ≤ 16 := by have := HH.out.1; omega
          have hnl8 : nl.length ≤ 16 := by have := HH.out.2.1; omega
          obtain ⟨U1, hU1⟩ : ∃ z, wr.alloc (.cells #[.int .i64 svs.length] 3) = z := ⟨_, rfl⟩
          have u1 : Below wr.heap.size wr U1 := by rw [← hU1]; exact balloc (Below.refl _ _) _
          have su1 : wr.heap.size + 1 = U1.heap.size := by rw [← hU1]; simp
          have HS1 := Lib.hid (show Sl 1 intC U1 U1.heap.size (some ⟨wr.heap.size, 0, none⟩) [(svs.length : Int)] by rw [← hU1]; exact Row.sl' (t := 3) intC_length ((Row.new wr _ _).of rfl))
          have HRd := Lib.hid (R3.on u1)
          have HOd1 := Lib.hid (HOd.out.on u1)
          have HOn1 := Lib.hid (HOn.out.on u1)
          have HB1' := Lib.hid (And.intro u1 su1)
          have HU1 := Lib.hid hU1
          have hlo1 : ob + 1 ≤ U1.heap.size := by omega
          clear u1 su1 hU1 R3
          go_upto_region 16 with (at_builtin; rw [HU1.out]; refine wpList_app2 rfl (.tmp 50) (.tmp 53) 24 rfl (ob + 1) 3 _ 1 8 intC Try.underlying24 zeroIntO rfl (by decide) (by decide) intC_length intC_one (.slice fd.A fd.n fd.c) dl rfl HOd1.out (some ⟨wr.heap.size, 0, none⟩) 1 1 [(svs.length : Int)] rfl rfl HS1.out (by simp only [List.length_singleton]; omega) hlo1 ?_; intro v1 w1 hown1 hgr1 hob1; have hR1 : Row w1 ob 33 [.int .i64 rows.length, .slice fd.A fd.n fd.c, .slice fn.A fn.n fn.c] := HRd.out.keep (hgr1.block ob HRd.out.lt fun e => absurd (HOd1.out.ty ob e.symm).1 (by omega)); have hlt1 := hR1.lt; have q1 : w1.cell? ⟨ob, 1, none⟩ = some (.slice fd.A fd.n fd.c) := hR1.cell 1; have q2 : w1.cell? ⟨ob, 2, none⟩ = some (.slice fn.A fn.n fn.c) := hR1.cell 2; have fz1 : w1.frozen? ⟨ob, 1, none⟩ = false := hR1.frozen 1; have fz2 : w1.frozen? ⟨ob, 2, none⟩ = false := hR1.frozen 2; obtain ⟨A1, c1, rfl, hc11, hc12, _⟩ := hown1.shape intC_length; have HG1 := Lib.hid (And.intro hR1 (And.intro hown1 (And.intro hgr1 hob1))); clear hR1 hown1 hgr1 hob1)
          obtain ⟨Z1, hZ1⟩ : ∃ z, w1.setCell ⟨ob, 1, none⟩ (.slice A1 (dl.length + 1) c1) = z := ⟨_, rfl⟩
          obtain ⟨U2, hU2⟩ : ∃ z, Z1.alloc (.cells #[.int .i64 n] 3) = z := ⟨_, rfl⟩
          have u2 : Below Z1.heap.size Z1 U2 := by rw [← hU2]; exact balloc (Below.refl _ _) _
          have su2 : Z1.heap.size + 1 = U2.heap.size := by rw [← hU2]; simp
          have hln1 : (dl ++ [(svs.length : Int)]).length = dl.length + 1 := by simp
          obtain ⟨hR1, hown1, hgr1, hob1⟩ := HG1.out
          rw [hln1] at hown1 hob1
          have hfn1 : ∀ b, (Value.slice fn.A fn.n fn.c).ownBlock = some b → ob + 1 ≤ b ∧ b < U1.heap.size := fun b hb => ⟨(HOn1.out.ty b hb).1, (HOn1.out.ty b hb).2.1⟩
          have hxn : ∀ b, (Value.slice A1 (dl.length + 1) c1).ownBlock = some b → (Value.slice fn.A fn.n fn.c).ownBlock ≠ some b := by
            intro b hb e
            rcases hob1 with h1 | h1
            · exact Hap.out b (h1 ▸ hb) e
            · have := (hfn1 b e).2
              rw [h1] at hb
              cases hb
              omega
          have kd : Only (fun b => ob ≤ b) U1 Z1 := by
            rw [← hZ1]
            exact ((Only.refl (S := fun b => ob ≤ b) U1).grown hgr1 fun q e => .inl (Nat.le_of_succ_le (HOd1.out.ty q e).1)).set (p := ⟨ob, 1, none⟩) (.inl (Nat.le_refl ob)) _
          have kf : Only (fun b => (Value.slice fd.A fd.n fd.c).ownBlock = some b ∨ b = ob) U1 Z1 := by
            rw [← hZ1]
            exact ((Only.refl (S := fun b => (Value.slice fd.A fd.n fd.c).ownBlock = some b ∨ b = ob) U1).grown hgr1 fun q e => .inl (.inl e)).set (p := ⟨ob, 1, none⟩) (.inl (.inr rfl)) _
          have HOn2 := Lib.hid ((HOn1.out.apart2 kf (fun b hb hS => by
            rcases hS with e | e
            · exact Hap.out b e hb
            · have := (hfn1 b hb).1; omega)).on u2)
          have HOd2 := Lib.hid ((show Ow (ob + 1) 3 1 intC Z1 (.slice A1 (dl.length + 1) c1) (dl ++ [(svs.length : Int)]) by
            rw [← hZ1]
            exact hown1.keepOwn fun b hb => Below.heap_setCell _ _ _ _ (by have := (hown1.ty b hb).1; show b ≠ ob; omega)).on u2)
          have HRz := Lib.hid ((show Row Z1 ob 33 [.int .i64 rows.length, .slice A1 (dl.length + 1) c1, .slice fn.A fn.n fn.c] by
            rw [← hZ1]; exact (hR1.set 1 _).of rfl).on u2)
          have z2 : Z1.cell? ⟨ob, 2, none⟩ = some (.slice fn.A fn.n fn.c) := by
            rw [← hZ1]; exact (hR1.set 1 (.slice A1 (dl.length + 1) c1)).cell 2
          have hk1 := Lib.hid (And.intro hxn (And.intro kd (And.intro u2 (And.intro su2 hU2))))
          have HZ1 := Lib.hid hZ1
          have HS2 := Lib.hid (show Sl 1 intC U2 U2.heap.size (some ⟨Z1.heap.size, 0, none⟩) [(n : Int)] by rw [← hU2]; exact Row.sl' (t := 3) intC_length ((Row.new Z1 _ _).of rfl))
          have hlo2 : ob + 1 ≤ U2.heap.size := by have := kd.size; omega
          have HU2 := Lib.hid hU2
          rw [hZ1]
          clear hZ1 hU2 u2 su2 hxn kd kf hR1 hown1 hgr1 hob1 hfn1 q1 q2 fz1 fz2 hln1
          go_wp2_with (at_builtin; rw [HU2.out]; refine wpList_app2 rfl (.tmp 57) (.tmp 59) 24 rfl (ob + 1) 3 _ 1 8 intC Try.underlying24 zeroIntO rfl (by decide) (by decide) intC_length intC_one (.slice fn.A fn.n fn.c) nl rfl HOn2.out (some ⟨Z1.heap.size, 0, none⟩) 1 1 [(n : Int)] rfl rfl HS2.out (by simp only [List.length_singleton]; omega) hlo2 ?_; intro v2 w2 hown2 hgr2 hob2; have hR2 : Row w2 ob 33 [.int .i64 rows.length, .slice A1 (dl.length + 1) c1, .slice fn.A fn.n fn.c] := HRz.out.keep (hgr2.block ob HRz.out.lt fun e => absurd (HOn2.out.ty ob e.symm).1 (by omega)); have hlt2 := hR2.lt; have q2 : w2.cell? ⟨ob, 2, none⟩ = some (.slice fn.A fn.n fn.c) := hR2.cell 2; have fz2 : w2.frozen? ⟨ob, 2, none⟩ = false := hR2.frozen 2; obtain ⟨A2, c2, rfl, hc21, hc22, _⟩ := hown2.shape intC_length; have HG2 := Lib.hid (And.intro hR2 (And.intro hown2 (And.intro hgr2 hob2))); clear hR2 hown2 hgr2 hob2)
          go_roundg (W - (k + 1))
          case measure => omega
          case rel =>
            have hln1 : (dl ++ [(svs.length : Int)]).length = dl.length + 1 := by simp
            have hln2 : (nl ++ [(n : Int)]).length = nl.length + 1 := by simp
            obtain ⟨hR2, hown2, hgr2, hob2⟩ := HG2.out
            rw [hln2] at hown2 hob2
            obtain ⟨hxn, kd, u2, su2, hU2⟩ := hk1.out
            have hfd2 : ∀ b, (Value.slice A1 (dl.length + 1) c1).ownBlock = some b → ob + 1 ≤ b ∧ b < U2.heap.size := fun b hb => ⟨(HOd2.out.ty b hb).1, (HOd2.out.ty b hb).2.1⟩
            have kz : Only (fun b => ob ≤ b) U1 (w2.setCell ⟨ob, 2, none⟩ (.slice A2 (nl.length + 1) c2)) :=
              ((kd.below u2).grown hgr2 fun q e => .inl (Nat.le_of_succ_le (HOn2.out.ty q e).1)).set (p := ⟨ob, 2, none⟩) (.inl (Nat.le_refl ob)) _
            have kw : Only (fun _ => False) w U1 := only_below (bch hbr HB1'.out.1)
            have hUs : w.heap.size ≤ U1.heap.size := kw.size
            have kwz : Only (fun _ => False) w (w2.setCell ⟨ob, 2, none⟩ (.slice A2 (nl.length + 1) c2)) := kw.step kz fun i hi => .inr (by omega)
            have kg : Only (fun b => (Value.slice fn.A fn.n fn.c).ownBlock = some b ∨ b = ob) U2 (w2.setCell ⟨ob, 2, none⟩ (.slice A2 (nl.length + 1) c2)) :=
              ((Only.refl (S := fun b => (Value.slice fn.A fn.n fn.c).ownBlock = some b ∨ b = ob) U2).grown hgr2 fun q e => .inl (.inl e)).set (p := ⟨ob, 2, none⟩) (.inl (.inr rfl)) _
            refine ⟨k + 1, dl ++ [(svs.length : Int)], nl ++ [(n : Int)], ⟨A1, dl.length + 1, c1⟩, ⟨A2, nl.length + 1, c2⟩, by omega, rfl, by go_num, by rw [hln1, HH.out.1], by rw [hln2, HH.out.2.1], ?_, ?_, kwz.old fun _ _ h => h, ((HH.out.2.2.2.2.2.1.on HI.out.1).on HB1'.out.1).only kz (by omega), ((HH.out.2.2.2.2.2.2.1.on HI.out.1).on HB1'.out.1).only kz (by omega), (hR2.set 2 _).of rfl, ?_, ?_, ?_⟩
            · intro x hx
              rcases List.mem_append.1 hx with hx | hx
              · exact HH.out.2.2.1 x hx
              · simp at hx; subst hx; omega
            · intro x hx
              rcases List.mem_append.1 hx with hx | hx
              · exact HH.out.2.2.2.1 x hx
              · simp at hx; subst hx; omega
            · exact HOd2.out.apart2 kg fun b hb hS => by
                rcases hS with e | e
                · exact hxn b hb e
                · have := (hfd2 b hb).1; omega
            · exact hown2.keepOwn fun b hb => Below.heap_setCell _ _ _ _ (by have := (hown2.ty b hb).1; show b ≠ ob; omega)
            · intro b hb e
              rcases hob2 with h1 | h1
              · exact hxn b hb (h1 ▸ e)
              · have := (hfd2 b hb).2
                have e' : (Value.slice A2 (nl.length + 1) c2).ownBlock = some b := e
                rw [h1] at e'
                cases e'
                omega
    · have hkI : ¬ (k : Int) < (W : Int) := by omega
      obtain ⟨R2q, R3q⟩ := And.intro HH.out.2.2.2.2.2.2.1 HH.out.2.2.2.2.2.2.2.1
      have hrl := R2q.lt
      have x0 : wq.cell? ⟨ob, 0, none⟩ = some (.int .i64 rows.length) := R3q.cell 0
      have x1 : wq.cell? ⟨ob, 1, none⟩ = some (.slice fd.A fd.n fd.c) := R3q.cell 1
      have x2 : wq.cell? ⟨ob, 2, none⟩ = some (.slice fn.A fn.n fn.c) := R3q.cell 2
      have y0 : wq.cell? ⟨rb, 0, none⟩ = some (.int .i64 0) := R2q.cell 0
      have y1 : wq.cell? ⟨rb, 1, none⟩ = some (.slice none 0 0) := R2q.cell 1
      have y2 : wq.cell? ⟨rb, 2, none⟩ = some (.slice none 0 0) := R2q.cell 2
      have g0 : wq.frozen? ⟨rb, 0, none⟩ = false := R2q.frozen 0
      have g1 : wq.frozen? ⟨rb, 1, none⟩ = false := R2q.frozen 1
      have g2 : wq.frozen? ⟨rb, 2, none⟩ = false := R2q.frozen 2
      clear R2q R3q
      go_wp2
      have hbq := HH.out.2.2.2.2.1
      have kq : Only (fun b => b = rb) wq (((wq.setCell ⟨rb, 0, none⟩ (.int .i64 rows.length)).setCell ⟨rb, 1, none⟩ (.slice fd.A fd.n fd.c)).setCell ⟨rb, 2, none⟩ (.slice fn.A fn.n fn.c)) :=
        (((Only.refl (S := fun b => b = rb) wq).set (p := ⟨rb, 0, none⟩) (.inl rfl) _).set (p := ⟨rb, 1, none⟩) (.inl rfl) _).set (p := ⟨rb, 2, none⟩) (.inl rfl) _
      have hR : Row (((wq.setCell ⟨rb, 0, none⟩ (.int .i64 rows.length)).setCell ⟨rb, 1, none⟩ (.slice fd.A fd.n fd.c)).setCell ⟨rb, 2, none⟩ (.slice fn.A fn.n fn.c)) rb 33 [.int .i64 rows.length, .slice fd.A fd.n fd.c, .slice fn.A fn.n fn.c] :=
        (((HH.out.2.2.2.2.2.2.1.set 0 _).set 1 _).set 2 _).of rfl
      obtain ⟨Z, hZ⟩ : ∃ z, ((wq.setCell ⟨rb, 0, none⟩ (.int .i64 rows.length)).setCell ⟨rb, 1, none⟩ (.slice fd.A fd.n fd.c)).setCell ⟨rb, 2, none⟩ (.slice fn.A fn.n fn.c) = z := ⟨_, rfl⟩
      rw [hZ] at kq hR ⊢
      have v0 : Z.cell? ⟨rb, 0, none⟩ = some (.int .i64 rows.length) := hR.cell 0
      have v1 : Z.cell? ⟨rb, 1, none⟩ = some (.slice fd.A fd.n fd.c) := hR.cell 1
      have v2 : Z.cell? ⟨rb, 2, none⟩ = some (.slice fn.A fn.n fn.c) := hR.cell 2
      have hlz := hR.lt
      have hGot : GotSt w.heap.size rows.length W w (.returned (fsV ⟨rows.length, fd, fn⟩)) Z := by
        have hkW' : k = W := by omega
        refine ⟨_, ⟨rows.length, dl, nl⟩, rfl, ⟨rfl, ?_, ?_, HH.out.2.2.2.2.2.2.2.2.2.2⟩, rfl, by rw [← hkW']; exact HH.out.1, by rw [← hkW']; exact HH.out.2.1, HH.out.2.2.1, HH.out.2.2.2.1, ((only_below (S := fun _ => False) hbq).step kq fun i hi => .inr (by omega)).old fun _ _ h => h⟩
        · exact (HH.out.2.2.2.2.2.2.2.2.1.apart2 kq fun b hb e => by have := (HH.out.2.2.2.2.2.2.2.2.1.ty b hb).1; omega).low (by omega)
        · exact (HH.out.2.2.2.2.2.2.2.2.2.1.apart2 kq fun b hb e => by have := (HH.out.2.2.2.2.2.2.2.2.2.1.ty b hb).1; omega).low (by omega)
      clear hZ hbq kq hR y0 y1 y2 g0 g1 g2 x0 x1 x2
      exact bodyPost_ret (v := fsV ⟨rows.length, fd, fn⟩) (by simp [results, Try.results41, go_sem, v0, v1, v2, hlz, fsV]) rfl hGot
end Go.Proofs.Ytnecmacjlggkeaa

/-
  Contract: anyStats of the reference.
-/
namespace Go.Proofs.Ytnecmacjlggkeaa
open Go.RowKit Go.Qo
set_option linter.unusedVariables false
set_option linter.unusedSimpArgs false

def slV (s : SV) : Value := .slice s.A s.n s.c
/-- Between the parts of anyStats. -/
def CutA (rb ob b p : Nat) (w : World) (f : FS) (dl nl : List Int) (wx : World) : Prop :=
  Row wx rb 33 [.int .i64 0, .slice none 0 0, .slice none 0 0] ∧ Row wx ob 33 [.int .i64 f.rows, .slice f.dv.A f.dv.n f.dv.c, .slice f.nv.A f.nv.n f.nv.c] ∧ But b w wx ∧ Ow (rb + 1) 3 1 intC wx (.slice f.dv.A f.dv.n f.dv.c) dl ∧ Ow (rb + 1) 3 1 intC wx (.slice f.nv.A f.nv.n f.nv.c) nl ∧ Rd wx b p
theorem CutA.but {rb ob b p q : Nat} {w wx wz : World} {f : FS} {dl nl : List Int} (h : CutA rb ob b p w f dl nl wx) (k : But b wx wz) (hb : b < rb) (ho : b < ob) (hr : Rd wz b q) : CutA rb ob b q w f dl nl wz :=
  ⟨h.1.only k (show ¬ rb = b by omega), h.2.1.only k (show ¬ ob = b by omega), h.2.2.1.trans k, h.2.2.2.1.only k (fun i (hi : i = b) => .inl (by omega)), h.2.2.2.2.1.only k (fun i (hi : i = b) => .inl (by omega)), hr⟩
theorem CutA.on {rb ob b p : Nat} {w wx wz : World} {f : FS} {dl nl : List Int} (h : CutA rb ob b p w f dl nl wx) (k : Below wx.heap.size wx wz) : CutA rb ob b p w f dl nl wz :=
  ⟨h.1.on k, h.2.1.on k, h.2.2.1.below k, h.2.2.2.1.on k, h.2.2.2.2.1.on k, h.2.2.2.2.2.on k⟩
theorem CutA.set0 {rb ob b p : Nat} {w wx : World} {f : FS} {dl nl : List Int} (h : CutA rb ob b p w f dl nl wx) (hb : b < rb) (hro : rb < ob) (hw : w.heap.size ≤ rb) (r : Int) : CutA rb ob b p w ⟨r, f.dv, f.nv⟩ dl nl (wx.setCell ⟨ob, 0, none⟩ (.int .i64 r)) := by
  have k : Only (fun i => i = ob) wx (wx.setCell ⟨ob, 0, none⟩ (.int .i64 r)) := (Only.refl (S := fun i => i = ob) wx).set (p := ⟨ob, 0, none⟩) (.inl rfl) _
  have hty := h.2.1.ty
  refine ⟨h.1.only k (show ¬ rb = ob by omega), (h.2.1.set 0 _).of rfl, h.2.2.1.set (p := ⟨ob, 0, none⟩) (.inr (show w.heap.size ≤ ob by omega)) _, h.2.2.2.1.only k fun i hi => .inr ⟨33, by decide, by cases hi; exact hty⟩, h.2.2.2.2.1.only k fun i hi => .inr ⟨33, by decide, by cases hi; exact hty⟩, h.2.2.2.2.2.set (a := ⟨ob, 0, none⟩) (show b < ob by omega) _⟩
theorem flat_setI : ∀ (xs : List Int) (j : Nat) (y : Int), j < xs.length → (xs.flatMap intC).set j (.int .i64 y) = (xs.set j y).flatMap intC
  | [], j, y, h => absurd h (by simp)
  | x :: xs, 0, y, h => by simp [intC]
  | x :: xs, j + 1, y, h => by
    have ih := flat_setI xs j y (by simpa using h)
    simpa [intC] using ih
def GotAny (b p : Nat) (w : World) (e : Ending) (w' : World) : Prop := ∃ (f : FS) (s : St), e = .returned (fsV f) ∧ StOw w.heap.size w' f s ∧ StSm s ∧ But b w w' ∧ Rd w' b p
theorem built_len {rs out : List Row1} (h : Built rs out) : out.length = rs.length := h.perm.length_eq
set_option maxRecDepth 20000 in
set_option maxHeartbeats 8000000 in
theorem anyStats_ok (W b p : Nat) (w : World) (hR : Rd w b p) (hp : p + 32010 ≤ 1099511627776) (hW : W ≤ 16) (hW0 : 0 < W) :
    Calls Try.prog 43 #[.pointer (some ⟨b, 0, none⟩), .int .i64 W] w (GotAny b (p + 16010) w) := by
  have hlt := hR.lt
  obtain ⟨rb, hrb⟩ : ∃ n, w.heap.size = n := ⟨_, rfl⟩
  obtain ⟨W1, hW1⟩ : ∃ z, w.alloc (.cells #[.int .i64 0, .slice none 0 0, .slice none 0 0] 33) = z := ⟨_, rfl⟩
  have b1 : Below w.heap.size w W1 := by rw [← hW1]; exact balloc (Below.refl _ _) _
  have s1 : rb + 1 = W1.heap.size := by rw [← hW1, ← hrb]; simp
  have r1 : Row W1 rb 33 [.int .i64 0, .slice none 0 0, .slice none 0 0] := by rw [← hrb, ← hW1]; exact Row.new _ _ _
  have HT := Lib.hid (randomTable_ok b p W 8 W1 (hR.on b1) (by omega) (by omega) (by omega) (by omega))
  have HR1 := Lib.hid r1
  have HB1 := Lib.hid (show But b w W1 from only_below b1)
  have HW1 := Lib.hid hW1
  have S1 := Lib.hid s1
  clear hR b1 s1 r1 hW1
  go_enter Try.func43, Try.ntmps43
  go_upto_region 1 with fail
  rw [HW1.out]
  go_wp2_with fail
  refine HT.out.mono ?_
  rintro e w2 ⟨v, svs, rows, out, rfl, hrl, hrv, hbt, how, hti, hb2, hR2⟩
  obtain ⟨As, cs, rfl, hcs1, hcs2, hss⟩ := how.shape svC_length
  have hol : svs.length = out.length := hti.1
  have hol8 : out.length ≤ 8 := by rw [built_len hbt]; exact hrl
  have hsO := statsOf_ok W As cs out w2 hW (by omega) (fun r hr => by have := (hrv r (hbt.perm.mem_iff.1 hr)).1; rw [this]; simp) (sls_of' hss.sl hti)
  have HSO := Lib.hid hsO
  have HR2 := Lib.hid hR2
  have HB2 := Lib.hid (HB1.out.trans hb2)
  have HQ2 := Lib.hid (HR1.out.only hb2 (show ¬ rb = b by omega))
  have S2 := Lib.hid (show rb + 1 ≤ w2.heap.size from S1.out ▸ hb2.size)
  clear hrv hbt how hti hb2 hR2 hsO hss hcs1 hcs2 hrl
  go_wp2_with fail
  refine HSO.out.mono ?_
  rintro e w3 ⟨f, s, rfl, ⟨hfr, hfd, hfn, hap⟩, hsr, hsd, hsn, hd4, hn4, hb3⟩
  obtain ⟨ob, hob⟩ : ∃ n, w3.heap.size = n := ⟨_, rfl⟩
  obtain ⟨Z, hZ⟩ : ∃ z, w3.alloc (.cells #[.int .i64 f.rows, .slice f.dv.A f.dv.n f.dv.c, .slice f.nv.A f.nv.n f.nv.c] 33) = z := ⟨_, rfl⟩
  have hsz3 := hb3.size
  have hro : rb < ob := by have := S2.out; omega
  have hbZ : Below w3.heap.size w3 Z := by
    rw [← hZ]
    exact balloc (Below.refl _ _) _
  have hRZ : Row Z ob 33 [.int .i64 f.rows, .slice f.dv.A f.dv.n f.dv.c, .slice f.nv.A f.nv.n f.nv.c] := by
    rw [← hZ, ← hob]
    exact Row.new _ _ _
  have HC := Lib.hid (show CutA rb ob b (p + 16001) w f s.dist s.nulls Z from ⟨(HQ2.out.on hb3).on hbZ, hRZ, (HB2.out.below hb3).below hbZ, (hfd.low S2.out).on hbZ, (hfn.low S2.out).on hbZ, (HR2.out.on hb3).on hbZ⟩)
  have Hap := Lib.hid hap
  have HZ := Lib.hid hZ
  have Hs := Lib.hid (And.intro hd4 hn4)
  have Hsr := Lib.hid (show 0 ≤ f.rows ∧ f.rows ≤ 8 by rw [hfr, hsr]; omega)
  clear hfr hfd hfn hap hsr hd4 hn4 hb3 hbZ hRZ hZ
  unfold fsV
  go_upto_region 2 with fail
  rw [HZ.out]
  have hb1 : b < rb := by omega
  have Hrb := Lib.hid hrb
  clear hrb
  go_wp2_with fail
  refine (pick_ok b (p + 16001) 2 Z HC.out.2.2.2.2.2 (by omega)).mono ?_
  rintro e w4 ⟨k, rfl, hk, hb4, hsz4, hR4⟩
  have hC4 := HC.out.but hb4 hb1 (by omega) hR4
  have q0 : w4.cell? ⟨ob, 0, none⟩ = some (.int .i64 f.rows) := hC4.2.1.cell 0
  have q1 : w4.frozen? ⟨ob, 0, none⟩ = false := hC4.2.1.frozen 0
  have ql := hC4.2.1.lt
  have HC4 := Lib.hid hC4
  clear hk hb4 hsz4 hR4 hC4
  have hwr : IntKind.i64.wrap (f.rows + 100) = f.rows + 100 := IntWalk.i64_in _ (by have := Hsr.out; omega)
  have HU := Lib.hid (And.intro hb1 (And.intro hro Hsr.out))
  have HM := Lib.hid (show ∃ r : Int, (0 ≤ r ∧ r ≤ 400) ∧ f.rows = r from ⟨_, by have := Hsr.out; omega, rfl⟩)
  have hbo : b < ob := by omega
  by_cases hk0 : k = 0
  case' pos =>
    subst hk0
    go_upto_region 4 with fail
    obtain ⟨X, hX⟩ : ∃ z, w4.setCell ⟨ob, 0, none⟩ (.int .i64 (f.rows + 100)) = z := ⟨_, rfl⟩
    have HCa := Lib.hid (show ∃ r, (0 ≤ r ∧ r ≤ 400) ∧ CutA rb ob b (p + 16002) w ⟨r, f.dv, f.nv⟩ s.dist s.nulls X from ⟨f.rows + 100, by have := Hsr.out; omega, hX ▸ HC4.out.set0 HU.out.1 HU.out.2.1 (Nat.le_of_eq Hrb.out) _⟩)
    rw [hX]
    clear hX q0 q1 ql hwr
  case' neg =>
    have hkb : (k == 0) = false := by simpa using hk0
    go_upto_region 4 with fail
    obtain ⟨X, hX⟩ : ∃ z, w4 = z := ⟨_, rfl⟩
    have HCa := Lib.hid (show ∃ r, (0 ≤ r ∧ r ≤ 400) ∧ CutA rb ob b (p + 16002) w ⟨r, f.dv, f.nv⟩ s.dist s.nulls X from ⟨f.rows, by have := Hsr.out; omega, hX ▸ HC4.out⟩)
    rw [hX]
    clear hX q0 q1 ql hwr hk0
  all_goals
    clear HC4 HC
    obtain ⟨r, hr, hC⟩ := HCa.out
    have Hr := Lib.hid hr
    have HCb := Lib.hid hC
    clear hr hC HCa
    go_wp2_with fail
    refine (pick_ok b (p + 16002) 16 X HCb.out.2.2.2.2.2 (by omega)).mono ?_
    rintro e w5 ⟨k5, rfl, hk5, hb5, hsz5, hR5⟩
    have hC5 := HCb.out.but hb5 hb1 hbo hR5
    have HC5 := Lib.hid hC5
    have q0 : w5.cell? ⟨ob, 0, none⟩ = some (.int .i64 r) := hC5.2.1.cell 0
    have q1 : w5.cell? ⟨ob, 1, none⟩ = some (.slice f.dv.A f.dv.n f.dv.c) := hC5.2.1.cell 1
    have q2 : w5.cell? ⟨ob, 2, none⟩ = some (.slice f.nv.A f.nv.n f.nv.c) := hC5.2.1.cell 2
    have q3 : w5.frozen? ⟨ob, 0, none⟩ = false := hC5.2.1.frozen 0
    have q4 : w5.frozen? ⟨ob, 1, none⟩ = false := hC5.2.1.frozen 1
    have ql := hC5.2.1.lt
    have hwr : IntKind.i64.wrap (r + 1) = r + 1 := IntWalk.i64_in _ (by have := Hr.out; omega)
    clear hk5 hb5 hsz5 hR5 hC5
    go_upto_block 0 with fail
    go_cut [] (fun wx => ∃ (g : FS) (dl nl : List Int), (-1 ≤ g.rows ∧ g.rows ≤ 401) ∧ (∀ x ∈ dl, 0 ≤ x ∧ x ≤ 401) ∧ (∀ x ∈ nl, 0 ≤ x ∧ x ≤ 401) ∧ (∀ b, (Value.slice g.dv.A g.dv.n g.dv.c).ownBlock = some b → (Value.slice g.nv.A g.nv.n g.nv.c).ownBlock ≠ some b) ∧ CutA rb ob b (p + 16010) w g dl nl wx)
    case first =>
      by_cases hk0 : k5 = 0
      · subst hk0
        clear q1 q2 q3 q4 q0 hwr
        obtain ⟨Y, hY⟩ : ∃ z, w5.alloc (.cells #[.int .i64 (-1), .int .i64 401] 3) = z := ⟨_, rfl⟩
        have bY : Below w5.heap.size w5 Y := by rw [← hY]; exact balloc (Below.refl _ _) _
        have hSY : Sl 1 intC Y Y.heap.size (some ⟨w5.heap.size, 0, none⟩) [(-1 : Int), 401] := by rw [← hY]; exact Row.sl' (t := 3) intC_length ((Row.new w5 _ _).of rfl)
        have hCY := HC5.out.on bY
        have HO := Lib.hid (one_ok b (p + 16003) (some ⟨w5.heap.size, 0, none⟩) 2 [(-1 : Int), 401] Y hCY.2.2.2.2.2 (by omega) (by decide) (by decide) hSY (fun a ha => by cases ha; show w5.heap.size ≠ b; omega))
        have HCY := Lib.hid hCY
        have HY := Lib.hid hY
        clear hY bY hSY hCY
        go_wp2_with fail
        rw [HY.out]
        refine HO.out.mono ?_
        rintro e w6 ⟨r6, rfl, hr6, hb6, hsz6, hR6⟩
        have hC6 := HCY.out.but hb6 hb1 hbo hR6
        have hr6' : r6 = -1 ∨ r6 = 401 := by simpa using hr6
        have q0 : w6.cell? ⟨ob, 0, none⟩ = some (.int .i64 r) := hC6.2.1.cell 0
        have q3 : w6.frozen? ⟨ob, 0, none⟩ = false := hC6.2.1.frozen 0
        have ql6 := hC6.2.1.lt
        have HC6 := Lib.hid hC6
        have Hr6 := Lib.hid hr6'
        clear hC6 hr6' hr6 hb6 hsz6 hR6
        go_wp2
        go_meet
        have h6 := HC6.out.set0 hb1 hro (Nat.le_of_eq Hrb.out) r6
        exact ⟨⟨r6, f.dv, f.nv⟩, s.dist, s.nulls, by have := Hr6.out; show -1 ≤ r6 ∧ r6 ≤ 401; omega, fun x hx => by have := Hs.out.1 x hx; omega, fun x hx => by have := Hs.out.2 x hx; omega, Hap.out, h6.1, h6.2.1, h6.2.2.1, h6.2.2.2.1, h6.2.2.2.2.1, h6.2.2.2.2.2.mono (by omega)⟩
      have hk0b : (k5 == 0) = false := by simpa using hk0
      by_cases hk1 : k5 = 1
      · subst hk1
        obtain ⟨gb, hA, hn, hlo, hgs, hty, hfz, hce⟩ := Ow.head intC_length HC5.out.2.2.2.2.1 (show 0 < s.nulls.length by omega)
        have hne1 : gb ≠ ob := TyAt.ne hty HC5.out.2.1.ty (by decide)
        rw [hA, hn] at q2
        have hnl0 : (0 : Int) < (s.nulls.length : Int) := by omega
        obtain ⟨n0, hn0⟩ : ∃ x, s.nulls[0]? = some x := ⟨_, List.getElem?_eq_getElem (by omega)⟩
        have q5 : w5.cell? ⟨gb, 0, none⟩ = some (.int .i64 n0) := hce 0 _ (flat_get 1 intC intC_length s.nulls 0 n0 0 _ hn0 rfl)
        have q6 := hfz 0
        have HA := Lib.hid (And.intro hA (And.intro hn (And.intro hlo (And.intro hty hne1))))
        clear hA hn hlo hty hfz hce hn0 hne1
        go_wp2
        go_meet
        obtain ⟨hA, hn, hlo, hty, hne1⟩ := HA.out
        have kq : Only (fun i => i = gb) w5 (w5.setCell ⟨gb, 0, none⟩ (.int .i64 (r + 1))) := (Only.refl (S := fun i => i = gb) w5).set (p := ⟨gb, 0, none⟩) (.inl rfl) _
        have hput : Ow (rb + 1) 3 1 intC (w5.setCell ⟨gb, 0, none⟩ (.int .i64 (r + 1))) (.slice f.nv.A f.nv.n f.nv.c) (s.nulls.set 0 (r + 1)) := by
          have h1 := HC5.out.2.2.2.2.1
          rw [hA] at h1 ⊢
          have h2 := Ow.put h1 0 (.int .i64 (r + 1))
          rw [flat_setI _ _ _ (by omega)] at h2
          unfold Ow
          rw [List.length_set]
          exact h2
        refine ⟨⟨r, f.dv, f.nv⟩, s.dist, s.nulls.set 0 (r + 1), by have := Hr.out; show -1 ≤ r ∧ r ≤ 401; omega, fun x hx => by have := Hs.out.1 x hx; omega, ?_, Hap.out, HC5.out.1.only kq (show ¬ rb = gb by omega), HC5.out.2.1.only kq (show ¬ ob = gb by omega), HC5.out.2.2.1.step kq fun i hi => .inr (by have := Hrb.out; omega), HC5.out.2.2.2.1.apart2 kq fun q hq e => ?_, hput, (HC5.out.2.2.2.2.2.set (a := ⟨gb, 0, none⟩) (show b < gb by omega) _).mono (by omega)⟩
        · intro x hx
          rcases List.mem_or_eq_of_mem_set hx with hx | hx
          · have := Hs.out.2 x hx; omega
          · have := Hr.out; omega
        · have e' : q = gb := e
          exact Hap.out q hq (by rw [hA, e']; rfl)
      have hk1b : (k5 == 1) = false := by simpa using hk1
      by_cases hk2 : k5 = 2
      · subst hk2
        clear q0 q2 q3 hwr
        obtain ⟨U1, hU1⟩ : ∃ z, w5.alloc (.cells #[.int .i64 0] 3) = z := ⟨_, rfl⟩
        have u1 : Below w5.heap.size w5 U1 := by rw [← hU1]; exact balloc (Below.refl _ _) _
        have HS1 := Lib.hid (show Sl 1 intC U1 U1.heap.size (some ⟨w5.heap.size, 0, none⟩) [(0 : Int)] by rw [← hU1]; exact Row.sl' (t := 3) intC_length ((Row.new w5 _ _).of rfl))
        have HCU := Lib.hid (HC5.out.on u1)
        have hlo1 : rb + 1 ≤ U1.heap.size := by have := u1.size; omega
        have HU1 := Lib.hid hU1
        clear hU1 u1
        go_wp2_with (at_builtin; rw [HU1.out]; refine wpList_app2 rfl (.tmp 36) (.tmp 37) 24 rfl (rb + 1) 3 _ 1 8 intC Try.underlying24 zeroIntO rfl (by decide) (by decide) intC_length intC_one (.slice f.dv.A f.dv.n f.dv.c) s.dist rfl HCU.out.2.2.2.1 (some ⟨w5.heap.size, 0, none⟩) 1 1 [(0 : Int)] rfl rfl HS1.out (by simp only [List.length_singleton]; omega) hlo1 ?_; intro v1 w1 hown1 hgr1 hob1; have hR1 := HCU.out.2.1.keep (hgr1.block ob HCU.out.2.1.lt fun e => absurd rfl (TyAt.ne (HCU.out.2.2.2.1.ty ob e.symm).2.2 HCU.out.2.1.ty (by decide))); have hlt1 := hR1.lt; have q1 : w1.cell? ⟨ob, 1, none⟩ = some (.slice f.dv.A f.dv.n f.dv.c) := hR1.cell 1; have fz1 : w1.frozen? ⟨ob, 1, none⟩ = false := hR1.frozen 1; obtain ⟨A1, c1, rfl, hc11, hc12, _⟩ := hown1.shape intC_length; have HG1 := Lib.hid (And.intro hR1 (And.intro hown1 (And.intro hgr1 hob1))); clear hR1 hown1 hgr1 hob1)
        go_meet
        obtain ⟨hR1, hown1, hgr1, hob1⟩ := HG1.out
        have hln1 : (s.dist ++ [(0 : Int)]).length = W + 1 := by simp [hsd]
        rw [hln1] at hown1 hob1
        have hdty := HCU.out.2.2.2.1.ty
        have kf : Only (fun q => (Value.slice f.dv.A f.dv.n f.dv.c).ownBlock = some q ∨ q = ob) U1 (w1.setCell ⟨ob, 1, none⟩ (.slice A1 (W + 1) c1)) :=
          ((Only.refl (S := fun q => (Value.slice f.dv.A f.dv.n f.dv.c).ownBlock = some q ∨ q = ob) U1).grown hgr1 fun q e => .inl (.inl e)).set (p := ⟨ob, 1, none⟩) (.inl (.inr rfl)) _
        have k1 : Only (fun q => (Value.slice f.dv.A f.dv.n f.dv.c).ownBlock = some q) U1 w1 := (Only.refl (S := fun q => (Value.slice f.dv.A f.dv.n f.dv.c).ownBlock = some q) U1).grown hgr1 fun q e => .inl e
        refine ⟨⟨r, ⟨A1, W + 1, c1⟩, f.nv⟩, s.dist ++ [0], s.nulls, by have := Hr.out; show -1 ≤ r ∧ r ≤ 401; omega, ?_, fun x hx => by have := Hs.out.2 x hx; omega, ?_, HCU.out.1.only kf ?_, (hR1.set 1 _).of rfl, HCU.out.2.2.1.step kf ?_, hown1.keepOwn fun q hq => Below.heap_setCell _ _ _ _ ?_, HCU.out.2.2.2.2.1.apart2 kf fun q hq e => ?_, ((HCU.out.2.2.2.2.2.grown hgr1 fun q e => by have := (hdty q e).1; omega).set (a := ⟨ob, 1, none⟩) hbo _).mono (by omega)⟩
        · intro x hx
          rcases List.mem_append.1 hx with hx | hx
          · have := Hs.out.1 x hx; omega
          · simp at hx; subst hx; omega
        · intro q hq e
          have hq' : (Value.slice A1 (W + 1) c1).ownBlock = some q := hq
          rcases hob1 with h1 | h1
          · exact Hap.out q (h1 ▸ hq') e
          · rw [h1] at hq'
            cases hq'
            have := (HCU.out.2.2.2.2.1.ty _ e).2.1
            omega
        · rintro (e | e)
          · have := (hdty _ e).1; omega
          · omega
        · intro i hi
          have := Hrb.out
          rcases hi with e | e
          · have := (hdty _ e).1; exact .inr (by omega)
          · exact .inr (by omega)
        · exact TyAt.ne (hown1.ty q hq).2.2 hR1.ty (by decide)
        · rcases e with e | e
          · exact Hap.out q e hq
          · exact absurd e (TyAt.ne (HCU.out.2.2.2.2.1.ty q hq).2.2 HCU.out.2.1.ty (by decide))
      have hk2b : (k5 == 2) = false := by simpa using hk2
      clear hk0 hk1 hk2
      go_wp2
      go_meet
      exact ⟨⟨r, f.dv, f.nv⟩, s.dist, s.nulls, by have := Hr.out; show -1 ≤ r ∧ r ≤ 401; omega, fun x hx => by have := Hs.out.1 x hx; omega, fun x hx => by have := Hs.out.2 x hx; omega, Hap.out, HC5.out.1, HC5.out.2.1, HC5.out.2.2.1, HC5.out.2.2.2.1, HC5.out.2.2.2.2.1, HC5.out.2.2.2.2.2.mono (by omega)⟩
    case rest =>
      obtain ⟨g, dl, nl, hg1, hg2, hg3, hg4, hC⟩ := hcut
      obtain ⟨c1, c2, c3, c4, c5, c6⟩ := hC
      have x0 : wc.cell? ⟨ob, 0, none⟩ = some (.int .i64 g.rows) := c2.cell 0
      have x1 : wc.cell? ⟨ob, 1, none⟩ = some (.slice g.dv.A g.dv.n g.dv.c) := c2.cell 1
      have x2 : wc.cell? ⟨ob, 2, none⟩ = some (.slice g.nv.A g.nv.n g.nv.c) := c2.cell 2
      have y0 : wc.cell? ⟨rb, 0, none⟩ = some (.int .i64 0) := c1.cell 0
      have y1 : wc.cell? ⟨rb, 1, none⟩ = some (.slice none 0 0) := c1.cell 1
      have y2 : wc.cell? ⟨rb, 2, none⟩ = some (.slice none 0 0) := c1.cell 2
      have g0 : wc.frozen? ⟨rb, 0, none⟩ = false := c1.frozen 0
      have g1 : wc.frozen? ⟨rb, 1, none⟩ = false := c1.frozen 1
      have g2 : wc.frozen? ⟨rb, 2, none⟩ = false := c1.frozen 2
      have hbl := c2.lt
      have hrl := c1.lt
      have HCz := Lib.hid (And.intro c1 (And.intro c3 (And.intro c4 (And.intro c5 c6))))
      have HG := Lib.hid (And.intro hg1 (And.intro hg2 (And.intro hg3 hg4)))
      clear c1 c2 c3 c4 c5 c6 hg1 hg2 hg3 hg4 q0 q1 q2 q3 q4 ql hwr
      go_wp2
      have kq : Only (fun i => i = rb) wc (((wc.setCell ⟨rb, 0, none⟩ (.int .i64 g.rows)).setCell ⟨rb, 1, none⟩ (.slice g.dv.A g.dv.n g.dv.c)).setCell ⟨rb, 2, none⟩ (.slice g.nv.A g.nv.n g.nv.c)) :=
        (((Only.refl (S := fun i => i = rb) wc).set (p := ⟨rb, 0, none⟩) (.inl rfl) _).set (p := ⟨rb, 1, none⟩) (.inl rfl) _).set (p := ⟨rb, 2, none⟩) (.inl rfl) _
      have hRr : Row (((wc.setCell ⟨rb, 0, none⟩ (.int .i64 g.rows)).setCell ⟨rb, 1, none⟩ (.slice g.dv.A g.dv.n g.dv.c)).setCell ⟨rb, 2, none⟩ (.slice g.nv.A g.nv.n g.nv.c)) rb 33 [.int .i64 g.rows, .slice g.dv.A g.dv.n g.dv.c, .slice g.nv.A g.nv.n g.nv.c] :=
        (((HCz.out.1.set 0 _).set 1 _).set 2 _).of rfl
      have hRd : Rd (((wc.setCell ⟨rb, 0, none⟩ (.int .i64 g.rows)).setCell ⟨rb, 1, none⟩ (.slice g.dv.A g.dv.n g.dv.c)).setCell ⟨rb, 2, none⟩ (.slice g.nv.A g.nv.n g.nv.c)) b (p + 16010) :=
        ((HCz.out.2.2.2.2.set (a := ⟨rb, 0, none⟩) hb1 _).set (a := ⟨rb, 1, none⟩) hb1 _).set (a := ⟨rb, 2, none⟩) hb1 _
      obtain ⟨Y, hY⟩ : ∃ z, ((wc.setCell ⟨rb, 0, none⟩ (.int .i64 g.rows)).setCell ⟨rb, 1, none⟩ (.slice g.dv.A g.dv.n g.dv.c)).setCell ⟨rb, 2, none⟩ (.slice g.nv.A g.nv.n g.nv.c) = z := ⟨_, rfl⟩
      rw [hY] at kq hRr hRd ⊢
      have v0 : Y.cell? ⟨rb, 0, none⟩ = some (.int .i64 g.rows) := hRr.cell 0
      have v1 : Y.cell? ⟨rb, 1, none⟩ = some (.slice g.dv.A g.dv.n g.dv.c) := hRr.cell 1
      have v2 : Y.cell? ⟨rb, 2, none⟩ = some (.slice g.nv.A g.nv.n g.nv.c) := hRr.cell 2
      have hlz := hRr.lt
      have hrw := Hrb.out
      have hGot : GotAny b (p + 16010) w (.returned (fsV g)) Y := by
        refine ⟨g, ⟨g.rows, dl, nl⟩, rfl, ⟨rfl, ?_, ?_, HG.out.2.2.2⟩, ⟨by have := HG.out.1; show -1000000 ≤ g.rows ∧ g.rows ≤ 1000000; omega, fun x hx => by have := HG.out.2.1 x hx; omega, fun x hx => by have := HG.out.2.2.1 x hx; omega⟩, HCz.out.2.1.step kq fun i hi => .inr (by omega), hRd⟩
        · exact (HCz.out.2.2.1.apart2 kq fun q hq e => by have := (HCz.out.2.2.1.ty q hq).1; omega).low (by omega)
        · exact (HCz.out.2.2.2.1.apart2 kq fun q hq e => by have := (HCz.out.2.2.2.1.ty q hq).1; omega).low (by omega)
      clear hY kq hRr hRd y0 y1 y2 g0 g1 g2 x0 x1 x2
      exact bodyPost_ret (v := fsV g) (by simp [results, Try.results43, go_sem, v0, v1, v2, hlz, fsV]) rfl hGot
end Go.Proofs.Ytnecmacjlggkeaa

/-
  Contract: statsFor of the reference.
-/
namespace Go.Proofs.Ytnecmacjlggkeaa
open Go.RowKit Go.Qo
set_option linter.unusedVariables false
set_option linter.unusedSimpArgs false

/-- Statistics whose lists lie in blocks of numbers. -/
def StT (lo : Nat) (w : World) (f : FS) (s : St) : Prop := f.rows = s.rows ∧ SVok f.dv s.dist.length ∧ SVok f.nv s.nulls.length ∧ SlT 3 1 intC lo w f.dv.A s.dist ∧ SlT 3 1 intC lo w f.nv.A s.nulls
theorem StOw.t {lo : Nat} {w : World} {f : FS} {s : St} (h : StOw lo w f s) : StT lo w f s := by
  obtain ⟨A, c, hv, h1, h2, h3⟩ := h.2.1.shape intC_length
  obtain ⟨A', c', hv', h1', h2', h3'⟩ := h.2.2.1.shape intC_length
  simp only [Value.slice.injEq] at hv hv'
  refine ⟨h.1, ⟨hv.2.1, by rw [hv.2.1, hv.2.2]; exact h1, by rw [hv.2.2]; exact h2⟩, ⟨hv'.2.1, by rw [hv'.2.1, hv'.2.2]; exact h1', by rw [hv'.2.2]; exact h2'⟩, hv.1 ▸ h3, hv'.1 ▸ h3'⟩
theorem StT.only {lo : Nat} {w w' : World} {f : FS} {s : St} {S : Nat → Prop} (h : StT lo w f s) (k : Only S w w') (hS : ∀ b, S b → b < lo ∨ ∃ u, u ≠ 3 ∧ TyAt w b u) : StT lo w' f s := ⟨h.1, h.2.1, h.2.2.1, h.2.2.2.1.only k hS, h.2.2.2.2.only k hS⟩
theorem StT.low {lo lo' : Nat} {w : World} {f : FS} {s : St} (h : StT lo w f s) (hl : lo' ≤ lo) : StT lo' w f s := ⟨h.1, h.2.1, h.2.2.1, h.2.2.2.1.low hl, h.2.2.2.2.low hl⟩
theorem StT.in_ {lo : Nat} {w : World} {f : FS} {s : St} (h : StT lo w f s) : StIn w w.heap.size f s := ⟨h.1, h.2.1, h.2.2.1, h.2.2.2.1.sl, h.2.2.2.2.sl⟩
def StsT (lo : Nat) (w : World) (fs : List FS) (ss : List St) : Prop := fs.length = ss.length ∧ ∀ (i : Nat) (f : FS) (s : St), fs[i]? = some f → ss[i]? = some s → StT lo w f s
theorem StsT.nil {lo : Nat} {w : World} : StsT lo w [] [] := ⟨rfl, fun i f s h => by simp at h⟩
theorem StsT.only {lo : Nat} {w w' : World} {fs : List FS} {ss : List St} {S : Nat → Prop} (h : StsT lo w fs ss) (k : Only S w w') (hS : ∀ b, S b → b < lo ∨ ∃ u, u ≠ 3 ∧ TyAt w b u) : StsT lo w' fs ss := ⟨h.1, fun i f s hf hs => (h.2 i f s hf hs).only k hS⟩
theorem StsT.on {lo : Nat} {w w' : World} {fs : List FS} {ss : List St} (h : StsT lo w fs ss) (k : Below w.heap.size w w') : StsT lo w' fs ss := h.only (only_below (S := fun _ => False) k) fun _ h => h.elim
theorem StsT.snoc {lo : Nat} {w : World} {fs : List FS} {ss : List St} {f : FS} {s : St} (h : StsT lo w fs ss) (k : StT lo w f s) : StsT lo w (fs ++ [f]) (ss ++ [s]) := by
  refine ⟨by simp [h.1], fun i g t hg ht => ?_⟩
  by_cases hi : i < fs.length
  · rw [List.getElem?_append_left hi] at hg
    rw [List.getElem?_append_left (by rw [← h.1]; exact hi)] at ht
    exact h.2 i g t hg ht
  · rw [List.getElem?_append_right (by omega)] at hg
    rw [List.getElem?_append_right (by rw [← h.1]; omega), ← h.1] at ht
    obtain ⟨m, hm⟩ : ∃ m, i - fs.length = m := ⟨_, rfl⟩
    rw [hm] at hg ht
    cases m
    · simp at hg ht; subst hg; subst ht; exact k
    · simp at hg
theorem StsT.put {lo : Nat} {w : World} {fs : List FS} {ss : List St} {f : FS} {s : St} (h : StsT lo w fs ss) (k : StT lo w f s) (j : Nat) : StsT lo w (fs.set j f) (ss.set j s) := by
  refine ⟨by simp [h.1], fun i g t hg ht => ?_⟩
  rw [List.getElem?_set] at hg ht
  by_cases hj : j = i
  · rw [if_pos hj] at hg ht
    split at hg
    · split at ht
      · cases hg; cases ht; exact k
      · cases ht
    · cases hg
  · rw [if_neg hj] at hg ht
    exact h.2 i g t hg ht
theorem StsT.in_ {lo L : Nat} {w : World} {fs : List FS} {ss : List St} {A : Option Addr} {n c : Nat} (h : StsT lo w fs ss) (ho : Ow L 33 3 fsC w (.slice A n c) fs) : StsIn w w.heap.size A ss := by
  obtain ⟨A', c', hv, _, _, h3⟩ := ho.shape fsC_length
  simp only [Value.slice.injEq] at hv
  refine ⟨fs, h.1, by rw [hv.1]; exact h3.sl, fun i f s hf hs => (h.2 i f s hf hs).in_⟩
theorem fsC_one (f : FS) : ∀ u ∈ fsC f, u.oneCell' = true := by
  intro u hu
  simp [fsC] at hu
  rcases hu with rfl | rfl | rfl <;> rfl
theorem zeroStS : (Try.prog.info? 33).map (fun i => (i.zero, i.size, i.bytes)) = some (some (.agg #[.int .i64 0, .slice none 0 0, .slice none 0 0]), 3, 56) := by kernel_rfl
theorem statsOf_okI (W : Int) (A : Option Addr) (c : Nat) (rows : List Row1) (w : World) (h0 : 0 ≤ W) (hW : W ≤ 16) (hn : rows.length ≤ 400) (hrl : ∀ r ∈ rows, r.length = W.toNat) (h : Rws w w.heap.size A rows) :
    Calls Try.prog 41 #[.agg #[.int .i64 W, .slice A rows.length c]] w (GotSt w.heap.size rows.length W.toNat w) := by
  obtain ⟨n, rfl⟩ := Int.eq_ofNat_of_zero_le h0
  exact statsOf_ok n A c rows w (by omega) hn hrl h
theorem anyStats_okI (W : Int) (b p : Nat) (w : World) (hR : Rd w b p) (hp : p + 32010 ≤ 1099511627776) (hW : W ≤ 16) (hW0 : 0 < W) :
    Calls Try.prog 43 #[.pointer (some ⟨b, 0, none⟩), .int .i64 W] w (GotAny b (p + 16010) w) := by
  obtain ⟨n, rfl⟩ := Int.eq_ofNat_of_zero_le (Int.le_of_lt hW0)
  exact anyStats_ok n b p w hR hp (by omega) (by omega)
theorem flat_setF (f : FS) : ∀ (xs : List FS), 0 < xs.length → (((xs.flatMap fsC).set 0 (.int .i64 f.rows)).set 1 (.slice f.dv.A f.dv.n f.dv.c)).set 2 (.slice f.nv.A f.nv.n f.nv.c) = (xs.set 0 f).flatMap fsC
  | [], h => absurd h (by simp)
  | x :: xs, _ => by simp [fsC]
theorem Ow.putF {lo g n c : Nat} {w : World} {xs : List FS} (h : Ow lo 33 3 fsC w (.slice (some ⟨g, 0, none⟩) n c) xs) (h0 : 0 < xs.length) (f : FS) :
    Ow lo 33 3 fsC (((w.setCell ⟨g, 0, none⟩ (.int .i64 f.rows)).setCell ⟨g, 1, none⟩ (.slice f.dv.A f.dv.n f.dv.c)).setCell ⟨g, 2, none⟩ (.slice f.nv.A f.nv.n f.nv.c)) (.slice (some ⟨g, 0, none⟩) n c) (xs.set 0 f) := by
  have h1 := Ow.put h 0 (.int .i64 f.rows)
  rcases h.2 with ⟨e1, e2⟩ | ⟨g', cap, cur, hv, _⟩
  · cases e1
  · cases hv
    have h2 := (World.ownsRow.stored h1 1 (.slice f.dv.A f.dv.n f.dv.c)).1
    have h3 := (World.ownsRow.stored h2 2 (.slice f.nv.A f.nv.n f.nv.c)).1
    rw [flat_setF f xs h0] at h3
    unfold Ow
    rw [List.length_set]
    exact h3
/-- What statsFor hands back. -/
def GotSts (m b p : Nat) (w : World) (e : Ending) (w' : World) : Prop := ∃ (A : Option Addr) (c : Nat) (fs : List FS) (ss : List St), e = .returned (.slice A m c) ∧ Ow w.heap.size 33 3 fsC w' (.slice A m c) fs ∧ StsT w.heap.size w' fs ss ∧ ss.length = m ∧ (∀ s ∈ ss, StSm s) ∧ But b w w' ∧ Rd w' b p
set_option maxRecDepth 20000 in
set_option maxHeartbeats 4000000 in
theorem statsFor_ok (b p lo : Nat) (A : Option Addr) (c : Nat) (ws : List Int) (w : World) (hR : Rd w b p) (hp : p + 90000 ≤ 1099511627776) (hl : b < lo) (hlw : lo ≤ w.heap.size) (hws : SlT 3 1 intC lo w A ws) (hn : 0 < ws.length ∧ ws.length ≤ 3) (hr : ∀ y ∈ ws, 0 ≤ y ∧ y ≤ 7) :
    Calls Try.prog 26 #[.pointer (some ⟨b, 0, none⟩), .slice A ws.length c] w (GotSts ws.length b (p + 80000) w) := by
  have hlt := hR.lt
  obtain ⟨W1, hW1⟩ : ∃ z, w.alloc (.cells #[] 33) = z := ⟨_, rfl⟩
  have b1 : Below w.heap.size w W1 := by rw [← hW1]; exact balloc (Below.refl _ _) _
  have HO1 := Lib.hid (show Ow w.heap.size 33 3 fsC W1 (.slice (some ⟨w.heap.size, 0, none⟩) 0 0) ([] : List FS) by rw [← hW1]; exact Ow.lit (xs := ([] : List FS)) rfl rfl (Nat.le_refl _) (by decide))
  have HR1 := Lib.hid (hR.on b1)
  have HB1 := Lib.hid (show But b w W1 from only_below b1)
  have HS := Lib.hid (fun (z : World) (hz : But b w z) => hws.only hz fun i (hi : i = b) => .inl (by omega))
  have Hr := Lib.hid hr
  have HW1 := Lib.hid hW1
  clear hR hW1 b1 hws hr
  go_enter Try.func26, Try.ntmps26
  go_upto_region 2 with fail
  rw [HW1.out]
  go_wp2
  go_loopg [5, 6] ws.length (fun g v iv wr => ∃ (i : Nat) (fs : List FS) (ss : List St), i ≤ ws.length ∧ g = ws.length - i ∧ iv = .int .i64 i ∧ fs.length = i ∧ (∀ s ∈ ss, StSm s) ∧ Ow w.heap.size 33 3 fsC wr v fs ∧ StsT w.heap.size wr fs ss ∧ But b w wr ∧ Rd wr b (p + i * 16001))
  case atStart => exact ⟨0, [], [], by omega, by omega, rfl, rfl, by simp, HO1.out, StsT.nil, HB1.out, HR1.out.mono (by omega)⟩
  case round =>
    obtain ⟨i, fs, ss, hi, rfl, rfl, hfl, hsm, how, hst, hb, hRd⟩ := hrel
    have Hfl := Lib.hid (And.intro hfl hsm)
    have HO := Lib.hid how
    have HT := Lib.hid hst
    have HB := Lib.hid hb
    have HRd := Lib.hid hRd
    have hbz := hRd.lt
    obtain ⟨As, cs, rfl, hcs1, hcs2, _⟩ := how.shape fsC_length
    rw [hfl] at hcs1
    clear hfl hsm how hst hb hRd
    by_cases hiw : i < ws.length
    · have hiI : (i : Int) < (ws.length : Int) := by omega
      obtain ⟨bs, os, hA, hB, hcc⟩ := (HS.out _ HB.out).sl (by omega)
      have hx := List.getElem?_eq_getElem hiw
      have c0 : wr.cell? ⟨bs, os + i, none⟩ = some (.int .i64 ws[i]) := by simpa using hcc i _ hx 0 _ rfl
      have hxr := Hr.out _ (List.getElem_mem hiw)
      subst hA
      clear hcc hx
      generalize ws[i] = y at *
      have Hx := Lib.hid hxr
      go_wp2_with fail
      all_goals
        refine (randomTable_ok b (p + i * 16001) _ 8 wr HRd.out (by omega) (by have := Hx.out; omega) (by omega) (by omega)).mono ?_
        rintro e w2 ⟨v, svs, rows, out, rfl, hrl, hrv, hbt, how2, hti, hb2, hR2⟩
        obtain ⟨Ar, cr, rfl, _, _, hss⟩ := how2.shape svC_length
        have hol : svs.length = out.length := hti.1
        have hol8 : out.length ≤ 8 := by rw [built_len hbt]; exact hrl
        have HSO := Lib.hid (statsOf_okI _ Ar cr out w2 (by have := Hx.out; omega) (by have := Hx.out; omega) (by omega) (fun r hr => (hrv r (hbt.perm.mem_iff.1 hr)).1) (sls_of' hss.sl hti))
        have HR2 := Lib.hid hR2
        have HB2 := Lib.hid hb2
        clear hrv hbt how2 hti hb2 hR2 hss hrl
        go_wp2_with fail
        refine HSO.out.mono ?_
        rintro e w3 ⟨f, s, rfl, hot, hsr, hsd, hsn, hd4, hn4, hb3⟩
        have Hsr := Lib.hid (show StSm s from ⟨by rw [hsr]; omega, fun x hx => by have := hd4 x hx; omega, fun x hx => by have := hn4 x hx; omega⟩)
        obtain ⟨U1, hU1⟩ : ∃ z, w3.alloc (.cells #[.int .i64 f.rows, .slice f.dv.A f.dv.n f.dv.c, .slice f.nv.A f.nv.n f.nv.c] 33) = z := ⟨_, rfl⟩
        have u1 : Below w3.heap.size w3 U1 := by rw [← hU1]; exact balloc (Below.refl _ _) _
        have bU : But b wr U1 := (HB2.out.below hb3).below u1
        have hSU : Sl 3 fsC U1 U1.heap.size (some ⟨w3.heap.size, 0, none⟩) [f] := by rw [← hU1]; exact Row.sl' (t := 33) fsC_length ((Row.new w3 _ _).of rfl)
        have hstU : StT w.heap.size U1 f s := (hot.t.only (only_below (S := fun _ => False) u1) fun _ h => h.elim).low (by have := HB.out.size; have := HB2.out.size; omega)
        have HOU := Lib.hid (HO.out.only bU fun q (hq : q = b) => .inl (by omega))
        have HTU := Lib.hid ((HT.out.only bU fun q (hq : q = b) => .inl (by omega)).snoc hstU)
        have HSU := Lib.hid hSU
        have HBU := Lib.hid (HB.out.trans bU)
        have HRU := Lib.hid ((HR2.out.on hb3).on u1)
        have HU1 := Lib.hid hU1
        have hlo1 : w.heap.size ≤ U1.heap.size := by have := HB.out.size; have := bU.size; omega
        clear hot hsr hsd hsn hd4 hn4 hb3 hU1 u1 bU hSU hstU
        unfold fsV
        have hfl3 : fs.length ≤ 3 := by have := Hfl.out.1; omega
        go_wp2_with (at_builtin; rw [HU1.out]; refine wpList_app rfl (.tmp 14) (.tmp 24) 28 rfl w.heap.size 33 _ 3 56 fsC Try.underlying28 zeroStS rfl (by decide) (by decide) fsC_length fsC_one _ fs rfl HOU.out (some ⟨w3.heap.size, 0, none⟩) 1 1 [f] rfl rfl HSU.out (by simp only [List.length_singleton]; omega) hlo1 ?_; intro v4 w4 hown hgr)
        go_roundg (ws.length - (i + 1))
        case measure => omega
        case rel =>
          have hty := HOU.out.ty
          refine ⟨i + 1, fs ++ [f], ss ++ [s], by omega, rfl, by go_num, by simp [Hfl.out.1], ?_, hown, ?_, ?_, ?_⟩
          · intro x hx
            rcases List.mem_append.1 hx with hx | hx
            · exact Hfl.out.2 x hx
            · simp at hx; subst hx; exact Hsr.out
          · exact HTU.out.only ((Only.refl (S := fun q => (Value.slice As fs.length cs).ownBlock = some q) U1).grown hgr fun q e => .inl e) fun q hq => .inr ⟨33, by decide, (hty q hq).2.2⟩
          · exact HBU.out.grown hgr fun q hq => .inr (hty q hq).1
          · exact (HRU.out.grown hgr fun q hq => by have := (hty q hq).1; omega).mono (by omega)
    · have hiI : ¬ (i : Int) < (ws.length : Int) := by omega
      have hie := Lib.hid (show i = ws.length by omega)
      have hfp : 0 < fs.length := by have := Hfl.out.1; omega
      obtain ⟨g, hAs, _, hgl, hgs, hgt, _, _⟩ := Ow.head fsC_length HO.out hfp
      subst hAs
      have Hgt := Lib.hid (And.intro hgl (And.intro hgs hgt))
      clear hgl hgs hgt
      go_wp2_with fail
      refine (pick_ok b (p + i * 16001) 16 wr HRd.out (by omega)).mono ?_
      rintro e w5 ⟨k, rfl, hk, hb5, hsz5, hR5⟩
      have HO5 := Lib.hid (HO.out.only hb5 fun q (hq : q = b) => .inl (by omega))
      have HT5 := Lib.hid (HT.out.only hb5 fun q (hq : q = b) => .inl (by omega))
      have HB5 := Lib.hid (HB.out.trans hb5)
      have HR5 := Lib.hid hR5
      clear hk hb5 hsz5 hR5
      by_cases hk0 : k = 0
      · subst hk0
        have hn0 : 0 < ws.length := hn.1
        have hnI : (0 : Int) < (ws.length : Int) := by omega
        obtain ⟨bs, os, hA, hB, hcc⟩ := (HS.out _ HB5.out).sl hn0
        have hx := List.getElem?_eq_getElem hn0
        have c0 : w5.cell? ⟨bs, os, none⟩ = some (.int .i64 ws[0]) := by simpa using hcc 0 _ hx 0 _ rfl
        have hxr := Hr.out _ (List.getElem_mem hn0)
        subst hA
        clear hcc hx
        generalize ws[0] = y at *
        have Hx := Lib.hid hxr
        go_wp2_with fail
        all_goals
          refine (anyStats_okI _ b (p + i * 16001 + 1) w5 HR5.out (by omega) (by omega) (by omega)).mono ?_
          rintro e w6 ⟨f, s, rfl, hot, hsm, hb6, hR6⟩
          have hO6 := HO5.out.only hb6 fun q (hq : q = b) => .inl (by omega)
          have hT6 := HT5.out.only hb6 fun q (hq : q = b) => .inl (by omega)
          obtain ⟨g', hg', hgn, hgl, hgs, hgt, hfz, hce⟩ := Ow.head fsC_length hO6 hfp
          cases hg'
          obtain ⟨f0, hf0⟩ : ∃ x, fs[0]? = some x := ⟨_, List.getElem?_eq_getElem hfp⟩
          have z0 : w6.cell? ⟨g, 0, none⟩ = some (.int .i64 f0.rows) := hce 0 _ (flat_get 3 fsC fsC_length fs 0 f0 0 _ hf0 rfl)
          have z1 : w6.cell? ⟨g, 1, none⟩ = some (.slice f0.dv.A f0.dv.n f0.dv.c) := hce 1 _ (flat_get 3 fsC fsC_length fs 0 f0 1 _ hf0 rfl)
          have z2 : w6.cell? ⟨g, 2, none⟩ = some (.slice f0.nv.A f0.nv.n f0.nv.c) := hce 2 _ (flat_get 3 fsC fsC_length fs 0 f0 2 _ hf0 rfl)
          have y0 := hfz 0
          have y1 := hfz 1
          have y2 := hfz 2
          have hfI : (0 : Int) < (fs.length : Int) := by omega
          have hs6 : w.heap.size ≤ w5.heap.size := HB5.out.size
          have H6 := Lib.hid (And.intro hO6 (And.intro (hT6.put (hot.t.low hs6) 0) (And.intro hsm (And.intro (HB5.out.trans hb6) (And.intro hR6 (And.intro hgl hgt))))))
          clear hot hsm hb6 hR6 hO6 hT6 hgl hgt hfz hce hf0
          unfold fsV
          go_wp2
          go_ret
          obtain ⟨hO6, hT6, hsm, hb6, hR6, hgl, hgt⟩ := H6.out
          have kq : Only (fun i => i = g) w6 (((w6.setCell ⟨g, 0, none⟩ (.int .i64 f.rows)).setCell ⟨g, 1, none⟩ (.slice f.dv.A f.dv.n f.dv.c)).setCell ⟨g, 2, none⟩ (.slice f.nv.A f.nv.n f.nv.c)) :=
            (((Only.refl (S := fun i => i = g) w6).set (p := ⟨g, 0, none⟩) (.inl rfl) _).set (p := ⟨g, 1, none⟩) (.inl rfl) _).set (p := ⟨g, 2, none⟩) (.inl rfl) _
          have hfe : fs.length = ws.length := by rw [Hfl.out.1]; exact hie.out
          have hgb : b < g := by omega
          have hO7 := Ow.putF hO6 hfp f
          rw [hfe] at hO7
          refine ⟨some ⟨g, 0, none⟩, cs, fs.set 0 f, ss.set 0 s, (show Ending.returned (.slice (some ⟨g, 0, none⟩) fs.length cs) = .returned (.slice (some ⟨g, 0, none⟩) ws.length cs) by rw [hfe]), hO7, hT6.only kq fun q hq => .inr ⟨33, by decide, by cases hq; exact hgt⟩, by rw [List.length_set, ← HT.out.1, hfe], ?_, hb6.step kq fun q hq => .inr (by omega), (((hR6.set (a := ⟨g, 0, none⟩) hgb _).set (a := ⟨g, 1, none⟩) hgb _).set (a := ⟨g, 2, none⟩) hgb _).mono (by omega)⟩
          intro x hx
          rcases List.mem_or_eq_of_mem_set hx with hx | hx
          · exact Hfl.out.2 x hx
          · subst hx; exact hsm
      · have hkb : (k == 0) = false := by simpa using hk0
        go_wp2
        go_ret
        have hfe : fs.length = ws.length := by rw [Hfl.out.1]; exact hie.out
        have hO5 := HO5.out
        rw [hfe] at hO5
        exact ⟨some ⟨g, 0, none⟩, cs, fs, ss, (show Ending.returned (.slice (some ⟨g, 0, none⟩) fs.length cs) = .returned (.slice (some ⟨g, 0, none⟩) ws.length cs) by rw [hfe]), hO5, HT5.out, by rw [← HT.out.1, hfe], Hfl.out.2, HB5.out, HR5.out.mono (by omega)⟩
end Go.Proofs.Ytnecmacjlggkeaa
