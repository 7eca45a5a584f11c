/-
  Contract: (*impl.Expr).copied.
-/
import Derived.Test.YtcbfbgngkdiijaaProg
import Derived.Test.YtcbfbgngkdiijaaTdo
import Derived.Test.YtcbfbgngkdiijaaCpd
import Derived.Test.YtcbfbgngkdiijaaGeD
import Derived.Test.YtcbfbgngkdiijaaPln
namespace Go.Proofs.Ytcbfbgngkdiijaa
open Go.RowKit Go.Qo
set_option linter.unusedVariables false
set_option linter.unusedSimpArgs false

theorem zeroPtE : (Try.prog.info? 83).map (fun i => (i.zero, i.size, i.bytes)) = some (some (.pointer none), 1, 8) := by kernel_rfl
def zsE : List Value := [.int .i64 0, .int .i64 0, .bool false, .int .i64 0, .slice none 0 0]

set_option maxRecDepth 20000 in
set_option maxHeartbeats 4000000 in
theorem exprCopied_ok (b o : Nat) (f : FE) (x : Ex) (w : World) (hf : FeAt w b o f) (hb : b < w.heap.size) (S0 : Nat → Prop) (hx : ExT S0 w f x) (hn : exN x ≤ 1048576) :
    Calls Try.prog 41 #[.pointer (some ⟨b, o, none⟩)] w fun e w' => ∃ f', e = .returned (feV f') ∧ ExT (fun k => S0 k ∨ w.heap.size ≤ k) w' f' x ∧ Below w.heap.size w w' := by
  obtain ⟨W0, hW0⟩ : ∃ z, w.alloc (.cells #[.int .i64 0, .int .i64 0, .bool false, .int .i64 0, .slice none 0 0] 66) = z := ⟨_, rfl⟩
  have b0 : Below w.heap.size w W0 := by rw [← hW0]; exact balloc (Below.refl _ _) _
  have hs0 : W0.heap.size = w.heap.size + 1 := by rw [← hW0]; simp
  have r0 : Row W0 w.heap.size 66 zsE := by rw [← hW0]; exact (Row.new _ _ _).of rfl
  have hk : ∀ j v, w.cell? ⟨b, j, none⟩ = some v → W0.cell? ⟨b, j, none⟩ = some v := fun j v h => (b0.cell (p := ⟨b, j, none⟩) hb).trans h
  have c0 := hk _ _ hf.1
  have c1 := hk _ _ hf.2.1
  have c2 := hk _ _ hf.2.2.1
  have c3 := hk _ _ hf.2.2.2.1
  have c4 := hk _ _ hf.2.2.2.2
  have hbl : b < W0.heap.size := by omega
  obtain ⟨W1, hW1⟩ : ∃ z, W0.alloc (.cells #[.int .i64 f.kind, .int .i64 f.col, .bool f.val.1, .int .i64 f.val.2, .slice f.sv.A f.sv.n f.sv.c] 66) = z := ⟨_, rfl⟩
  have b1 : Below W0.heap.size W0 W1 := by rw [← hW1]; exact balloc (Below.refl _ _) _
  have hs1 : W1.heap.size = w.heap.size + 2 := by rw [← hW1]; simp; omega
  have r1 : Row W1 (w.heap.size + 1) 66 (feC f) := by rw [← hW1, ← hs0]; exact (Row.new _ _ _).of rfl
  obtain ⟨W2, hW2⟩ : ∃ z, W1.alloc (.cells #[.pointer (some ⟨w.heap.size + 1, 0, none⟩)] 83) = z := ⟨_, rfl⟩
  have b2 : Below W1.heap.size W1 W2 := by rw [← hW2]; exact balloc (Below.refl _ _) _
  have T0 : Tdi S0 nodE 66 83 zsE x w W2 (.slice (some ⟨w.heap.size + 2, 0, none⟩) 1 1) [(w.heap.size + 1, 0)] [x] := by
    have hB : Below w.heap.size w W2 := bch (bch b0 b1) b2
    have rr := r1.on b2
    have hh : HdE (Bsd S0 w.heap.size (.slice (some ⟨w.heap.size + 2, 0, none⟩) 1 1)) W2 (w.heap.size + 1) 0 x := by
      refine ⟨f, ⟨rr.cell 0, rr.cell 1, rr.cell 2, rr.cell 3, rr.cell 4⟩, ((hx.mono (T := fun k => S0 k ∧ k < w.heap.size) fun k hl hk => ⟨hk, hl⟩).keep hB.size fun k hk hl => hB.block k hk.2).mono fun k hk hS => ?_⟩
      have h2 : k < w.heap.size := hS.2
      refine ⟨.inl hS.1, by omega, fun e => ?_⟩
      have := Option.some.inj e
      simp at this
      omega
    refine ⟨?_, ⟨rfl, fun i p y hp hy => ?_⟩, ⟨_, rr⟩, hh, (r0.on b1).on b2, hB⟩
    · rw [← hW2, ← hs1]
      exact Ow.lit (xs := [(w.heap.size + 1, 0)]) rfl rfl (by omega) (by unfold maxLen; simp)
    · cases i with
      | succ i => simp at hp
      | zero =>
        simp at hp hy
        subst hp hy
        exact ⟨⟨Nat.le_refl _, _, rr⟩, hh⟩
  have HT0 := Lib.hid T0
  have HW0 := Lib.hid hW0
  have HW1 := Lib.hid hW1
  have HW2 := Lib.hid hW2
  have HS := Lib.hid (And.intro hs0 hs1)
  have HN := Lib.hid hn
  clear hW0 hW1 hW2 T0 b0 b1 b2 r0 r1 hk hf hx hn hs0 hs1
  go_enter Try.func41, Try.ntmps41
  go_upto_region 1 with fail
  rw [HW0.out]
  go_upto_region 2 with fail
  rw [HW1.out]
  go_wp2
  rw [HS.out.1, HS.out.2, HW2.out]
  go_loopg [4] (exsN [x]) (fun g v wr => ∃ (ps : List (Nat × Nat)) (xs : List Ex) (A : Option Addr) (n c : Nat), g = exsN xs ∧ v = .slice A n c ∧ n = ps.length ∧ exsN xs ≤ 1048576 ∧ Tdi S0 nodE 66 83 zsE x w wr (.slice A n c) ps xs)
  case atStart => exact ⟨_, _, _, _, _, rfl, rfl, rfl, by rw [exsN_one]; exact HN.out, HT0.out⟩
  case round =>
    obtain ⟨ps, xs, A, n, c, rfl, rfl, hnl, hxs, hT⟩ := hrel
    have HT := Lib.hid hT
    have HXS := Lib.hid hxs
    clear hT hxs
    by_cases h0 : 0 < ps.length
    · obtain ⟨qs, ⟨pb, po⟩, ys, y, rfl, rfl, hql⟩ := HT.out.last h0
      obtain ⟨m, hm⟩ : ∃ m, qs.length = m := ⟨_, rfl⟩
      obtain rfl : n = m + 1 := by rw [hnl, List.length_append, List.length_singleton, hm]
      have HM := Lib.hid hm
      have HQL := Lib.hid hql
      obtain ⟨tb, rfl, -, -, htl, -, -, htc⟩ := HT.out.own.head ptC_length (by simp)
      have tcell : wr.cell? ⟨tb, m, none⟩ = some (.pointer (some ⟨pb, po, none⟩)) := by
        refine htc m _ ?_
        have := flat_get 1 ptC ptC_length (qs ++ [(pb, po)]) m (pb, po) 0 _ (by rw [← hm]; simp) rfl
        simpa using this
      obtain ⟨T1, ⟨hplo, cs, hr⟩, f1, hf1, hy1⟩ := HT.out.pop hm.symm
      have HT1 := Lib.hid T1
      have HP := Lib.hid (And.intro hplo (And.intro hr (And.intro hf1 hy1)))
      have hm40 : m < 1048576 := by
        have h1 := HXS.out
        have h2 := exsN_len (ys ++ [y])
        rw [List.length_append, List.length_singleton] at h2
        omega
      have hw1 : IntKind.i64.wrap ((m : Int) + 1 - 1) = m := by rw [show (m : Int) + 1 - 1 = m by omega]; exact IntWalk.i64_in _ (by omega)
      have hmc : m ≤ c := by
        obtain ⟨A9, c9, hv9, h91, -, -⟩ := HT.out.own.shape ptC_length
        injection hv9 with e1 e2 e3
        rw [List.length_append, List.length_singleton] at h91
        have h5 := HM.out
        omega
      have hgt : (0 : Int) < (m : Int) + 1 := by omega
      have hlt1 : (m : Int) < (m : Int) + 1 := by omega
      have q4 : wr.cell? ⟨pb, po + 4, none⟩ = some (.slice f1.sv.A f1.sv.n f1.sv.c) := hf1.2.2.2.2
      have hpl := hr.lt
      obtain ⟨g4, g5, g6, fs, g7, g8, g9⟩ := hy1.flat
      have HG := Lib.hid (And.intro g4 (And.intro g5 (And.intro g6 (And.intro g7 (And.intro g8 g9)))))
      have hfl : f1.sv.n = fs.length := by omega
      have HFL := Lib.hid hfl
      have hkl : fs.length ≤ 1048576 := by have := hy1.bnd.len; omega
      have HC := Lib.hid (copiedE_ok f1.sv.A f1.sv.c fs wr hkl g8.sl)
      rw [← hfl] at HC
      clear htc T1 hplo hr hf1 hy1 g4 g5 g6 g7 g8 g9 hm hql h0 hfl hnl
      go_wp2_with fail
      refine HC.out.mono ?_
      rintro e z ⟨A', c', rfl, hA, hc, hbz⟩
      have TZ := Lib.hid (HT1.out.on hbz)
      have hrz := HP.out.2.1.on hbz
      have hfz : FeAt z pb po f1 := HP.out.2.2.1.keepB (hbz.block pb HP.out.2.1.lt)
      have hyz : ExT (Bsd S0 w.heap.size (.slice (some ⟨tb, 0, none⟩) m c)) z f1 y := HP.out.2.2.2.keep hbz.size fun k _ hl => hbz.block k hl
      have hAz := SlS.of_ow feC_length hA
      have hTE := Tdi.turnE (s := ⟨A', f1.sv.n, c'⟩) (by decide) TZ.out HP.out.1 hrz hfz hyz rfl hc.1 hc.2 (fun fs' hl' hs' => by
        have e := sl_one (fun _ _ => feC_inj) feC_length (by rw [hl', HFL.out]) hs'.sl ((HG.out.2.2.2.2.1.keep hbz.size fun k _ hl => hbz.block k hl).sl)
        rw [e]
        exact hAz.mono fun k _ hk => by
          have h2 : wr.heap.size ≤ k := hk
          have h3 := HT1.out.res.lt
          refine ⟨.inr (by omega), by omega, fun e' => ?_⟩
          have h1 := Option.some.inj e'
          simp at h1
          omega)
      have hq4 : z.cell? ⟨pb, po + 4, none⟩ = some (.slice f1.sv.A f1.sv.n f1.sv.c) := hfz.2.2.2.2
      have hfro := hrz.frozen (po + 4)
      have hplz := hrz.lt
      obtain ⟨Zs, hZs⟩ : ∃ u, z.setCell ⟨pb, po + 4, none⟩ (.slice A' f1.sv.n c') = u := ⟨_, rfl⟩
      rw [hZs] at hTE
      have HTE := Lib.hid hTE
      have HZ := Lib.hid hZs
      have kq4 : Zs.cell? ⟨pb, po + 4, none⟩ = some (.slice A' f1.sv.n c') := hTE.2.1.2.2.2.2
      have hplZ : pb < Zs.heap.size := by rw [← hZs]; simpa [World.setCell] using hplz
      obtain ⟨csZ, hrZ⟩ : ∃ cs', Row Zs pb 66 cs' := by rw [← hZs]; exact rows_set pb (po + 4) _ pb cs hrz
      have HKB := Lib.hid (show 0 < f1.sv.n → ∃ kb cs, A' = some ⟨kb, 0, none⟩ ∧ w.heap.size + 1 ≤ kb ∧ Row Zs kb 66 cs from fun h0 => by
        rw [HFL.out] at h0
        obtain ⟨kb, rfl, -, hkb, -, -, -, -⟩ := hA.head feC_length h0
        rcases hA.2 with ⟨h1, _⟩ | ⟨g, cap, cur, hv, hg, hh, _⟩
        · cases h1
        · injection hv with e1 e2 e3
          injection e1 with e1
          injection e1 with e1
          subst e1
          obtain ⟨cs', hr'⟩ := rows_set pb (po + 4) (.slice (some ⟨kb, 0, none⟩) f1.sv.n c') kb cur.toList (show Row z kb 66 cur.toList from hh)
          rw [hZs] at hr'
          exact ⟨kb, cs', rfl, by have := HT1.out.res.lt; omega, hr'⟩)
      have HRZ := Lib.hid hrZ
      clear hA hc hbz hrz hfz hyz hAz hTE hZs hrZ
      go_upto_region 7 with fail
      rw [HZ.out]
      go_wp2
      obtain ⟨nk, hnk⟩ : ∃ k, f1.sv.n = k := ⟨_, rfl⟩
      rw [hnk] at HTE HKB HFL HG kq4
      rw [hnk]
      have hnk2 : nk = y.kids.length := HG.out.1
      have HNK := Lib.hid hnk2
      have hnk3 : nk ≤ 1048576 := by rw [HFL.out]; exact hkl
      clear hnk hnk2 hq4 q4 tcell hfro hpl hplz htl HC HZ hkl
      go_loopg [4, 38] nk (fun g v jv wr => ∃ (j : Nat) (ps : List (Nat × Nat)) (A2 : Option Addr) (n2 c2 : Nat), g = nk - j ∧ j ≤ nk ∧ v = .slice A2 n2 c2 ∧ jv = .int .i64 j ∧ n2 = ps.length ∧ Tdi S0 nodE 66 83 zsE x w wr (.slice A2 n2 c2) ps (ys ++ y.kids.take j) ∧
        FeAt wr pb po ⟨f1.kind, f1.col, f1.val, ⟨A', nk, c'⟩⟩ ∧ ExT (Bsd S0 w.heap.size (.slice A2 n2 c2)) wr ⟨f1.kind, f1.col, f1.val, ⟨A', nk, c'⟩⟩ y ∧ (∃ cs, Row wr pb 66 cs) ∧ (0 < nk → ∃ kb cs, A' = some ⟨kb, 0, none⟩ ∧ w.heap.size + 1 ≤ kb ∧ Row wr kb 66 cs))
      case atStart => exact ⟨0, qs, _, _, _, by omega, by omega, rfl, rfl, HM.out.symm, by simpa using HTE.out.1, HTE.out.2.1, HTE.out.2.2, ⟨_, HRZ.out⟩, HKB.out⟩
      case round =>
        obtain ⟨j, ps, A2, n2, c2, rfl, hjn, rfl, rfl, hn2, hT2, hf2, hy2, ⟨cs2, hr2⟩, hkb2⟩ := hrel
        have k4 : wr.cell? ⟨pb, po + 4, none⟩ = some (.slice A' nk c') := hf2.2.2.2.2
        have hl2 := hr2.lt
        have HT2 := Lib.hid hT2
        by_cases hj : j < nk
        · obtain ⟨kb, cs3, rfl, hkl3, hr3⟩ := hkb2 (by omega)
          have H2 := Lib.hid (And.intro hf2 (And.intro hy2 (And.intro hr2 (And.intro hkl3 hr3))))
          have HN2 := Lib.hid hn2
          have hjI : (j : Int) < (nk : Int) := by omega
          have hj0 : (0 : Int) ≤ (j : Int) := by omega
          obtain ⟨U, hU⟩ : ∃ u, wr.alloc (.cells #[.pointer (some ⟨kb, j * 5, none⟩)] 83) = u := ⟨_, rfl⟩
          have bU : Below wr.heap.size wr U := by rw [← hU]; exact balloc (Below.refl _ _) _
          have TU := Lib.hid (HT2.out.on bU)
          have HSL := Lib.hid (show Sl 1 ptC U U.heap.size (some ⟨wr.heap.size, 0, none⟩) [(kb, j * 5)] by rw [← hU]; exact Row.sl' (t := 83) ptC_length ((Row.new wr _ _).of rfl))
          have HBU := Lib.hid bU
          have HU := Lib.hid hU
          clear hT2 hf2 hy2 hr2 hkb2 hkl3 hr3 bU hU hn2
          have hjk : j < y.kids.length := by have := HNK.out; omega
          have hpl2 : ps.length ≤ 2097152 := by
            have h1 := HT2.out.pend.1
            have h2 := HXS.out
            have h3 := exsN_len (ys ++ y.kids.take j)
            have h4 : exsN (ys ++ y.kids.take j) ≤ exsN (ys ++ [y]) := by
              rw [exsN_append, exsN_append, exsN_one, exN_eq]
              have h5 : exsN y.kids = exsN (y.kids.take j) + exsN (y.kids.drop j) := by rw [← exsN_append, List.take_append_drop]
              omega
            omega
          have HPL2 := Lib.hid hpl2
          have hszU := HBU.out.size
          clear hpl2
          go_upto_region 10 with fail
          go_wp2_with (at_builtin; rw [HU.out]; refine wpList_app2 rfl (.tmp 41) (.tmp 48) 91 rfl (w.heap.size + 2) 83 _ 1 8 ptC Try.underlying91 zeroPtE rfl (by decide) (by decide) ptC_length ptC_one (.slice A2 n2 c2) ps rfl TU.out.own (some ⟨wr.heap.size, 0, none⟩) 1 1 [(kb, j * 5)] rfl rfl HSL.out (by simp only [List.length_singleton]; have := HPL2.out; omega) (by have := TU.out.below.size; have h2 := TU.out.outR; obtain ⟨_, h3⟩ := h2; have h4 := h3.lt; have := HBU.out.size; have h6 := HT2.out.own.ty; omega) ?_; intro v' w' how hgr hob; obtain ⟨A3, c3, hv3, h31, h32, -⟩ := how.shape ptC_length; have hk9 := TU.out.kidE (by decide) (H2.out.1.keepB (HBU.out.block pb H2.out.2.2.1.lt)) rfl (H2.out.2.1.keep HBU.out.size fun k _ hl => HBU.out.block k hl) (H2.out.2.2.1.on HBU.out) H2.out.2.2.2.1 (H2.out.2.2.2.2.on HBU.out) hjk how hgr hob; have hln : (ps ++ [(kb, j * 5)]).length = ps.length + 1 := (by simp); rw [hln] at hv3; subst hv3; have HK9 := Lib.hid hk9; clear hk9 how hgr hob h31 h32)
          go_roundg (nk - (j + 1))
          case measure => omega
          case rel => exact ⟨j + 1, _, _, _, _, rfl, by omega, rfl, by go_num, by simp, HK9.out.1, HK9.out.2.1, HK9.out.2.2.1, HK9.out.2.2.2.1, fun _ => by obtain ⟨cs9, h9⟩ := HK9.out.2.2.2.2; exact ⟨kb, cs9, rfl, H2.out.2.2.2.1, h9⟩⟩
        · have HN2 := Lib.hid hn2
          clear hn2
          have hjI : ¬ (j : Int) < (nk : Int) := by omega
          obtain rfl : j = nk := by omega
          have HT3 := Lib.hid (show Tdi S0 nodE 66 83 zsE x w wr (.slice A2 n2 c2) ps (ys ++ y.kids) by
            have h1 := HT2.out
            rw [HNK.out, List.take_length] at h1
            exact h1)
          clear hT2 hf2 hy2 hr2 hkb2 k4 hl2
          go_wp2
          go_roundg (exsN (ys ++ y.kids))
          case measure =>
            rw [exsN_append, exsN_append, exsN_one, exN_eq]
            omega
          case rel => exact ⟨ps, _, _, _, _, rfl, rfl, HN2.out, by
            have h2 := HXS.out
            rw [exsN_append, exsN_one, exN_eq] at h2
            rw [exsN_append]
            omega, HT3.out⟩
    · obtain rfl : n = 0 := by omega
      obtain ⟨cs, hro⟩ := HT.out.outR
      obtain ⟨fo, hfo, hxo⟩ := HT.out.out
      have c0 : wr.cell? ⟨w.heap.size + 1, 0, none⟩ = some (.int .i64 fo.kind) := by simpa using hfo.1
      have c1 : wr.cell? ⟨w.heap.size + 1, 1, none⟩ = some (.int .i64 fo.col) := by simpa using hfo.2.1
      have c2 : wr.cell? ⟨w.heap.size + 1, 2, none⟩ = some (.bool fo.val.1) := by simpa using hfo.2.2.1
      have c3 : wr.cell? ⟨w.heap.size + 1, 3, none⟩ = some (.int .i64 fo.val.2) := by simpa using hfo.2.2.2.1
      have c4 : wr.cell? ⟨w.heap.size + 1, 4, none⟩ = some (.slice fo.sv.A fo.sv.n fo.sv.c) := by simpa using hfo.2.2.2.2
      have hlo := hro.lt
      have e0 := HT.out.res.cell 0
      have e1 := HT.out.res.cell 1
      have e2 := HT.out.res.cell 2
      have e3 := HT.out.res.cell 3
      have e4 := HT.out.res.cell 4
      unfold zsE at e0 e1 e2 e3 e4
      have f0 := HT.out.res.frozen 0
      have f1 := HT.out.res.frozen 1
      have f2 := HT.out.res.frozen 2
      have f3 := HT.out.res.frozen 3
      have f4 := HT.out.res.frozen 4
      have hlr := HT.out.res.lt
      have HXO := Lib.hid hxo
      clear hfo hxo hro h0 hnl
      go_wp2
      refine bodyPost_ret (v := feV fo) (by simp [results, Try.results41, go_sem, feV, e0, e1, e2, e3, e4]) rfl ?_
      have h5 := set5 wr w.heap.size (.int .i64 fo.kind) (.int .i64 fo.col) (.bool fo.val.1) (.int .i64 fo.val.2) (.slice fo.sv.A fo.sv.n fo.sv.c)
      have hX := (HXO.out.keep h5.size fun k hk hl => h5.block k hl hk.2.1).mono (T := fun k => S0 k ∨ w.heap.size ≤ k) fun k _ hk => hk.1
      exact ⟨fo, rfl, hX, Only.from_ HT.out.below rfl h5 fun i (hi : i = w.heap.size) => by omega⟩
end Go.Proofs.Ytcbfbgngkdiijaa
