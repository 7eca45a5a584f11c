/-
  Contracts: (*impl.Plan).at, impl.PlanAt.
-/
import Derived.Test.YtcbfbgngkdiijaaProg
import Derived.Test.YtcbfbgngkdiijaaPaD
import Derived.Test.YtcbfbgngkdiijaaCqP
namespace Go.Proofs.Ytcbfbgngkdiijaa
open Go.RowKit Go.Qo
set_option linter.unusedVariables false
set_option linter.unusedSimpArgs false

/-- A pointer to the part, or none. -/
def GotAt (S : Nat → Prop) (w : World) (o : Option Pl) (e : Ending) (w' : World) : Prop :=
  Below w.heap.size w w' ∧ ((o = none ∧ e = .returned (.pointer none)) ∨ ∃ y b k f, o = some y ∧ e = .returned (.pointer (some ⟨b, k, none⟩)) ∧ b < w.heap.size ∧ FpAt w b k f ∧ PlT S w f y)

set_option maxRecDepth 20000 in
set_option maxHeartbeats 4000000 in
theorem planAtPtr_ok (b o : Nat) (f : FP) (x : Pl) (A : Option Addr) (c : Nat) (is : List Int) (w : World) (hf : FpAt w b o f) (hb : b < w.heap.size) (S : Nat → Prop) (hx : PlT S w f x) (hs : Sl 1 intC w w.heap.size A is) (hl : is.length ≤ 8) :
    Calls Try.prog 21 #[.pointer (some ⟨b, o, none⟩), .slice A is.length c] w (GotAt S w (atP x is)) := by
  have HS := Lib.hid hs
  have H0 := Lib.hid (And.intro hf hx)
  have hlI : ¬ (8 : Int) < (is.length : Int) := by omega
  clear hf hx hs
  go_enter Try.func21, Try.ntmps21
  go_wp2
  go_loopg [0, 12] is.length (fun g pv iv wr => ∃ (i b' o' : Nat) (f' : FP) (y : Pl), i ≤ is.length ∧ g = is.length - i ∧ iv = .int .i64 i ∧ pv = .pointer (some ⟨b', o', none⟩) ∧ b' < w.heap.size ∧ FpAt w b' o' f' ∧ PlT S w f' y ∧ atP x is = atP y (is.drop i) ∧ Below w.heap.size w wr)
  case atStart => exact ⟨0, b, o, f, x, by omega, by omega, rfl, rfl, hb, H0.out.1, H0.out.2, by simp, Below.refl _ _⟩
  case round =>
    obtain ⟨i, b', o', f', y, hi, rfl, rfl, rfl, hb', hf', hy, hat, hbw⟩ := hrel
    have HB := Lib.hid hbw
    have HY := Lib.hid (And.intro hf' (And.intro hy hat))
    have q4 : wr.cell? ⟨b', o' + 4, none⟩ = some (.slice f'.ks.A f'.ks.n f'.ks.c) := (hbw.cell (p := ⟨b', o' + 4, none⟩) hb').trans hf'.2.2.2.2
    have hbz : b' < wr.heap.size := by have := hbw.size; omega
    obtain ⟨_, _, _, _, ⟨k5, _, _⟩, _⟩ := hy.flat
    have HK5 := Lib.hid k5
    clear hf' hy hat hbw k5
    by_cases hlt : i < is.length
    · have hiI : (i : Int) < (is.length : Int) := by omega
      have hi0 : (0 : Int) ≤ (i : Int) := by omega
      obtain ⟨ab, ao, rfl, hab, hac⟩ := HS.out.at1 (f := fun n => .int .i64 n) hlt
      have ai : wr.cell? ⟨ab, ao + i, none⟩ = some (.int .i64 is[i]) := (HB.out.cell (p := ⟨ab, ao + i, none⟩) hab).trans hac
      have habz : ab < wr.heap.size := by have := HB.out.size; omega
      obtain ⟨k, hk⟩ : ∃ k, is[i] = k := ⟨_, rfl⟩
      rw [hk] at ai
      have hdr : is.drop i = k :: is.drop (i + 1) := by rw [List.drop_eq_getElem_cons hlt, hk]
      have HDR := Lib.hid hdr
      clear hac hdr hk
      by_cases hneg : k < 0
      · go_wp2
        go_ret
        refine ⟨HB.out, .inl ⟨?_, rfl⟩⟩
        rw [HY.out.2.2, HDR.out]
        exact atP_no (.inl hneg)
      · obtain ⟨kk, rfl⟩ := Int.eq_ofNat_of_zero_le (show 0 ≤ k by omega)
        by_cases hge : kk < y.kids.length
        · obtain ⟨kb, ko, g, hA, hkb, hg, hgx⟩ := HY.out.2.1.kid hge
          have hkn : (kk : Int) < (f'.ks.n : Int) := by rw [HK5.out]; omega
          have hge' : ¬ (f'.ks.n : Int) ≤ (kk : Int) := by omega
          have hk0 : (0 : Int) ≤ (kk : Int) := by omega
          rw [hA] at q4
          have HG := Lib.hid (And.intro hg hgx)
          clear hA hg hgx
          go_wp2
          go_roundg (is.length - (i + 1))
          case measure => omega
          case rel => exact ⟨i + 1, kb, ko + kk * 5, g, y.kids[kk], by omega, rfl, by go_num, rfl, hkb, HG.out.1, HG.out.2, by rw [HY.out.2.2, HDR.out, atP_yes rfl hge], HB.out⟩
        · have hge' : (f'.ks.n : Int) ≤ (kk : Int) := by rw [HK5.out]; omega
          go_wp2
          go_ret
          refine ⟨HB.out, .inl ⟨?_, rfl⟩⟩
          rw [HY.out.2.2, HDR.out]
          exact atP_no (.inr (by omega))
    · obtain rfl : i = is.length := by omega
      have hiI : ¬ (is.length : Int) < (is.length : Int) := by omega
      go_wp2
      go_ret
      refine ⟨HB.out, .inr ⟨y, b', o', f', ?_, rfl, hb', HY.out.1, HY.out.2.1⟩⟩
      rw [HY.out.2.2, List.drop_length]
      rfl

/-- What PlanAt hands back. -/
def PaRes (S : Nat → Prop) (w : World) (x : Pl) (is : List Int) (e : Ending) (w' : World) : Prop :=
  ∃ g, e = .returned (.tuple #[fpV g, .bool (atP x is).isSome]) ∧ PlT (fun k => S k ∨ w.heap.size ≤ k) w' g (resP (atP x is)) ∧ Below w.heap.size w w'

set_option maxRecDepth 20000 in
set_option maxHeartbeats 4000000 in
theorem implPlanAt_ok (f : FP) (x : Pl) (A : Option Addr) (c : Nat) (is : List Int) (w : World) (S : Nat → Prop) (hx : PlT S w f x) (hn : plN x ≤ 1048576) (hs : Sl 1 intC w w.heap.size A is) (hl : is.length ≤ 8) :
    Calls Try.prog 9 #[fpV f, .slice A is.length c] w (PaRes S w x is) := by
  obtain ⟨W1, hW1⟩ : ∃ z, ((w.alloc (.cells #[.int .i64 f.kind, .int .i64 f.table, .slice f.es.A f.es.n f.es.c, .slice f.cs.A f.cs.n f.cs.c, .slice f.ks.A f.ks.n f.ks.c] 27)).alloc (.cells #[.int .i64 0, .int .i64 0, .slice none 0 0, .slice none 0 0, .slice none 0 0] 27)) = z := ⟨_, rfl⟩
  have B1 : Below w.heap.size w W1 := by rw [← hW1]; exact balloc (balloc (Below.refl _ _) _) _
  have r1 : Row W1 w.heap.size 27 (fpC f) := by rw [← hW1]; exact (Row.first _ _ _ _).of rfl
  have r2 : Row W1 (w.heap.size + 1) 27 [.int .i64 0, .int .i64 0, .slice none 0 0, .slice none 0 0, .slice none 0 0] := by rw [← hW1]; exact Row.second _ _ _ _
  have hs1 : W1.heap.size = w.heap.size + 2 := by rw [← hW1]; simp
  have hf1 : FpAt W1 w.heap.size 0 f := ⟨r1.cell 0, r1.cell 1, r1.cell 2, r1.cell 3, r1.cell 4⟩
  have hx1 : PlT (fun k => S k ∧ k < w.heap.size) W1 f x := (hx.mono fun k hk h => ⟨h, hk⟩).keep B1.size fun k hk hl => B1.block k hk.2
  have HA := Lib.hid (planAtPtr_ok w.heap.size 0 f x A c is W1 hf1 (by omega) _ hx1 (hs.on B1) hl)
  have HB1 := Lib.hid B1
  have Hr2 := Lib.hid r2
  have Hs1 := Lib.hid hs1
  have HN := Lib.hid hn
  have HW1 := Lib.hid hW1
  unfold fpV
  clear hW1 B1 r1 r2 hs1 hf1 hx1 hx hs hl hn
  go_enter Try.func9, Try.ntmps9
  go_upto_region 1 with fail
  rw [HW1.out]
  go_wp2_with fail
  refine HA.out.mono ?_
  rintro e w2 ⟨hb2, h2⟩
  have rr := Hr2.out.on hb2
  have hlr := rr.lt
  have e0 := rr.cell 0
  have e1 := rr.cell 1
  have e2 := rr.cell 2
  have e3 := rr.cell 3
  have e4 := rr.cell 4
  have f0 := rr.frozen 0
  have f1 := rr.frozen 1
  have f2 := rr.frozen 2
  have f3 := rr.frozen 3
  have f4 := rr.frozen 4
  have HB2 := Lib.hid hb2
  rcases h2 with ⟨hno, rfl⟩ | ⟨y, b', o', g, hyes, rfl, hb', hg, hgx⟩
  · have HNO := Lib.hid hno
    clear rr hb2 hno
    go_wp2
    refine bodyPost_ret (v := .tuple #[fpV zeroFP, .bool false]) (by simp [results, Try.results9, go_sem, fpV, zeroFP, e0, e1, e2, e3, e4]) rfl ?_
    have h5 := set5 w2 (w.heap.size + 1) (.int .i64 0) (.int .i64 0) (.slice none 0 0) (.slice none 0 0) (.slice none 0 0)
    refine ⟨zeroFP, by rw [HNO.out]; rfl, by rw [HNO.out]; exact plT_zero, Only.from_ (bch HB1.out HB2.out) rfl h5 fun i (hi : i = w.heap.size + 1) => by omega⟩
  · have HY := Lib.hid hyes
    have hn2 : plN y ≤ 1048576 := Nat.le_trans (atP_le _ _ _ hyes) HN.out
    have hgb := hg.keepB (hb2.block b' hb')
    have HC := Lib.hid (planCopied_ok b' o' g y w2 hgb (by have := hb2.size; omega) (fun k => S k ∧ k < w.heap.size) (hgx.keep hb2.size fun k _ hl => hb2.block k hl) hn2)
    have Hrr := Lib.hid rr
    clear rr hb2 hyes hg hgx hn2 hgb hb' e0 e1 e2 e3 e4 f0 f1 f2 f3 f4 hlr
    go_wp2_with fail
    refine HC.out.mono ?_
    rintro e w3 ⟨g', rfl, hgx, hb3⟩
    have rr := Hrr.out.on hb3
    have hlr := rr.lt
    have e0 := rr.cell 0
    have e1 := rr.cell 1
    have e2 := rr.cell 2
    have e3 := rr.cell 3
    have e4 := rr.cell 4
    have f0 := rr.frozen 0
    have f1 := rr.frozen 1
    have f2 := rr.frozen 2
    have f3 := rr.frozen 3
    have f4 := rr.frozen 4
    have HG := Lib.hid (And.intro hgx hb3)
    unfold fpV
    clear rr hgx hb3
    go_wp2
    refine bodyPost_ret (v := .tuple #[fpV g', .bool true]) (by simp [results, Try.results9, go_sem, fpV, e0, e1, e2, e3, e4]) rfl ?_
    have h5 := set5 w3 (w.heap.size + 1) (.int .i64 g'.kind) (.int .i64 g'.table) (.slice g'.es.A g'.es.n g'.es.c) (.slice g'.cs.A g'.cs.n g'.cs.c) (.slice g'.ks.A g'.ks.n g'.ks.c)
    refine ⟨g', by rw [HY.out]; rfl, ?_, Only.from_ (bch (bch HB1.out HB2.out) HG.out.2) rfl h5 fun i (hi : i = w.heap.size + 1) => by omega⟩
    rw [HY.out]
    refine (HG.out.1.keep h5.size fun k hk hl => h5.block k hl fun (e : k = w.heap.size + 1) => ?_).mono fun k _ hk => ?_
    · have h1 := HB2.out.size
      have h2 := Hs1.out
      rcases hk with hk | hk
      · have := hk.2; omega
      · omega
    · have h1 := HB2.out.size
      have h2 := Hs1.out
      rcases hk with hk | hk
      · exact .inl hk.1
      · exact .inr (by omega)
end Go.Proofs.Ytcbfbgngkdiijaa
