/-
  Contract: DrawCheapestPlan.
-/
import Derived.Test.YtnecmacjlggkeaaProg
import Derived.Test.YtnecmacjlggkeaaDrE
namespace Go.Proofs.Ytnecmacjlggkeaa
open Go.RowKit Go.Qo
set_option linter.unusedVariables false
set_option linter.unusedSimpArgs false

theorem apC_le : apC ≤ 9000 := by decide
/-- What DrawCheapestPlan hands back. -/
def GotCP (w : World) (e : Ending) (w' : World) : Prop := ∃ (A : Option Addr) (m c : Nat) (ps : List Pl) (A2 : Option Addr) (m2 c2 : Nat) (fs : List FS) (ss : List St), e = .returned (.tuple #[.slice A m c, .slice A2 m2 c2]) ∧ ps.length = m ∧ m ≤ 21 ∧ PlsT (fun k => w.heap.size ≤ k) w' A ps ∧ Ow w.heap.size 33 3 fsC w' (.slice A2 m2 c2) fs ∧ StsT w.heap.size w' fs ss ∧ ss.length = m2 ∧ m2 ≤ 3 ∧ (∀ s ∈ ss, StSm s) ∧ Below w.heap.size w w'
set_option maxRecDepth 20000 in
set_option maxHeartbeats 4000000 in
theorem drawCheapestPlan_ok (A : Option Addr) (c : Nat) (xs : List Int) (w : World) (hn : xs.length ≤ c) (hc : c ≤ maxLen) (hg : ∀ x ∈ xs, 0 ≤ x ∧ x ≤ 255) (hs : Sl 1 byteC w w.heap.size A xs) :
    Calls Try.prog 18 #[.slice A xs.length c] w (GotCP w) := by
  obtain ⟨b, hb⟩ : ∃ b, w.heap.size = b := ⟨_, rfl⟩
  have HN := Lib.hid (newReader_ok A c xs w hn hc hg hs)
  have Hb := Lib.hid hb
  have Hap := Lib.hid apC_le
  rw [hb] at HN
  clear hn hc hg hs hb
  go_enter Try.func18, Try.ntmps18
  go_wp2_with fail
  refine HN.out.mono ?_
  rintro e w1 ⟨rfl, hb1, hR1⟩
  rw [← Hb.out] at hb1
  have HWS := Lib.hid (randomWidths_ok b 0 w1 hR1 (by omega))
  have HB1 := Lib.hid hb1
  have hbl1 := hR1.lt
  clear hb1 hR1
  go_wp2_with fail
  refine HWS.out.mono ?_
  rintro e w2 ⟨v, ws, rfl, hwl, hwr, how, hb2, hR2⟩
  obtain ⟨A2, d2, rfl, hc21, hc22, hs2⟩ := how.shape intC_length
  obtain ⟨W3, hW3⟩ : ∃ z, w2.alloc (.cells #[] 27) = z := ⟨_, rfl⟩
  obtain ⟨W4, hW4⟩ : ∃ z, W3.alloc (.cells #[.int .i64 0, .int .i64 1, .int .i64 2, .int .i64 3, .int .i64 4, .int .i64 21] 3) = z := ⟨_, rfl⟩
  have b3 : Below w2.heap.size w2 W3 := by rw [← hW3]; exact balloc (Below.refl _ _) _
  have b4 : Below W3.heap.size W3 W4 := by rw [← hW4]; exact balloc (Below.refl _ _) _
  have hz12 := hb2.size
  have hz3 : W3.heap.size = w2.heap.size + 1 := by rw [← hW3]; simp
  have HP4 := Lib.hid (show KdsP w1.heap.size W4 (.slice (some ⟨w2.heap.size, 0, none⟩) 0 0) [] from ⟨[], rfl, (show Ow w1.heap.size 27 5 fpC W3 (.slice (some ⟨w2.heap.size, 0, none⟩) 0 0) ([] : List FP) by rw [← hW3]; exact Ow.lit (xs := ([] : List FP)) rfl rfl (by omega) (by decide)).on b4, fun i g x h _ => by simp at h⟩)
  have HS4 := Lib.hid (show Sl 1 intC W4 W4.heap.size (some ⟨W3.heap.size, 0, none⟩) [0, 1, 2, 3, 4, 21] by rw [← hW4]; exact Row.sl' (t := 3) intC_length ((Row.new W3 _ _).of rfl))
  have HO4 := Lib.hid ((how.on b3).on b4)
  have HB4 := Lib.hid ((hb2.below b3).below b4)
  have Hap4 := Lib.hid (show ∀ q, (Value.slice (some ⟨w2.heap.size, 0, none⟩) 0 0).ownBlock = some q → (Value.slice A2 ws.length d2).ownBlock ≠ some q from fun q hq e => by
    have h1 := (how.ty q e).2.1
    have h2 : some w2.heap.size = some q := hq
    injection h2
    omega)
  have HR4 := Lib.hid ((hR2.on b3).on b4)
  have Hwl := Lib.hid (And.intro hwl hwr)
  have h2b : b < w2.heap.size := by omega
  have HW3 := Lib.hid hW3
  have HW4 := Lib.hid hW4
  obtain ⟨wn, hwn⟩ : ∃ n, ws.length = n := ⟨_, rfl⟩
  have Hwn := Lib.hid hwn
  obtain ⟨hwl2, hwl3⟩ := hwl
  clear hwr how hb2 hR2 hs2 hW3 hW4 b3 b4 hz12 hwn hc21 hc22
  have HON := Lib.hid (show Calls Try.prog 34 #[.pointer (some ⟨b, 0, none⟩), .slice (some ⟨W3.heap.size, 0, none⟩) 6 6] W4 _ from one_ok b 4 (some ⟨W3.heap.size, 0, none⟩) 6 [0, 1, 2, 3, 4, 21] W4 HR4.out (by omega) (by decide) (by decide) HS4.out (fun a ha => by cases ha; show W3.heap.size ≠ b; omega))
  clear hz3
  go_upto_region 4 with fail
  rw [HW3.out]
  go_wp2_with fail
  rw [HW4.out]
  refine HON.out.mono ?_
  rintro e w5 ⟨k, rfl, hk, hb5, hsz5, hR5⟩
  obtain ⟨kn, rfl, hkn⟩ : ∃ n : Nat, k = n ∧ n ≤ 21 := by
    simp only [List.mem_cons, List.not_mem_nil, or_false] at hk
    exact ⟨k.toNat, by omega, by omega⟩
  have HP5 := Lib.hid (HP4.out.only hb5 fun i (hi : i = b) => by omega)
  have HO5 := Lib.hid (HO4.out.only hb5 fun i (hi : i = b) => .inl (by omega))
  have HB5 := Lib.hid (HB4.out.trans hb5)
  have HR5 := Lib.hid hR5
  clear hk hb5 hsz5 hR5
  go_wp2
  go_loopg [6, 7] kn (fun g ov nv wr => ∃ (i : Nat) (ps : List Pl) (pp : Nat), i = g ∧ i ≤ 21 ∧ nv = .int .i64 i ∧ ps.length + i ≤ 21 ∧ KdsP w1.heap.size wr ov ps ∧ Ow w1.heap.size 3 1 intC wr (.slice A2 ws.length d2) ws ∧ But b w1 wr ∧ Rd wr b pp ∧ pp + i * 9000 ≤ 300000 ∧ ∀ q, ov.ownBlock = some q → (Value.slice A2 ws.length d2).ownBlock ≠ some q)
  case atStart => exact ⟨kn, [], 4 + 1, rfl, hkn, rfl, by simpa using hkn, HP5.out, HO5.out, HB5.out, HR5.out, by omega, Hap4.out⟩
  case round =>
    obtain ⟨i, ps, pp, rfl, hi, rfl, hpl, hkd, ho, hb, hr, hpp, hapt⟩ := hrel
    obtain ⟨Ap, cp, rfl, hcp1, hcp2⟩ := hkd.shape
    have HH := Lib.hid (And.intro hkd (And.intro ho (And.intro hb hr)))
    have HT := Lib.hid hapt
    have hz1 := hb.size
    clear hkd ho hb hr hapt
    by_cases hi0 : 0 < i
    · have hiI : (0 : Int) < (i : Int) := by omega
      have HAP := Lib.hid (anyPlan_ok b pp A2 d2 ws wr HH.out.2.2.2 (by have := Hap.out; omega) ((SlS.of_ow intC_length HH.out.2.1).mono fun k _ hk => by omega) (fun y hy => by have := Hwl.out.2 y hy; omega) (by omega))
      go_wp2_with fail
      refine HAP.out.mono ?_
      rintro e w6 ⟨pf, px, rfl, hx, hb6, hR6⟩
      unfold fpV
      obtain ⟨U, hU⟩ : ∃ z, w6.alloc (.cells #[.int .i64 pf.kind, .int .i64 pf.table, .slice pf.es.A pf.es.n pf.es.c, .slice pf.cs.A pf.cs.n pf.cs.c, .slice pf.ks.A pf.ks.n pf.ks.c] 27) = z := ⟨_, rfl⟩
      have hbu : Below w6.heap.size w6 U := by rw [← hU]; exact balloc (Below.refl _ _) _
      have hk6 := (HH.out.1.only hb6 (fun i (hi : i = b) => by omega)).only (only_below (S := fun _ => False) hbu) (fun i hi => hi.elim)
      obtain ⟨fs, hfl, how, hfx⟩ := hk6
      obtain ⟨fs0, hfl0, how0, _⟩ := HH.out.1
      have hz6 := hb6.size
      have hzu := hbu.size
      have hX := Lib.hid ((hx.keep (w' := U) hbu.size fun k _ hl => hbu.block k hl).mono (T := fun k => w1.heap.size ≤ k ∧ (Value.slice Ap ps.length cp).ownBlock ≠ some k) fun k hk1 hk => by
        refine ⟨by omega, fun e => ?_⟩
        have := (how0.ty k e).2.1
        omega)
      have HS := Lib.hid (show Sl 5 fpC U U.heap.size (some ⟨w6.heap.size, 0, none⟩) [pf] by rw [← hU]; exact Row.sl' (t := 27) fpC_length ((Row.new w6 _ _).of rfl))
      have HO6 := Lib.hid ((HH.out.2.1.only hb6 fun i (hi : i = b) => .inl (by omega)).on hbu)
      have HB6 := Lib.hid ((HH.out.2.2.1.trans hb6).below hbu)
      have HR6 := Lib.hid (hR6.on hbu)
      have HW := Lib.hid how
      have HFX := Lib.hid (And.intro hfl hfx)
      have hfle : fs.length ≤ 21 := by omega
      have hbU : w1.heap.size ≤ U.heap.size := by omega
      have HU := Lib.hid hU
      clear hU hbu hx hb6 hR6 how hfx hfl hfl0 how0 hz6 hzu
      go_wp2_with (at_builtin; rw [HU.out]; refine wpList_app3 rfl (.tmp 20) (.tmp 24) 25 rfl w1.heap.size 27 _ 5 88 fpC Try.underlying25 zeroPlT rfl (by decide) (by decide) fpC_length fpC_one _ fs rfl HW.out (some ⟨w6.heap.size, 0, none⟩) 1 1 [pf] rfl rfl HS.out (by simp; omega) hbU ?_; intro v' w7 hown hgr hob)
      obtain ⟨m, rfl⟩ : ∃ m', i = m' + 1 := ⟨i - 1, by omega⟩
      go_roundg m
      case measure => omega
      case rel =>
        have K3 := KdsP.snoc HFX.out.1 (fun i g y hg hy => HFX.out.2 i g y hg hy) hX.out hown hgr hob
        have hap := Hap.out
        have hgb : ∀ k, (Value.slice Ap ps.length cp).ownBlock = some k → w1.heap.size ≤ k := fun k hk => (HW.out.ty k hk).1
        refine ⟨m, ps ++ [px], pp + apC, rfl, by omega, by go_num, by simp; omega, K3, ?_, HB6.out.grown hgr fun k hk => .inr (by have := hgb k hk; omega), HR6.out.grown hgr fun k hk => by have := hgb k hk; omega, by omega, ?_⟩
        · exact HO6.out.apart2 (S := fun q => (Value.slice Ap ps.length cp).ownBlock = some q) ((Only.refl (S := fun q => (Value.slice Ap ps.length cp).ownBlock = some q) U).grown hgr fun q e => .inl e) (fun q hq hS => HT.out q hS hq)
        · intro q hq e
          rcases hob with h1 | h1
          · exact HT.out q (h1 ▸ hq) e
          · have := (HO6.out.ty q e).2.1
            rw [h1] at hq
            cases hq
            omega
    · have hiI : ¬ (0 : Int) < (i : Int) := by omega
      have HSF := Lib.hid (statsFor_ok b pp w1.heap.size A2 d2 ws wr HH.out.2.2.2 (by omega) (by omega) (by omega) (ow_slT intC_length HH.out.2.1) ⟨by omega, by omega⟩ (fun y hy => by have := Hwl.out.2 y hy; omega))
      go_wp2_with fail
      refine HSF.out.mono ?_
      rintro e w6 ⟨As, cs, fs, ss, rfl, hos, hst, hsl, hsm, hb6, hR6⟩
      have hkd := (HH.out.1.only hb6 fun i (hi : i = b) => by omega).exs
      have hbb := HH.out.2.2.1.trans hb6
      have HF := Lib.hid (show GotCP w (.returned (.tuple #[.slice Ap ps.length cp, .slice As ws.length cs])) w6 from
        ⟨Ap, ps.length, cp, ps, As, ws.length, cs, fs, ss, rfl, rfl, by omega, PlsT.mono hkd (fun k _ hk => by have := HB1.out.size; omega), hos.low (by have := HB1.out.size; omega), ⟨hst.1, fun i f s hf hs => (hst.2 i f s hf hs).low (by have := HB1.out.size; omega)⟩, hsl, by omega, hsm, Only.from_ HB1.out rfl hbb fun i (hi : i = b) => by have := Hb.out; omega⟩)
      clear hos hst hsl hsm hb6 hR6 hkd hbb
      go_wp2
      go_ret2
      exact HF.out
end Go.Proofs.Ytnecmacjlggkeaa
