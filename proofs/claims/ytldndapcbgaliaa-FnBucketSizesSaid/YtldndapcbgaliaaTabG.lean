/-
  Contracts of the drawing of tables and keys: randomTable, someKeys.
-/
import Derived.Test.YtldndapcbgaliaaProg
import Derived.Test.YtldndapcbgaliaaTof
namespace Go.Proofs.Ytldndapcbgaliaa
open Go.RowKit Go.Qo
set_option linter.unusedVariables false
set_option linter.unusedSimpArgs false

/-- A drawn table: rows built of some valid rows. -/
def GotTab (W : Int) (most : Nat) (b p : Nat) (w : World) (e : Ending) (w' : World) : Prop :=
  ∃ (v : Value) (svs : List SV) (rows out : List Row1), e = .returned (.agg #[.int .i64 W, v]) ∧ rows.length ≤ most ∧ (∀ r ∈ rows, r.length = W.toNat ∧ ∀ x ∈ r, vValid x = true) ∧ Built rows out ∧ Ow w.heap.size 41 1 svC w' v svs ∧ RowsT 40 2 valC w.heap.size w' svs out ∧ But b w w' ∧ Rd w' b p
theorem resTabG {b : Nat} {v0 v1 : Value} (tmps : Array Value) (hp : tmps.getD 6 undef = .pointer (some ⟨b, 0, none⟩)) (w : World) (c0 : w.cell? ⟨b, 0, none⟩ = some v0) (c1 : w.cell? ⟨b, 1, none⟩ = some v1) :
    (results Try.f97 tmps).run Try.prog w = .ok (.agg #[v0, v1]) w := by
  simp only [Array.getD_eq_getD_getElem?] at hp
  simp [results, Try.results97, go_sem, hp, c0, c1]

set_option maxRecDepth 20000 in
set_option maxHeartbeats 1000000 in
theorem randomTable_ok (b p : Nat) (W most : Int) (w : World) (h : Rd w b p) (hp : p + 32000 ≤ 1099511627776) (hW : W ≤ 16) (hm0 : 0 ≤ most) (hm : most ≤ 400) :
    Calls Try.prog 97 #[.pointer (some ⟨b, 0, none⟩), .int .i64 W, .int .i64 most] w (GotTab W most.toNat b (p + 16001) w) := by
  have hlt := h.lt
  have HP := Lib.hid (fun (z : World) (hz : Below w.heap.size w z) => pick_ok b p (most + 1) z (h.on hz) (by omega))
  clear h
  go_enter Try.func97, Try.ntmps97
  go_wp2_with fail
  refine (HP.out _ (balloc (balloc (Below.refl _ _) _) _)).mono ?_
  rintro e w1 ⟨n0, rfl, hr, hb1, hsz, hR1⟩
  have hn0 := hr.1
  have hn1 := hr.2.1 (by omega)
  obtain ⟨n, rfl⟩ := Int.eq_ofNat_of_zero_le hn0
  have hrow := ((Row.first w 25 #[.int .i64 0, .slice none 0 0] (.cells #[] 41)).only hb1 (by omega))
  have hO0 : Ow w.heap.size 41 1 svC w1 (.slice (some ⟨w.heap.size + 1, 0, none⟩) 0 0) ([] : List SV) := by
    have h0 := (Ow.lit (w := w.alloc (.cells #[.int .i64 0, .slice none 0 0] 25)) (lo := w.heap.size) (e := 41) (enc := svC) (xs := ([] : List SV)) (cs := #[]) (sz := 1) rfl rfl (by simp) (by decide))
    simp only [World.size_alloc] at h0
    exact h0.only hb1 fun k hk => .inl (by omega)
  have HB1 := Lib.hid (((Only.refl (S := fun k => k = b) w).alloc (.cells #[.int .i64 0, .slice none 0 0] 25)).alloc (.cells #[] 41) |>.trans hb1)
  have HH := Lib.hid (And.intro hrow (And.intro hO0 hR1))
  clear hb1 hsz hR1 hrow hO0 hr
  go_wp2
  go_loopg [7, 8] n (fun k v i wr => ∃ (svs : List SV) (rows : List Row1), k + rows.length = n ∧ i = .int .i64 k ∧ But b w wr ∧ Row wr w.heap.size 25 [.int .i64 0, .slice none 0 0] ∧ Ow w.heap.size 41 1 svC wr v svs ∧ RowsT 40 2 valC w.heap.size wr svs rows ∧ (∀ r ∈ rows, r.length = W.toNat ∧ ∀ x ∈ r, vValid x = true) ∧ Rd wr b (p + 1 + 32 * rows.length))
  case atStart => exact ⟨[], [], by simp, rfl, HB1.out, HH.out.1.of rfl, HH.out.2.1, RowsT.nil, by simp, HH.out.2.2⟩
  case round =>
    obtain ⟨svs, rows, hkn, rfl, hb, hres, how, hrt, hok, hR⟩ := hrel
    have hsz := hb.size
    have HB := Lib.hid (And.intro hb (And.intro hres (And.intro how (And.intro hrt (And.intro hok hR)))))
    clear hb hres how hrt hok
    have hgk : ∃ k, k = gk := ⟨_, rfl⟩
    obtain ⟨k, hgk⟩ := hgk
    subst hgk
    rcases Nat.eq_zero_or_pos k with h0 | h0
    · subst h0
      obtain ⟨A', c', rfl, hc1, hc2, hs⟩ := HB.out.2.2.1.shape svC_length
      have hsl := HB.out.2.2.2.1.1
      have HT := Lib.hid (tableOf_ok w.heap.size W A' c' svs rows wr hsz (by omega) (fun r hr => by have := (HB.out.2.2.2.2.1 r hr).1; omega) hs.sl HB.out.2.2.2.1)
      rw [← hsl] at HT
      have HL := Lib.hid (And.intro hsl hkn)
      have hres := HB.out.2.1
      have hl0 := hres.lt
      clear hs hc1 hc2 hsl hkn
      go_wp2_with fail
      refine HT.out.mono ?_
      rintro e w2 ⟨v2, svs2, out, rfl, hbt, how2, hrt2, hb2⟩
      obtain ⟨A2, c2, rfl, hc1, hc2, hs⟩ := how2.shape svC_length
      have hres2 := hres.on hb2
      have r0 : w2.cell? ⟨w.heap.size, 0, none⟩ = some (.int .i64 0) := hres2.cell 0
      have r1 : w2.cell? ⟨w.heap.size, 1, none⟩ = some (.slice none 0 0) := hres2.cell 1
      have f0 := hres2.frozen 0
      have f1 := hres2.frozen 1
      have HB2 := Lib.hid (And.intro hbt (And.intro how2 (And.intro hrt2 (And.intro hb2 hres2))))
      clear hbt how2 hrt2 hb2 hres2 hres hs hc1 hc2
      go_wp2
      refine bodyPost_ret (resTabG (b := w.heap.size) _ rfl _ (v0 := .int .i64 W) (v1 := .slice A2 svs2.length c2) (by simp [go_sem, r0, r1]) (by simp [go_sem, r0, r1])) rfl ?_
      obtain ⟨hbt, how2, hrt2, hb2, hres2⟩ := HB2.out
      have hr4 : rows.length ≤ 400 := by have := HL.out.2; omega
      rw [if_pos hr4] at hbt
      have hS0 := (Only.set (S := fun i => i = w.heap.size) (p := ⟨w.heap.size, 0, none⟩) (Only.refl w2) (.inl rfl) (.int .i64 W)).set (p := ⟨w.heap.size, 1, none⟩) (.inl rfl) (.slice A2 svs2.length c2)
      refine ⟨_, svs2, rows, out, rfl, by have := HL.out.2; omega, HB.out.2.2.2.2.1, hbt, (how2.only hS0 fun b hb => .inl (by subst hb; exact hl0)).low hsz, hrt2.only hS0 fun b hb => .inr ⟨25, by decide, by subst hb; exact hres2.ty⟩, ?_, ?_⟩
      · exact ((HB.out.1.below hb2).set (p := ⟨_, _, none⟩) (.inr (Nat.le_refl _)) _).set (p := ⟨_, _, none⟩) (.inr (Nat.le_refl _)) _
      · exact ((((HB.out.2.2.2.2.2.on hb2)).set (a := ⟨_, _, none⟩) hlt _).set (a := ⟨_, _, none⟩) hlt _).mono (by have := HL.out.2; omega)
    · have hk0 : (0 : Int) < (k : Int) := by omega
      have hk4 : k ≤ 400 := by omega
      have HV := Lib.hid (randomRow_ok b (p + 1 + 32 * rows.length) W wr hR (by omega) hW)
      have HKN := Lib.hid hkn
      have hr4 : rows.length ≤ 400 := by omega
      clear hR hkn
      go_wp2_with fail
      refine HV.out.mono ?_
      rintro e w2 ⟨v1, xs, rfl, hxl, hxv, how1, hb1, hR1⟩
      obtain ⟨A1, c1, rfl, hc11, hc12, hs1⟩ := how1.shape valC_length
      have hz1 := hb1.size
      have HO1 := Lib.hid ((HB.out.2.2.1.only hb1 (by intro k hk; left; omega)).on (balloc (Below.refl _ _) (.cells #[.slice A1 xs.length c1] 41)))
      have HT1 := Lib.hid ((HB.out.2.2.2.1.only hb1 (by intro k hk; left; omega)).on (balloc (Below.refl _ _) (.cells #[.slice A1 xs.length c1] 41)))
      have HX1 := Lib.hid (hs1.on (balloc (Below.refl _ _) (.cells #[.slice A1 xs.length c1] 41)))
      have HS1 := Lib.hid (Row.sl' (w := w2.alloc (.cells #[.slice A1 xs.length c1] 41)) (t := 41) (xs := [(⟨A1, xs.length, c1⟩ : SV)]) svC_length ((Row.new w2 _ _).of rfl))
      have hres1 := Lib.hid ((HB.out.2.1.only hb1 (by omega)).alloc (.cells #[.slice A1 xs.length c1] 41))
      have HF := Lib.hid (And.intro hxl (And.intro hxv (And.intro hb1 (And.intro hR1 (And.intro hc11 hc12)))))
      have hsv4 : svs.length ≤ 400 := by have := HB.out.2.2.2.1.1; omega
      have hsz2 : w.heap.size ≤ (w2.alloc (.cells #[.slice A1 xs.length c1] 41)).heap.size := by simp; omega
      clear hs1 how1 hb1 hR1 hxl hxv hc11 hc12
      go_wp2_with (at_builtin; refine wpList_app rfl (.tmp 18) (.tmp 22) 23 rfl w.heap.size 41 _ 1 24 svC Try.underlying23 zeroRow rfl (by decide) (by decide) svC_length svC_one _ svs rfl HO1.out (some ⟨w2.heap.size, 0, none⟩) 1 1 [(⟨A1, xs.length, c1⟩ : SV)] rfl rfl HS1.out (by simp <;> omega) hsz2 ?_; intro v3 w4 how3 hgr3)
      go_roundg (k - 1)
      case measure => omega
      case rel =>
        obtain ⟨hxl, hxv, hb1, hR1, hc11, hc12⟩ := HF.out
        have hrow : ∀ q, Value.ownBlock _ = some q → w.heap.size ≤ q ∧ TyAt _ q 41 := fun q hq => ⟨(HO1.out.ty q hq).1, (HO1.out.ty q hq).2.2⟩
        refine ⟨svs ++ [⟨A1, xs.length, c1⟩], rows ++ [xs], by have := HKN.out; simp; omega, congrArg (Value.int IntKind.i64) (by omega), ?_, ?_, how3, ?_, ?_, ?_⟩
        · exact ((HB.out.1.trans hb1).alloc _).grown hgr3 fun q hq => .inr (hrow q hq).1
        · exact hres1.out.keep (hgr3.block _ hres1.out.lt fun e => (TyAt.ne (hrow _ e.symm).2 hres1.out.ty (by decide)) rfl)
        · exact (HT1.out.grown hgr3 fun q hq => .inr ⟨_, by decide, (hrow q hq).2⟩).snoc rfl hc11 hc12 ((HX1.out.grown hgr3 fun q hq => .inr ⟨_, by decide, (hrow q hq).2⟩).low hsz)
        · intro r hr
          rcases List.mem_append.1 hr with h1 | h1
          · exact HB.out.2.2.2.2.1 r h1
          · simp only [List.mem_singleton] at h1
            subst h1
            exact ⟨hxl, hxv⟩
        · exact ((hR1.on (balloc (Below.refl _ _) _)).grown hgr3 fun q hq => by have := (hrow q hq).1; omega).mono (by simp; omega)
end Go.Proofs.Ytldndapcbgaliaa
