/-
  Contract of tableOf: the reference's.
-/
import Derived.Test.YtldndapcbgaliaaProg
import Derived.Test.YtldndapcbgaliaaIns
import Derived.Deep.AppendLies
import Derived.Deep.RegionLaw
namespace Go.Proofs.Ytldndapcbgaliaa
open Go.RowKit Go.Qo
set_option linter.unusedVariables false
set_option linter.unusedSimpArgs false

/-- out is what insertRow makes of the rows, one after the other. -/
inductive Built : List Row1 → List Row1 → Prop
  | nil : Built [] []
  | snoc {rs out : List Row1} {r : Row1} {low : Nat} : Built rs out → InsAt out r low → Built (rs ++ [r]) (out.take low ++ [r] ++ out.drop low)
theorem Built.perm {rs out : List Row1} (h : Built rs out) : out.Perm rs := by
  induction h with
  | nil => exact List.Perm.refl _
  | @snoc rs out r low h hi ih =>
    have h1 : (out.take low ++ [r] ++ out.drop low).Perm (r :: (out.take low ++ out.drop low)) := by
      rw [List.append_assoc]; exact List.perm_middle
    rw [List.take_append_drop] at h1
    exact h1.trans ((ih.cons r).trans (List.perm_append_singleton r rs).symm)
/-- A table's rows, of the call's own. -/
def TofRes (lo : Nat) (W : Int) (rows : List Row1) (w : World) (e : Ending) (w' : World) : Prop :=
  ∃ (v : Value) (svs : List SV) (out : List Row1), e = .returned (.agg #[.int .i64 W, v]) ∧ (if rows.length ≤ 400 then Built rows out else out = []) ∧ Ow w.heap.size 41 1 svC w' v svs ∧ RowsT 40 2 valC lo w' svs out ∧ Below w.heap.size w w'
theorem resTof {b : Nat} {v0 v1 : Value} (tmps : Array Value) (hp : tmps.getD 4 undef = .pointer (some ⟨b, 0, none⟩)) (w : World) (c0 : w.cell? ⟨b, 0, none⟩ = some v0) (c1 : w.cell? ⟨b, 1, none⟩ = some v1) :
    (results Try.f62 tmps).run Try.prog w = .ok (.agg #[v0, v1]) w := by
  simp only [Array.getD_eq_getD_getElem?] at hp
  simp [results, Try.results62, go_sem, hp, c0, c1]

set_option maxRecDepth 20000 in
set_option maxHeartbeats 300000 in
theorem tableOf_ok (lo : Nat) (W : Int) (A : Option Addr) (c : Nat) (svs0 : List SV) (rows : List Row1) (w : World) (hlo : lo ≤ w.heap.size) (hn : rows.length ≤ 1048576) (hlr : ∀ r ∈ rows, r.length ≤ 1048576) (hs : Sl 1 svC w w.heap.size A svs0) (hT : RowsT 40 2 valC lo w svs0 rows) :
    Calls Try.prog 62 #[.int .i64 W, .slice A rows.length c] w (TofRes lo W rows w) := by
  have HS := Lib.hid hs
  have HT := Lib.hid hT
  have HL := Lib.hid hlr
  clear hs hT hlr
  by_cases h4 : rows.length ≤ 400
  · go_enter Try.func62, Try.ntmps62
    go_wp2
    go_loopg [6] (rows.length) (fun g i wr => ∃ (k : Nat) (v : Value) (svs : List SV) (out : List Row1), k ≤ rows.length ∧ g = rows.length - k ∧ i = .int .i64 k ∧ Below w.heap.size w wr ∧ Row wr w.heap.size 25 [.int .i64 0, .slice none 0 0] ∧ Row wr (w.heap.size + 1) 25 [.int .i64 W, v] ∧ Ow (w.heap.size + 2) 41 1 svC wr v svs ∧ RowsT 40 2 valC lo wr svs out ∧ Built (rows.take k) out)
    case atStart => exact ⟨0, .slice none 0 0, [], [], by omega, by omega, rfl, balloc (balloc (Below.refl _ _) _) _, (Row.first _ _ _ _).of rfl, (Row.second _ _ _ _).of rfl, Ow.nil, RowsT.nil, Built.nil⟩
    case round =>
      obtain ⟨k, v, svs, out, hk, rfl, rfl, hb, hres, hbox, how, hrt, hbl⟩ := hrel
      obtain ⟨A', c', rfl, hc1, hc2, hs⟩ := how.shape svC_length
      have b0 : wr.cell? ⟨w.heap.size + 1, 0, none⟩ = some (.int .i64 W) := hbox.cell 0
      have b1 : wr.cell? ⟨w.heap.size + 1, 1, none⟩ = some (.slice A' svs.length c') := hbox.cell 1
      have r0 : wr.cell? ⟨w.heap.size, 0, none⟩ = some (.int .i64 0) := hres.cell 0
      have r1 : wr.cell? ⟨w.heap.size, 1, none⟩ = some (.slice none 0 0) := hres.cell 1
      have f0 := hres.frozen 0
      have f1 := hres.frozen 1
      have fb := hbox.frozen 1
      have hl1 := hbox.lt
      have HB := Lib.hid (And.intro hb (And.intro hres (And.intro hbox (And.intro how (And.intro hrt hbl)))))
      clear hb hres hbox how hrt hbl
      by_cases hlt : k < rows.length
      · obtain ⟨b2, off2, A2, C2, hA2, hB2, c2, hc21, hm2, s2⟩ := (sls_of' (HS.out.on HB.out.1) (HT.out.on HB.out.1)).at_ hlt
        have hx := Lib.hid (List.getElem?_eq_getElem hlt)
        have hxl := HL.out _ (List.getElem_mem hlt)
        generalize rows[k] = x at *
        subst hA2
        have hsz := HB.out.1.size
        have hol : out.length ≤ 1048576 := by
          have h1 := HB.out.2.2.2.2.2.perm.length_eq
          rw [List.length_take] at h1; omega
        have hsl : svs.length = out.length := HB.out.2.2.2.2.1.1
        have hor : ∀ r ∈ out, r.length ≤ 1048576 := fun r hr => HL.out r (List.mem_of_mem_take (HB.out.2.2.2.2.2.perm.mem_iff.1 hr))
        have HI := Lib.hid (insertRow_ok lo A' A2 c' C2 svs out x wr.drew (by exact Nat.le_trans hlo hsz) hol (by omega) hxl hor (hs.sl) HB.out.2.2.2.2.1 s2)
        have S2 := Lib.hid s2
        rw [← hsl] at HI
        have HSL := Lib.hid hsl
        clear hsl s2 hor hs hc21 hm2
        go_wp2
        go_region_law (go_simp; go_at_call 110; refine HI.out.mono ?_; rintro e w1 ⟨low, v1, svs1, rfl, hat, how1, hrt1, hb1⟩; obtain ⟨Av, cv, rfl, hcv1, hcv2, hsv⟩ := how1.shape svC_length; have fb1 : w1.frozen? ⟨w.heap.size + 1, 1, none⟩ = false := (hb1.frozen (p := ⟨_, _, none⟩) hl1).trans fb; have b11 : w1.cell? ⟨w.heap.size + 1, 1, none⟩ = some (.slice A' svs.length c') := (hb1.cell (p := ⟨_, _, none⟩) hl1).trans b1)
        all_goals (
          go_wp2
          go_roundg (rows.length - (k + 1))
          case measure => omega
          case rel =>
            obtain ⟨hb, hres, hbox, how, hrt, hbl⟩ := HB.out
            have hS0 := Only.set (S := fun i => i = w.heap.size + 1) (p := ⟨w.heap.size + 1, 1, none⟩) (Only.refl w1) (.inl rfl) (.slice Av svs1.length cv)
            have hbx := hbox.drew.on hb1
            refine ⟨k + 1, _, svs1, _, by omega, rfl, by go_num, (bch hb.drew hb1).setCell (p := ⟨w.heap.size + 1, 1, none⟩) (by simp) _, (hres.drew.on hb1).far (p := ⟨w.heap.size + 1, 1, none⟩) (by simp) _, (hbx.set 1 _).of rfl, (how1.only hS0 fun b hb => .inl (by subst hb; exact hl1)).low (by exact hl1), hrt1.only hS0 fun b hb => .inr ⟨25, by decide, by subst hb; exact hbx.ty⟩, ?_⟩
            rw [List.take_add_one, hx.out]
            exact hbl.snoc hat)
      · go_wp2
        refine bodyPost_ret (resTof (b := w.heap.size) _ rfl _ (v0 := .int .i64 W) (v1 := .slice A' svs.length c') (by simp [go_sem, b0, b1, r0, r1]) (by simp [go_sem, b0, b1, r0, r1])) rfl ?_
        obtain ⟨hb, hres, hbox, how, hrt, hbl⟩ := HB.out
        rw [List.take_of_length_le (Nat.not_lt.1 hlt)] at hbl
        have hS0 := (Only.set (S := fun i => i = w.heap.size) (p := ⟨w.heap.size, 0, none⟩) (Only.refl wr) (.inl rfl) (.int .i64 W)).set (p := ⟨w.heap.size, 1, none⟩) (.inl rfl) (.slice A' svs.length c')
        refine ⟨_, svs, out, rfl, by rw [if_pos h4]; exact hbl, (how.only hS0 fun b hb => .inl (by omega)).low (by omega), hrt.only hS0 fun b hb => .inr ⟨25, by decide, by subst hb; exact hres.ty⟩, ?_⟩
        exact (hb.setCell (p := ⟨_, _, none⟩) (Nat.le_refl _) _).setCell (p := ⟨_, _, none⟩) (Nat.le_refl _) _
  · go_enter Try.func62, Try.ntmps62
    go_wp2
    refine bodyPost_ret (resTof (b := w.heap.size) _ rfl _ (v0 := .int .i64 W) (v1 := .slice none 0 0) (by simp [go_sem]) (by simp [go_sem])) rfl ?_
    refine ⟨_, [], [], rfl, by rw [if_neg h4], Ow.nil, RowsT.nil, ?_⟩
    exact balloc (balloc (Below.refl _ _) _) _
end Go.Proofs.Ytldndapcbgaliaa
