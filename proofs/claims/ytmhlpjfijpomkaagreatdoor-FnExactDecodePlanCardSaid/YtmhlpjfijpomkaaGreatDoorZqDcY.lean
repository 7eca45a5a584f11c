/-
  Contracts: what the program's decoding of plans does around the scanner (DecodePlan). (Printed by wip/dcy.py.)
-/
import Derived.Test.YtmhlpjfijpomkaaGreatDoorProg
import Derived.Test.YtmhlpjfijpomkaaGreatDoorZqDcW
import Derived.Test.YtmhlpjfijpomkaaGreatDoorZqDcL
import Derived.Test.YtmhlpjfijpomkaaGreatDoorZqEnL
import Derived.Test.YtmhlpjfijpomkaaGreatDoorZqIxA
namespace Go.Proofs.YtmhlpjfijpomkaaGreatDoor
open Go.RowKit Go.Qo
set_option linter.unusedVariables false
set_option linter.unusedSimpArgs false

set_option maxRecDepth 20000 in
set_option maxHeartbeats 1000000 in
theorem readP_yes {b eb lo : Nat} {l r : List UInt8} {x : Pl} {w : World} (h : Sc w b l) (hr : Row w eb 26 [.int .i64 0, .int .i64 0, .slice none 0 0, .slice none 0 0, .slice none 0 0]) (hix : Ix l) (hl : l.length ≤ 8388608) (ht : T10 lo w) (hv : EvB lo w) (hlo : lo ≤ b) (hne : eb ≠ b) (hx : pPl 8 l = some (x, r)) :
    Calls Tryz.prog 29 #[.pointer (some ⟨b, 0, none⟩), .pointer (some ⟨eb, 0, none⟩)] w fun e w' => e = .returned (.tuple #[]) ∧ ∃ f, Row w' eb 26 (fpC f) ∧ PlW 40 3 26 w' (fun k => w.heap.size ≤ k) f x ∧ Sc w' b r ∧ Only (fun k => k = b ∨ k = eb) w w' := by
  have HX0 := scPlan_ok 8 (by omega) b lo l w h hix hl ht hv hlo
  rw [hx] at HX0
  have HX := Lib.hid HX0
  have Hr := Lib.hid hr
  have hlt := hr.lt
  clear h hr hix ht hv hx HX0
  go_enter Tryz.func29, Tryz.ntmps29
  go_wp2_with fail
  refine HX.out.mono ?_
  rintro e w2 ⟨f, he, ht, hs, hb⟩
  unfold fpV at he
  subst he
  have hs : Sc w2 b r := hs
  have hrow := Hr.out.only hb (by omega)
  have c0 := hrow.cell 0
  have c1 := hrow.cell 1
  have c2 := hrow.cell 2
  have c3 := hrow.cell 3
  have c4 := hrow.cell 4
  have f0 := hrow.frozen 0
  have f1 := hrow.frozen 1
  have f2 := hrow.frozen 2
  have f3 := hrow.frozen 3
  have f4 := hrow.frozen 4
  have hl2 := hrow.lt
  have H := Lib.hid (And.intro ht (And.intro hs (And.intro hb hrow)))
  clear ht hs hb hrow
  go_wp2
  go_end0
  obtain ⟨ht, hs, hb, hrow⟩ := H.out
  have hO := set5 w2 eb (.int .i64 f.kind) (.int .i64 f.table) (.slice f.es.A f.es.n f.es.c) (.slice f.cs.A f.cs.n f.cs.c) (.slice f.ks.A f.ks.n f.ks.c)
  refine ⟨rfl, f, ((((hrow.set 0 _).set 1 _).set 2 _).set 3 _).set 4 _, ht.keep hO.size fun q hq hl => hO.block q hl (by omega), hs.only hO (by omega), ?_⟩
  exact (hb.mono fun k _ hk => .inl hk).trans (hO.mono fun k _ hk => .inr hk)
set_option maxRecDepth 20000 in
set_option maxHeartbeats 1000000 in
theorem readP_no {b eb lo : Nat} {l : List UInt8} {w : World} (h : Sc w b l) (hix : Ix l) (hl : l.length ≤ 8388608) (ht : T10 lo w) (hv : EvB lo w) (hlo : lo ≤ b) (hx : pPl 8 l = none) :
    Calls Tryz.prog 29 #[.pointer (some ⟨b, 0, none⟩), .pointer (some ⟨eb, 0, none⟩)] w (Malf b w) := by
  have HX0 := scPlan_ok 8 (by omega) b lo l w h hix hl ht hv hlo
  rw [hx] at HX0
  have HX := Lib.hid HX0
  clear h hix ht hv hx HX0
  go_enter Tryz.func29, Tryz.ntmps29
  go_wp2_with fail
  refine HX.out.mono ?_
  rintro e w2 ⟨rfl, hb⟩
  exact ⟨rfl, rfl, hb⟩

set_option maxRecDepth 20000 in
set_option maxHeartbeats 1000000 in
theorem scannedP_ok (eb lo : Nat) (l : List UInt8) (w : World) (hr : Row w eb 26 [.int .i64 0, .int .i64 0, .slice none 0 0, .slice none 0 0, .slice none 0 0]) (hix : Ix l) (hl : l.length ≤ 8388608) (ht : T10 lo w) (hv : EvB lo w) (hlo : lo ≤ w.heap.size) :
    Calls Tryz.prog 28 #[.string (bArr l), .func (Fn.func 29) #[] #[.pointer (some ⟨eb, 0, none⟩)]] w fun e w' => Only (fun k => k = eb) w w' ∧
      ((∃ x f, pPl 8 l = some (x, []) ∧ e = .returned (.bool true) ∧ Row w' eb 26 (fpC f) ∧ PlW 40 3 26 w' (fun k => w.heap.size ≤ k) f x) ∨ ((∀ x, pPl 8 l ≠ some (x, [])) ∧ e = .returned (.bool false))) := by
  have hmf : ∀ (fn : Fn) (first cap : Array Value) (w : World), (Instr.makeFunc fn first cap).run Tryz.prog w = .ok (.func fn first cap) w := fun _ _ _ _ => rfl
  obtain ⟨S, hS⟩ : ∃ S, bArr l = S := ⟨_, rfl⟩
  obtain ⟨W1, hW1⟩ : ∃ z, (w.alloc (.cells #[.bool false] 4)).alloc (.cells #[.string S] 86) = z := ⟨_, rfl⟩
  rw [hS]
  have B1 : Below w.heap.size w W1 := by rw [← hW1]; exact balloc (balloc (Below.refl _ _) _) _
  have rk : Row W1 w.heap.size 4 [.bool false] := by rw [← hW1]; exact Row.first _ _ _ _
  have rs : Row W1 (w.heap.size + 1) 86 [.string S] := by rw [← hW1]; exact Row.second _ _ _ _
  have hsc : Sc W1 (w.heap.size + 1) l := by unfold Sc; rw [hS]; exact rs
  have heb := hr.lt
  have Hs1 := Lib.hid (show W1.heap.size = w.heap.size + 2 by rw [← hW1]; simp)
  have HW1 := Lib.hid hW1
  have HB1 := Lib.hid B1
  have Hk := Lib.hid rk
  have hne : eb ≠ w.heap.size + 1 := by omega
  have RY := Lib.hid (fun x r (hx : pPl 8 l = some (x, r)) => readP_yes hsc (hr.on B1) hix hl (ht.on (B1.mono hlo)) (hv.on (B1.mono hlo)) (by omega) hne hx)
  have RN := Lib.hid (fun (hx : pPl 8 l = none) => readP_no (eb := eb) hsc hix hl (ht.on (B1.mono hlo)) (hv.on (B1.mono hlo)) (by omega) hx)
  clear hW1 B1 rk rs hsc hr hix ht hv hS
  cases hx : pPl 8 l with
  | none =>
    have RN2 := Lib.hid (RN.out hx)
    clear RY RN
    go_enter_defers Tryz.func28, Tryz.ntmps28
    go_wp2_with fail
    rw [HW1.out]
    refine RN2.out.mono ?_
    rintro e w2 ⟨rfl, hb2⟩
    have hk2 := Hk.out.only hb2 (by omega)
    have k0 := hk2.cell 0
    have q0 := hk2.frozen 0
    refine leaves_cons (f := 66) (args := #[.pointer (some ⟨w.heap.size, 0, none⟩)]) (by simp) (by simp [go_sem]) ?_
    refine (catch_malf ⟨w.heap.size, 0, none⟩ false [] _ k0 q0).mono ?_
    rintro e u' w'' ⟨rfl, rfl, rfl⟩
    have hOk : Only (fun k => k = eb) w (w2.setCell ⟨w.heap.size, 0, none⟩ (.bool false)) :=
      ((only_below (S := fun k => k = eb) HB1.out).step hb2 (fun j hj => .inr (by omega))).step ((Only.refl (S := fun k => k = w.heap.size) w2).set (p := ⟨w.heap.size, 0, none⟩) (.inl rfl) (.bool false)) (fun j hj => .inr (by omega))
    simp [Leaves, settle, results, Tryz.results28, go_sem, k0]
    exact hOk
  | some y =>
    obtain ⟨x, r⟩ := y
    have RY2 := Lib.hid (RY.out x r hx)
    clear RY RN
    obtain ⟨q, hq⟩ : ∃ q, decide (r = []) = q := ⟨_, rfl⟩
    obtain ⟨Sr, hSr⟩ : ∃ S, bArr r = S := ⟨_, rfl⟩
    have hcmp : (Sr.toList == []) = q := by
      rw [← hSr, bArr_list, ← hq]
      cases r <;> simp
    have Hq := Lib.hid hq
    have HSr := Lib.hid hSr
    clear hq hSr
    go_enter_defers Tryz.func28, Tryz.ntmps28
    go_wp2_with fail
    rw [HW1.out]
    refine RY2.out.mono ?_
    rintro e w2 ⟨rfl, f, hrow, ht2, hs2, hb2⟩
    have hk2 := Hk.out.only hb2 (by omega)
    have k0 := hk2.cell 0
    have q0 := hk2.frozen 0
    have lk := hk2.lt
    have hs3 : Row w2 (w.heap.size + 1) 86 [.string (bArr r)] := hs2
    rw [HSr.out] at hs3
    have s0 := hs3.cell 0
    have hb3 : Only (fun k => k = eb) w w2 := (only_below (S := fun k => k = eb) HB1.out).step hb2 (fun j hj => by
      rcases hj with hj | hj
      · exact .inr (by omega)
      · exact .inl hj)
    have hOk : Only (fun k => k = eb) w (w2.setCell ⟨w.heap.size, 0, none⟩ (.bool q)) :=
      hb3.step ((Only.refl (S := fun k => k = w.heap.size) w2).set (p := ⟨w.heap.size, 0, none⟩) (.inl rfl) (.bool q)) (fun j hj => .inr (by omega))
    have hO1 := (Only.refl (S := fun k => k = w.heap.size) w2).set (p := ⟨w.heap.size, 0, none⟩) (.inl rfl) (.bool q)
    have HF := Lib.hid (And.intro hOk (And.intro (hrow.only hO1 (by omega)) (ht2.keep hO1.size fun j hj hl => hO1.block j hl (by have := Hs1.out; omega))))
    have Hsz := Lib.hid HB1.out.size
    clear hrow ht2 hs2 hb2 hb3 hk2 hs3 hOk hO1
    go_wp2
    refine leaves_cons (f := 66) (args := #[.pointer (some ⟨w.heap.size, 0, none⟩)]) (by simp) (by simp [go_sem]) ?_
    refine (catch_idle ⟨w.heap.size, 0, none⟩ _).mono ?_
    rintro e u' w'' ⟨rfl, rfl, rfl⟩
    have hfin : Only (fun k => k = eb) w (w2.setCell ⟨w.heap.size, 0, none⟩ (.bool q)) ∧ ((∃ x' f', some (x, r) = some (x', []) ∧ Ending.returned (Value.bool q) = .returned (.bool true) ∧ Row (w2.setCell ⟨w.heap.size, 0, none⟩ (.bool q)) eb 26 (fpC f') ∧ PlW 40 3 26 (w2.setCell ⟨w.heap.size, 0, none⟩ (.bool q)) (fun k => w.heap.size ≤ k) f' x') ∨ ((∀ x', some (x, r) ≠ some (x', [])) ∧ Ending.returned (Value.bool q) = .returned (.bool false))) := by
      obtain ⟨h1, h2, h3⟩ := HF.out
      refine ⟨h1, ?_⟩
      by_cases hr0 : r = []
      · have : q = true := by rw [← Hq.out]; simp [hr0]
        rw [this] at h2 h3 ⊢
        exact .inl ⟨x, f, by rw [hr0], rfl, h2, h3.mono fun j _ hj => by have := Hs1.out; show w.heap.size ≤ j; omega⟩
      · have : q = false := by rw [← Hq.out]; simp [hr0]
        rw [this]
        exact .inr ⟨fun x' e => by simp at e; exact hr0 e.2, rfl⟩
    simp only [Leaves, settle, results, Tryz.results28]
    simp [go_sem, k0]
    simpa using hfin

/-- What DecodePlan of the text l over the widths ws hands back. -/
def DecPPost (ws : List Int) (l : List UInt8) (w : World) (e : Ending) (w' : World) : Prop :=
  Below w.heap.size w w' ∧ ((∃ x f, widthP ws x ≠ 0 ∧ plText x = l ∧ e = .returned (.tuple #[fpV f, .bool true]) ∧ PlW 40 3 26 w' (fun k => w.heap.size ≤ k) f x) ∨ ((∀ x, widthP ws x ≠ 0 → plText x ≠ l) ∧ e = .returned (.tuple #[.agg #[.int .i64 0, .int .i64 0, .slice none 0 0, .slice none 0 0, .slice none 0 0], .bool false])))
theorem widthP_ws {ws : List Int} {x : Pl} (h : widthP ws x ≠ 0) : WsOk ws ∧ plW ws 8 x ≠ 0 := by
  unfold widthP at h
  by_cases hw : WsOk ws
  · rw [if_pos hw] at h; exact ⟨hw, h⟩
  · rw [if_neg hw] at h; exact absurd rfl h
theorem row_p {w : World} {b T : Nat} {f : FP} (h : Row w b T (fpC f)) : Row w b T [.int .i64 f.kind, .int .i64 f.table, .slice f.es.A f.es.n f.es.c, .slice f.cs.A f.cs.n f.cs.c, .slice f.ks.A f.ks.n f.ks.c] := h
theorem rd_of {ws : List Int} {x : Pl} (h : widthP ws x ≠ 0) : RdOk 8 x := by
  obtain ⟨hw, h2⟩ := widthP_ws h
  exact plW_rd hw.1.2 hw.2 8 x h2
theorem readP_back {ws : List Int} {x : Pl} {l : List UInt8} (h : widthP ws x ≠ 0) (hl : plText x = l) : pPl 8 l = some (x, []) := by
  have := pPl_text 8 x [] (rd_of h) Delim.nil
  rwa [List.append_nil, hl] at this

set_option maxRecDepth 20000 in
set_option maxHeartbeats 1000000 in
theorem implDecodePlan_ok (lo : Nat) (l : List UInt8) (ws : List Int) (A : Option Addr) (c : Nat) (w : World) (hwl : ws.length ≤ maxLen) (hsl : Sl 1 intC w w.heap.size A ws) (hl : l.length ≤ 8388608) (ht : T10 lo w) (hv : EvB lo w) (hlo : lo ≤ w.heap.size) :
    Calls Tryz.prog 8 #[.string (bArr l), .slice A ws.length c] w (DecPPost ws l w) := by
  have hmf : ∀ (fn : Fn) (first cap : Array Value) (w : World), (Instr.makeFunc fn first cap).run Tryz.prog w = .ok (.func fn first cap) w := fun _ _ _ _ => rfl
  obtain ⟨W1, hW1⟩ : ∃ z, (w.alloc (.cells #[.int .i64 0, .int .i64 0, .slice none 0 0, .slice none 0 0, .slice none 0 0] 26)).alloc (.cells #[.int .i64 0, .int .i64 0, .slice none 0 0, .slice none 0 0, .slice none 0 0] 26) = z := ⟨_, rfl⟩
  have B1 : Below w.heap.size w W1 := by rw [← hW1]; exact balloc (balloc (Below.refl _ _) _) _
  have r1 : Row W1 w.heap.size 26 [.int .i64 0, .int .i64 0, .slice none 0 0, .slice none 0 0, .slice none 0 0] := by rw [← hW1]; exact Row.first _ _ _ _
  have r2 : Row W1 (w.heap.size + 1) 26 [.int .i64 0, .int .i64 0, .slice none 0 0, .slice none 0 0, .slice none 0 0] := by rw [← hW1]; exact Row.second _ _ _ _
  have hs1 : W1.heap.size = w.heap.size + 2 := by rw [← hW1]; simp
  have HX0 := scannedP_ok (w.heap.size + 1) lo l W1 r2 (ix_all hl) hl (ht.on (B1.mono hlo)) (hv.on (B1.mono hlo)) (by omega)
  obtain ⟨S, hS⟩ : ∃ S, bArr l = S := ⟨_, rfl⟩
  rw [hS] at HX0
  have HX := Lib.hid HX0
  have HB1 := Lib.hid B1
  have HW1 := Lib.hid hW1
  have HR1 := Lib.hid r1
  have HT := Lib.hid ht
  have HSl := Lib.hid (fun (z : World) (hz : Below w.heap.size w z) => show Sl 1 intC z z.heap.size A ws from hsl.on hz)
  have HS := Lib.hid hS
  have Hs1 := Lib.hid hs1
  rw [hS]
  clear B1 r1 r2 hW1 HX0 hS hs1 ht hv hsl
  go_enter Tryz.func8, Tryz.ntmps8
  go_upto_region 2 with fail
  rw [HW1.out]
  go_wp2_with fail
  refine HX.out.mono ?_
  rintro e w2 ⟨hb2, ⟨x, f, hx, rfl, hrow, htr⟩ | ⟨hno, rfl⟩⟩
  · have hrw := HR1.out.only hb2 (by omega)
    have HB2 := Lib.hid (Only.from_ HB1.out rfl hb2 (fun i hi => by omega))
    have HT2 := Lib.hid (HT.out.on (HB2.out.mono hlo))
    have hlo2 : lo ≤ w2.heap.size := Nat.le_trans hlo HB2.out.size
    have hrow := row_p hrow
    have e0 := hrow.cell 0
    have e1 := hrow.cell 1
    have e2 := hrow.cell 2
    have e3 := hrow.cell 3
    have e4 := hrow.cell 4
    have Htr := Lib.hid htr
    have Hrow := Lib.hid hrow
    have Hrw := Lib.hid hrw
    have Hsz2 := Lib.hid hb2.size
    obtain ⟨r, hr⟩ : ∃ r, widthP ws x = r := ⟨_, rfl⟩
    have HV0 := PlanWidth_ok x f ws A c w2 r htr.in_ hwl (HSl.out _ HB2.out) hr
    unfold fpV at HV0
    have HV := Lib.hid HV0
    have Hx := Lib.hid (And.intro hx hr)
    clear hb2 hrw htr hrow HV0 hr hx
    by_cases hr0 : r = 0
    · have hrb : (r == 0) = true := by rw [hr0]; rfl
      clear hr0
      go_wp2_with fail
      refine HV.out.mono ?_
      rintro e w3 ⟨rfl, hb3⟩
      have hrow := Hrw.out.on hb3
      have HB3 := Lib.hid (bch HB2.out hb3)
      have c0 := hrow.cell 0
      have c1 := hrow.cell 1
      have c2 := hrow.cell 2
      have c3 := hrow.cell 3
      have c4 := hrow.cell 4
      have f0 := hrow.frozen 0
      have f1 := hrow.frozen 1
      have f2 := hrow.frozen 2
      have f3 := hrow.frozen 3
      have f4 := hrow.frozen 4
      have hl3 := hrow.lt
      clear hrow
      go_wp2
      refine bodyPost_ret (v := .tuple #[.agg #[.int .i64 0, .int .i64 0, .slice none 0 0, .slice none 0 0, .slice none 0 0], .bool false]) (by simp [results, Tryz.results8, go_sem, c0, c1, c2, c3, c4]) rfl ⟨?_, .inr ⟨fun x' h1 h2 => ?_, rfl⟩⟩
      · exact Only.from_ HB3.out rfl (set5 w3 w.heap.size _ _ _ _ _) (fun i hi => by omega)
      · have h3 := readP_back h1 h2
        rw [Hx.out.1] at h3
        cases h3
        exact h1 (Hx.out.2.trans (eq_of_beq hrb))
    · have hrb : (r == 0) = false := by rw [beq_eq_false_iff_ne]; exact hr0
      have hok : widthP ws x ≠ 0 := fun e => hr0 (Hx.out.2.symm.trans e)
      clear hr0
      have HE0 := fun (z : World) (hz : Below w2.heap.size w2 z) => implEncodePlan_ok x f ws A c z (plText x) lo (HT2.out.on (hz.mono hlo2)) (Nat.le_trans hlo2 hz.size) (Htr.out.in_.on hz) hwl (HSl.out _ (bch HB2.out hz)) (fun _ => rfl) (fun h => absurd h hok)
      obtain ⟨Q, hQ⟩ : ∃ S, bArr (plText x) = S := ⟨_, rfl⟩
      rw [hQ] at HE0
      unfold fpV at HE0
      have HE := Lib.hid HE0
      by_cases heq : plText x = l
      · have hQS : Q = S := by rw [← hQ, ← HS.out, heq]
        subst hQS
        have Heq := Lib.hid (And.intro hok heq)
        clear HE0 hok heq hQ
        go_wp2_with fail
        refine HV.out.mono ?_
        rintro e w3 ⟨rfl, hb3⟩
        have hro := Hrow.out.on hb3
        have d0 := hro.cell 0
        have d1 := hro.cell 1
        have d2 := hro.cell 2
        have d3 := hro.cell 3
        have d4 := hro.cell 4
        have HB3 := Lib.hid hb3
        clear hb3 hro e0 e1 e2 e3 e4
        go_wp2_with fail
        refine (HE.out w3 HB3.out).mono ?_
        rintro e w4 ⟨rfl, hb4⟩
        have HB4 := Lib.hid (bch HB3.out hb4)
        have hro := Hrow.out.on HB4.out
        have a0 := hro.cell 0
        have a1 := hro.cell 1
        have a2 := hro.cell 2
        have a3 := hro.cell 3
        have a4 := hro.cell 4
        have hrow := Hrw.out.on HB4.out
        clear hb4 hro d0 d1 d2 d3 d4
        have c0 := hrow.cell 0
        have c1 := hrow.cell 1
        have c2 := hrow.cell 2
        have c3 := hrow.cell 3
        have c4 := hrow.cell 4
        have f0 := hrow.frozen 0
        have f1 := hrow.frozen 1
        have f2 := hrow.frozen 2
        have f3 := hrow.frozen 3
        have f4 := hrow.frozen 4
        have hl3 := hrow.lt
        clear hrow
        go_wp2
        have hO := set5 w4 w.heap.size (.int .i64 f.kind) (.int .i64 f.table) (.slice f.es.A f.es.n f.es.c) (.slice f.cs.A f.cs.n f.cs.c) (.slice f.ks.A f.ks.n f.ks.c)
        refine bodyPost_ret (v := .tuple #[fpV f, .bool true]) (by simp [results, Tryz.results8, go_sem, fpV, c0, c1, c2, c3, c4]) rfl ⟨?_, .inl ⟨x, f, Heq.out.1, Heq.out.2, rfl, ?_⟩⟩
        · exact Only.from_ (bch HB2.out HB4.out) rfl hO (fun i hi => by omega)
        · have h1 := Htr.out.keep HB4.out.size fun k _ hk => HB4.out.block k hk
          have h2 := h1.keep hO.size fun k hk hl => hO.block k hl (by have := Hs1.out; omega)
          exact h2.mono fun k _ hk => by have := Hs1.out; show w.heap.size ≤ k; omega
      · have hqs : (Q.toList == S.toList) = false := by
          rw [← hQ, ← HS.out, bArr_list, bArr_list, beq_eq_false_iff_ne]
          exact heq
        have Heq := Lib.hid heq
        clear HE0 hok heq hQ
        go_wp2_with fail
        refine HV.out.mono ?_
        rintro e w3 ⟨rfl, hb3⟩
        have hro := Hrow.out.on hb3
        have d0 := hro.cell 0
        have d1 := hro.cell 1
        have d2 := hro.cell 2
        have d3 := hro.cell 3
        have d4 := hro.cell 4
        have HB3 := Lib.hid hb3
        clear hb3 hro e0 e1 e2 e3 e4
        go_wp2_with fail
        refine (HE.out w3 HB3.out).mono ?_
        rintro e w4 ⟨rfl, hb4⟩
        have HB4 := Lib.hid (bch HB3.out hb4)
        have hrow := Hrw.out.on HB4.out
        clear hb4 d0 d1 d2 d3 d4
        have c0 := hrow.cell 0
        have c1 := hrow.cell 1
        have c2 := hrow.cell 2
        have c3 := hrow.cell 3
        have c4 := hrow.cell 4
        have f0 := hrow.frozen 0
        have f1 := hrow.frozen 1
        have f2 := hrow.frozen 2
        have f3 := hrow.frozen 3
        have f4 := hrow.frozen 4
        have hl3 := hrow.lt
        clear hrow
        go_wp2
        refine bodyPost_ret (v := .tuple #[.agg #[.int .i64 0, .int .i64 0, .slice none 0 0, .slice none 0 0, .slice none 0 0], .bool false]) (by simp [results, Tryz.results8, go_sem, c0, c1, c2, c3, c4]) rfl ⟨?_, .inr ⟨fun x' h1 h2 => ?_, rfl⟩⟩
        · exact Only.from_ (bch HB2.out HB4.out) rfl (set5 w4 w.heap.size _ _ _ _ _) (fun i hi => by omega)
        · have h3 := readP_back h1 h2
          rw [Hx.out.1] at h3
          cases h3
          exact Heq.out h2
  · have hrow := HR1.out.only hb2 (by omega)
    have HB2 := Lib.hid (Only.from_ HB1.out rfl hb2 (fun i hi => by omega))
    have Hno := Lib.hid hno
    clear hb2 hno
    have c0 := hrow.cell 0
    have c1 := hrow.cell 1
    have c2 := hrow.cell 2
    have c3 := hrow.cell 3
    have c4 := hrow.cell 4
    have f0 := hrow.frozen 0
    have f1 := hrow.frozen 1
    have f2 := hrow.frozen 2
    have f3 := hrow.frozen 3
    have f4 := hrow.frozen 4
    have hl3 := hrow.lt
    clear hrow
    go_wp2
    refine bodyPost_ret (v := .tuple #[.agg #[.int .i64 0, .int .i64 0, .slice none 0 0, .slice none 0 0, .slice none 0 0], .bool false]) (by simp [results, Tryz.results8, go_sem, c0, c1, c2, c3, c4]) rfl ⟨?_, .inr ⟨fun x' h1 h2 => ?_, rfl⟩⟩
    · exact Only.from_ HB2.out rfl (set5 w2 w.heap.size _ _ _ _ _) (fun i hi => by omega)
    · exact Hno.out x' (readP_back h1 h2)
end Go.Proofs.YtmhlpjfijpomkaaGreatDoor
