/-
  Contract: the reference's DecodePlan. (Printed by wip/dcm.py.)
-/
import Derived.Test.YtmhlpjfijpomkaaGreatDoorProg
import Derived.Test.YtmhlpjfijpomkaaGreatDoorZqDcZ
import Derived.Test.YtmhlpjfijpomkaaGreatDoorZqEnG
import Derived.Test.YtmhlpjfijpomkaaGreatDoorZqPlS
namespace Go.Proofs.YtmhlpjfijpomkaaGreatDoor
open Go.RowKit Go.Qo
set_option linter.unusedVariables false
set_option linter.unusedSimpArgs false

/-- What the reference's DecodePlan of the text l over the widths ws hands back. -/
def DecPS (ws : List Int) (l : List UInt8) (w : World) (e : Ending) (w' : World) : Prop :=
  Below w.heap.size w w' ∧ ((∃ x f, widthP ws x ≠ 0 ∧ plText x = l ∧ e = .returned (.tuple #[fpV f, .bool true]) ∧ PlT (fun k => w.heap.size ≤ k) w' f x) ∨ ((∀ x, widthP ws x ≠ 0 → plText x ≠ l) ∧ e = .returned (.tuple #[.agg #[.int .i64 0, .int .i64 0, .slice none 0 0, .slice none 0 0, .slice none 0 0], .bool false])))
theorem widthP_wsS {ws : List Int} {x : Pl} (h : widthP ws x ≠ 0) : WsOk ws ∧ plW ws 8 x ≠ 0 := by
  unfold widthP at h
  by_cases hw : WsOk ws
  · rw [if_pos hw] at h; exact ⟨hw, h⟩
  · rw [if_neg hw] at h; exact absurd rfl h
theorem rd_ofS {ws : List Int} {x : Pl} (h : widthP ws x ≠ 0) : RdOk 8 x := by
  obtain ⟨hw, h2⟩ := widthP_wsS h
  exact plW_rd hw.1.2 hw.2 8 x h2
theorem readP_backS {ws : List Int} {x : Pl} {l : List UInt8} (h : widthP ws x ≠ 0) (hl : plText x = l) : spPl 8 l true = (x, [], true) := by
  have := spPl_text 8 x [] (rd_ofS h) Delim.nil
  rwa [List.append_nil, hl] at this

set_option maxRecDepth 20000 in
set_option maxHeartbeats 2000000 in
theorem specDecodePlan_ok (l : List UInt8) (ws : List Int) (A : Option Addr) (c : Nat) (w : World) (hwl : ws.length ≤ maxLen) (hsl : Sl 1 intC w w.heap.size A ws) (hl : l.length ≤ 1048576) :
    Calls Tryz.prog 6 #[.string (bArr l), .slice A ws.length c] w (DecPS ws l w) := by
  obtain ⟨S, hS⟩ : ∃ S, bArr l = S := ⟨_, rfl⟩
  obtain ⟨W1, hW1⟩ : ∃ z, (w.alloc (.cells #[.int .i64 0, .int .i64 0, .slice none 0 0, .slice none 0 0, .slice none 0 0] 26)).alloc (.cells #[.string S, .int .i64 0, .bool true] 53) = z := ⟨_, rfl⟩
  have B1 : Below w.heap.size w W1 := by rw [← hW1]; exact balloc (balloc (Below.refl _ _) _) _
  have r1 : Row W1 w.heap.size 26 [.int .i64 0, .int .i64 0, .slice none 0 0, .slice none 0 0, .slice none 0 0] := by rw [← hW1]; exact Row.first _ _ _ _
  have r2 : Row W1 (w.heap.size + 1) 53 [.string S, .int .i64 0, .bool true] := by rw [← hW1]; exact Row.second _ _ _ _
  have hs1 : W1.heap.size = w.heap.size + 2 := by rw [← hW1]; simp
  have hps : Ps W1 (w.heap.size + 1) l l true := ⟨[], rfl, by rw [hS]; exact r2⟩
  have HX := Lib.hid (spPlan_ok 8 (by omega) (w.heap.size + 1) l l true W1 hps hl)
  have HW1 := Lib.hid hW1
  have HB1 := Lib.hid B1
  have HR1 := Lib.hid r1
  have Hs1 := Lib.hid hs1
  have HS := Lib.hid hS
  have HSl := Lib.hid (fun (z : World) (hz : Below w.heap.size w z) => show Sl 1 intC z z.heap.size A ws from hsl.on hz)
  rw [hS]
  clear hW1 B1 r1 r2 hps hs1 hS hsl
  go_enter Tryz.func6, Tryz.ntmps6
  go_upto_region 2 with fail
  rw [HW1.out]
  go_wp2_with fail
  refine HX.out.mono ?_
  rintro e w2 ⟨f, he, hx, hp2, hb2⟩
  unfold fpV at he
  subst he
  obtain ⟨x, q, ok, hsx⟩ : ∃ x q ok, spPl 8 l true = (x, q, ok) := ⟨_, _, _, rfl⟩
  rw [hsx] at hx hp2
  have hx : PlT (fun k => W1.heap.size ≤ k) w2 f x := hx
  have hp2 : Ps w2 (w.heap.size + 1) l q ok := hp2
  obtain ⟨W3, hW3⟩ : ∃ z, w2.alloc (.cells #[.int .i64 f.kind, .int .i64 f.table, .slice f.es.A f.es.n f.es.c, .slice f.cs.A f.cs.n f.cs.c, .slice f.ks.A f.ks.n f.ks.c] 26) = z := ⟨_, rfl⟩
  have b3 : Below w2.heap.size w2 W3 := by rw [← hW3]; exact balloc (Below.refl _ _) _
  have r3 : Row W3 w2.heap.size 26 [.int .i64 f.kind, .int .i64 f.table, .slice f.es.A f.es.n f.es.c, .slice f.cs.A f.cs.n f.cs.c, .slice f.ks.A f.ks.n f.ks.c] := by rw [← hW3]; exact Row.new _ _ _
  obtain ⟨eb, heb⟩ : ∃ n, w2.heap.size = n := ⟨_, rfl⟩
  rw [heb] at r3
  have hsz2 := hb2.size
  have HB3 := Lib.hid (show Below w.heap.size w W3 from bch (Only.from_ HB1.out rfl hb2 (fun i hi => by omega)) b3)
  have HX3 := Lib.hid (show PlT (fun k => w.heap.size + 2 ≤ k) W3 f x from (hx.keep b3.size fun k _ hl => b3.block k hl).mono fun k _ hk => by have := Hs1.out; omega)
  have hp3 := hp2.on b3
  have p2 : W3.cell? ⟨w.heap.size + 1, 2, none⟩ = some (.bool ok) := by obtain ⟨a, _, hr⟩ := hp3; exact hr.cell 2
  have HR3 := Lib.hid ((HR1.out.only hb2 (by omega)).on b3)
  have HO3 := Lib.hid r3
  have HSX := Lib.hid hsx
  have HW3 := Lib.hid hW3
  have Heb := Lib.hid heb
  have hpl := hp3.lt
  clear hp3 hsx hx hp2 hb2 hW3 b3 r3 hsz2 heb
  go_upto_region 3 with fail
  rw [HW3.out, Heb.out]
  cases ok with
  | false =>
    have hrow := HR3.out
    have c0 := hrow.cell 0
    have c1 := hrow.cell 1
    have c2 := hrow.cell 2
    have c3 := hrow.cell 3
    have c4 := hrow.cell 4
    have f0 := hrow.frozen 0
    have f1 := hrow.frozen 1
    have f2 := hrow.frozen 2
    have f3 := hrow.frozen 3
    have f4 := hrow.frozen 4
    have hl3 := hrow.lt
    clear hrow
    go_wp2
    refine bodyPost_ret (v := .tuple #[.agg #[.int .i64 0, .int .i64 0, .slice none 0 0, .slice none 0 0, .slice none 0 0], .bool false]) (by simp [results, Tryz.results6, go_sem, c0, c1, c2, c3, c4]) rfl ⟨?_, .inr ⟨fun x' h1 h2 => ?_, rfl⟩⟩
    · exact Only.from_ HB3.out rfl (set5 W3 w.heap.size _ _ _ _ _) (fun i hi => by omega)
    · have h3 := readP_backS h1 h2
      rw [HSX.out] at h3
      cases h3
  | true =>
    obtain ⟨r, hr⟩ : ∃ r, widthP ws x = r := ⟨_, rfl⟩
    have HV0 := widthOf_ok x f ws A c W3 r HX3.out.in_ hwl (HSl.out _ HB3.out) hr
    unfold fpV at HV0
    have HV := Lib.hid HV0
    have Hr := Lib.hid hr
    have e0 := HO3.out.cell 0
    have e1 := HO3.out.cell 1
    have e2 := HO3.out.cell 2
    have e3 := HO3.out.cell 3
    have e4 := HO3.out.cell 4
    have el := HO3.out.lt
    clear HV0 hr
    by_cases hr0 : r = 0
    · have hrb : (r == 0) = true := by rw [hr0]; rfl
      clear hr0
      go_wp2_with fail
      refine HV.out.mono ?_
      rintro e w4 ⟨rfl, hb4⟩
      have HB4 := Lib.hid (bch HB3.out hb4)
      have hrow := HR3.out.on hb4
      clear hb4 e0 e1 e2 e3 e4
      have c0 := hrow.cell 0
      have c1 := hrow.cell 1
      have c2 := hrow.cell 2
      have c3 := hrow.cell 3
      have c4 := hrow.cell 4
      have f0 := hrow.frozen 0
      have f1 := hrow.frozen 1
      have f2 := hrow.frozen 2
      have f3 := hrow.frozen 3
      have f4 := hrow.frozen 4
      have hl3 := hrow.lt
      clear hrow
      go_wp2
      refine bodyPost_ret (v := .tuple #[.agg #[.int .i64 0, .int .i64 0, .slice none 0 0, .slice none 0 0, .slice none 0 0], .bool false]) (by simp [results, Tryz.results6, go_sem, c0, c1, c2, c3, c4]) rfl ⟨?_, .inr ⟨fun x' h1 h2 => ?_, rfl⟩⟩
      · exact Only.from_ HB4.out rfl (set5 w4 w.heap.size _ _ _ _ _) (fun i hi => by omega)
      · have h3 := readP_backS h1 h2
        rw [HSX.out] at h3
        cases h3
        exact h1 (Hr.out.trans (eq_of_beq hrb))
    · have hrb : (r == 0) = false := by rw [beq_eq_false_iff_ne]; exact hr0
      have hok : widthP ws x ≠ 0 := fun e => hr0 (Hr.out.symm.trans e)
      clear hr0
      have HF0 := fun (z : World) (hz : Below W3.heap.size W3 z) => formatPlan_ok x f 8 z (HX3.out.in_.on hz) (by omega) (rdOk_iff.1 (rd_ofS hok)).1
      obtain ⟨Q, hQ⟩ : ∃ S, bArr (plText x) = S := ⟨_, rfl⟩
      rw [hQ] at HF0
      unfold fpV at HF0
      have HF := Lib.hid HF0
      by_cases heq : plText x = l
      · have hQS : Q = S := by rw [← hQ, ← HS.out, heq]
        subst hQS
        have hQS : (Q.toList == Q.toList) = true := by simp
        have hQn : (Q.toList != Q.toList) = false := by simp
        have Heq := Lib.hid (And.intro hok heq)
        clear HF0 hQ heq hok
        go_wp2_with fail
        refine HV.out.mono ?_
        rintro e w4 ⟨rfl, hb4⟩
        have HB4 := Lib.hid (bch HB3.out hb4)
        have HR4 := Lib.hid (HR3.out.on hb4)
        have HO4 := Lib.hid (HO3.out.on hb4)
        have Hb4 := Lib.hid hb4
        clear hb4 e0 e1 e2 e3 e4 el
        have e0 := HO4.out.cell 0
        have e1 := HO4.out.cell 1
        have e2 := HO4.out.cell 2
        have e3 := HO4.out.cell 3
        have e4 := HO4.out.cell 4
        have el := HO4.out.lt
        go_wp2_with fail
        refine (HF.out w4 Hb4.out).mono ?_
        rintro e w5 ⟨rfl, hb5⟩
        have HB5 := Lib.hid (bch HB4.out hb5)
        have Hb5 := Lib.hid (bch Hb4.out hb5)
        have hrow := HR4.out.on hb5
        have ho5 := HO4.out.on hb5
        clear hb5 e0 e1 e2 e3 e4 el
        have e0 := ho5.cell 0
        have e1 := ho5.cell 1
        have e2 := ho5.cell 2
        have e3 := ho5.cell 3
        have e4 := ho5.cell 4
        have el := ho5.lt
        clear ho5
        have c0 := hrow.cell 0
        have c1 := hrow.cell 1
        have c2 := hrow.cell 2
        have c3 := hrow.cell 3
        have c4 := hrow.cell 4
        have f0 := hrow.frozen 0
        have f1 := hrow.frozen 1
        have f2 := hrow.frozen 2
        have f3 := hrow.frozen 3
        have f4 := hrow.frozen 4
        have hl3 := hrow.lt
        clear hrow
        go_wp2
        have hO := set5 w5 w.heap.size (.int .i64 f.kind) (.int .i64 f.table) (.slice f.es.A f.es.n f.es.c) (.slice f.cs.A f.cs.n f.cs.c) (.slice f.ks.A f.ks.n f.ks.c)
        refine bodyPost_ret (v := .tuple #[fpV f, .bool true]) (by simp [results, Tryz.results6, go_sem, fpV, c0, c1, c2, c3, c4]) rfl ⟨?_, .inl ⟨x, f, Heq.out.1, Heq.out.2, rfl, ?_⟩⟩
        · exact Only.from_ HB5.out rfl hO (fun i hi => by omega)
        · exact ((HX3.out.keep Hb5.out.size fun k _ hk => Hb5.out.block k hk).keep hO.size fun k hk hl => hO.block k hl (by omega)).mono fun k _ hk => by show w.heap.size ≤ k; omega
      · have hQS : (Q.toList == S.toList) = false := by
          rw [← hQ, ← HS.out, bArr_list, bArr_list, beq_eq_false_iff_ne]
          exact heq
        have Heq := Lib.hid heq
        clear HF0 hQ heq hok
        go_wp2_with fail
        refine HV.out.mono ?_
        rintro e w4 ⟨rfl, hb4⟩
        have HB4 := Lib.hid (bch HB3.out hb4)
        have HR4 := Lib.hid (HR3.out.on hb4)
        have HO4 := Lib.hid (HO3.out.on hb4)
        have Hb4 := Lib.hid hb4
        clear hb4 e0 e1 e2 e3 e4 el
        have e0 := HO4.out.cell 0
        have e1 := HO4.out.cell 1
        have e2 := HO4.out.cell 2
        have e3 := HO4.out.cell 3
        have e4 := HO4.out.cell 4
        have el := HO4.out.lt
        go_wp2_with fail
        refine (HF.out w4 Hb4.out).mono ?_
        rintro e w5 ⟨rfl, hb5⟩
        have HB5 := Lib.hid (bch HB4.out hb5)
        have hrow := HR4.out.on hb5
        clear hb5 e0 e1 e2 e3 e4 el
        have c0 := hrow.cell 0
        have c1 := hrow.cell 1
        have c2 := hrow.cell 2
        have c3 := hrow.cell 3
        have c4 := hrow.cell 4
        have f0 := hrow.frozen 0
        have f1 := hrow.frozen 1
        have f2 := hrow.frozen 2
        have f3 := hrow.frozen 3
        have f4 := hrow.frozen 4
        have hl3 := hrow.lt
        clear hrow
        go_wp2
        refine bodyPost_ret (v := .tuple #[.agg #[.int .i64 0, .int .i64 0, .slice none 0 0, .slice none 0 0, .slice none 0 0], .bool false]) (by simp [results, Tryz.results6, go_sem, c0, c1, c2, c3, c4]) rfl ⟨?_, .inr ⟨fun x' h1 h2 => ?_, rfl⟩⟩
        · exact Only.from_ HB5.out rfl (set5 w5 w.heap.size _ _ _ _ _) (fun i hi => by omega)
        · have h3 := readP_backS h1 h2
          rw [HSX.out] at h3
          cases h3
          exact Heq.out h2
end Go.Proofs.YtmhlpjfijpomkaaGreatDoor
