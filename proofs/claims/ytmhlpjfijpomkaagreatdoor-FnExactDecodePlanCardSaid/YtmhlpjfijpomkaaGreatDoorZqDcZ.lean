/-
  Contract: the reference's parser reads a plan (plan). (Printed by wip/dcz.py.)
-/
import Derived.Test.YtmhlpjfijpomkaaGreatDoorProg
import Derived.Test.YtmhlpjfijpomkaaGreatDoorZqGh
import Derived.Test.YtmhlpjfijpomkaaGreatDoorZqGh
import Derived.Deep.CutBlock
import Derived.Test.YtmhlpjfijpomkaaGreatDoorZqGh
namespace Go.Proofs.YtmhlpjfijpomkaaGreatDoor
open Go.RowKit Go.Qo
set_option linter.unusedVariables false
set_option linter.unusedSimpArgs false

theorem zeroPlT5 : (Tryz.prog.info? 26).map (fun i => (i.zero, i.size, i.bytes)) = some (some (.agg #[.int .i64 0, .int .i64 0, .slice none 0 0, .slice none 0 0, .slice none 0 0]), 5, 88) := by kernel_rfl
theorem zeroIntT5 : (Tryz.prog.info? 3).map (fun i => (i.zero, i.size, i.bytes)) = some (some (.int .i64 0), 1, 8) := by kernel_rfl
def PSp (b : Nat) (L : List UInt8) (w : World) (res : Pl × List UInt8 × Bool) (e : Ending) (w' : World) : Prop :=
  ∃ f, e = .returned (fpV f) ∧ PlT (fun k => w.heap.size ≤ k) w' f res.1 ∧ Ps w' b L res.2.1 res.2.2 ∧ But b w w'
def PPs (d : Nat) : Prop := ∀ (b : Nat) (L r : List UInt8) (ok : Bool) (w : World), Ps w b L r ok → L.length ≤ 1048576 →
  Calls Tryz.prog 25 #[.pointer (some ⟨b, 0, none⟩), .int .i64 d] w (PSp b L w (spPl d r ok))
theorem Ps.ok2 {w : World} {b : Nat} {L r : List UInt8} {ok : Bool} (h : Ps w b L r ok) : w.cell? ⟨b, 2, none⟩ = some (.bool ok) := by
  obtain ⟨a, _, hr⟩ := h
  exact hr.cell 2
theorem Ps.off {w : World} {b : Nat} {L r : List UInt8} {ok : Bool} (h : Ps w b L r ok) : Ps (w.setCell ⟨b, 2, none⟩ (.bool false)) b L r false := by
  obtain ⟨a, h1, hr⟩ := h
  exact ⟨a, h1, hr.set 2 _⟩
theorem Ps.fz2 {w : World} {b : Nat} {L r : List UInt8} {ok : Bool} (h : Ps w b L r ok) : w.frozen? ⟨b, 2, none⟩ = false := by
  obtain ⟨a, _, hr⟩ := h
  exact hr.frozen 2
theorem Ps.keep {w w' : World} {b : Nat} {L r : List UInt8} {ok : Bool} (h : Ps w b L r ok) (hk : w'.heap[b]? = w.heap[b]?) : Ps w' b L r ok := by
  obtain ⟨a, h1, hr⟩ := h
  exact ⟨a, h1, hr.keep hk⟩
theorem word35 {r : List UInt8} (h : r.head? = some 35) : ∃ m, wordOf r = 35 :: m := by
  cases r with
  | nil => cases h
  | cons c r =>
    have : c = 35 := by simpa using h
    subst this
    exact ⟨wordOf r, (word_go (by decide)).1⟩
theorem spPl_body (d : Nat) : ∃ (kid : List UInt8 → Bool → Pl × List UInt8 × Bool) (deep : Bool), (∀ r ok, spPl d r ok = spBody kid deep r ok) ∧ (deep = true ↔ 0 < d) ∧ (0 < d → kid = spPl (d - 1)) := by
  cases d with
  | zero => exact ⟨_, false, fun _ _ => rfl, by simp, fun h => absurd h (by omega)⟩
  | succ d => exact ⟨_, true, fun _ _ => rfl, by simp, fun _ => rfl⟩
theorem spParts_go {kid : List UInt8 → Bool → Pl × List UInt8 × Bool} {deep : Bool} {k : Int} {n : Nat} {es : List Ex} {cs : List Int} {ks : List Pl} {r : List UInt8} : spParts kid deep k (n + 1) es cs ks (32 :: r) true =
      (if isPl r = true ∧ deep = true then spParts kid deep k n es cs (ks ++ [(kid r true).1]) (kid r true).2.1 (kid r true).2.2
      else if k = 8 ∧ r.head? = some 35 then spParts kid deep k n es (cs ++ [pInt (wordOf r).tail]) ks (restOf r) true
      else if isPl r = true then spParts kid deep k n es cs ks r false
      else spParts kid deep k n (es ++ [(spEx 8 r true).1]) cs ks (spEx 8 r true).2.1 (spEx 8 r true).2.2) := by
  rw [spParts, if_pos ⟨rfl, rfl⟩]
  rfl
theorem spParts_end {kid : List UInt8 → Bool → Pl × List UInt8 × Bool} {deep : Bool} {k : Int} {n : Nat} {es : List Ex} {cs : List Int} {ks : List Pl} {r : List UInt8} {ok : Bool} (h : ¬ (r.head? = some 32 ∧ ok = true)) : spParts kid deep k n es cs ks r ok = ((es, cs, ks), r, ok) := by
  cases n with
  | zero => rfl
  | succ n => rw [spParts, if_neg h]
theorem spKindP_range (l : List UInt8) : 0 ≤ spKind plName 1 8 l ∧ spKind plName 1 8 l ≤ 8 := by
  unfold spKind
  cases hk : kindOf plName 1 8 l with
  | none => simp
  | some k =>
    have := kindOf_name 8 1 k l hk
    simp
    omega
theorem headD_ne {r : List UInt8} (c : UInt8) (kk : Int) (hk : (c.toNat : Int) = kk) (h0 : c ≠ 0) (h : ¬ r.head? = some c) : (((r.headD 0).toNat : Int) == kk) = false := by
  cases r with
  | nil => exact (u8_ne c kk hk (fun e => h0 e.symm)).2
  | cons x r => exact (u8_ne (c := x) c kk hk (fun (e : x = c) => h (by rw [e]; rfl))).2
theorem headD_eq {r : List UInt8} (c : UInt8) (kk : Int) (hk : (c.toNat : Int) = kk) (h : r.head? = some c) : (((r.headD 0).toNat : Int) == kk) = true := by
  cases r with
  | nil => cases h
  | cons x r =>
    have : x = c := by simpa using h
    rw [this]
    show ((c.toNat : Int) == kk) = true
    rw [hk]
    simp

set_option maxRecDepth 20000 in
set_option maxHeartbeats 4000000 in
/-- The walk, the kids' contract given. -/
theorem spPlan_of (d : Nat) (hd8 : d ≤ 8) (ih : ∀ d', d = d' + 1 → PPs d') : PPs d := fun b L r ok w h hL => by
  have hbl := h.lt
  have hL8 : L.length ≤ 8388608 := by omega
  have hrL := h.len
  obtain ⟨W1, hW1⟩ : ∃ z, (w.alloc (.cells #[.int .i64 0, .int .i64 0, .slice none 0 0, .slice none 0 0, .slice none 0 0] 26)).alloc (.cells #[.int .i64 0, .int .i64 0, .slice none 0 0, .slice none 0 0, .slice none 0 0] 26) = z := ⟨_, rfl⟩
  obtain ⟨ob, hob⟩ : ∃ n, w.heap.size + 1 = n := ⟨_, rfl⟩
  have B1 : Below w.heap.size w W1 := by rw [← hW1]; exact balloc (balloc (Below.refl _ _) _) _
  have r1 : Row W1 w.heap.size 26 [.int .i64 0, .int .i64 0, .slice none 0 0, .slice none 0 0, .slice none 0 0] := by rw [← hW1]; exact Row.first _ _ _ _
  have r2 : Row W1 ob 26 [.int .i64 0, .int .i64 0, .slice none 0 0, .slice none 0 0, .slice none 0 0] := by rw [← hW1, ← hob]; exact Row.second _ _ _ _
  have hs1 : W1.heap.size = ob + 1 := by rw [← hW1, ← hob]; simp
  have H1 := Lib.hid (h.on B1)
  have HW1 := Lib.hid hW1
  have HB1 := Lib.hid (show But b w W1 from only_below B1)
  have HR1 := Lib.hid r1
  have HO1 := Lib.hid r2
  have Hs1 := Lib.hid hs1
  have Hob := Lib.hid hob
  have hobw : w.heap.size + 1 ≤ ob := by omega
  obtain ⟨kid, deep, hbody, hdeep, hkid⟩ := spPl_body d
  obtain ⟨RES, hR⟩ : ∃ R, spPl d r ok = R := ⟨_, rfl⟩
  rw [hR]
  rw [hbody] at hR
  obtain ⟨l1, hl1⟩ : ∃ x, (spEat 40 r ok).1 = x := ⟨_, rfl⟩
  obtain ⟨ok1, hok1⟩ : ∃ x, (spEat 40 r ok).2 = x := ⟨_, rfl⟩
  obtain ⟨name, hname⟩ : ∃ m, wordOf l1 = m := ⟨_, rfl⟩
  obtain ⟨K, hK⟩ : ∃ K, spKind plName 1 8 name = K := ⟨_, rfl⟩
  have hKr : 0 ≤ K ∧ K ≤ 8 := by rw [← hK]; exact spKindP_range name
  have HRv := Lib.hid (show RES = spMk K (spTab K (restOf l1) ok1).1 (spParts kid deep K (spTab K (restOf l1) ok1).2.1.length [] [] [] (spTab K (restOf l1) ok1).2.1 (spTab K (restOf l1) ok1).2.2) by
    rw [← hR]
    unfold spBody spFrom spHead
    rw [hl1, hok1, hname, hK])
  have HE := Lib.hid (eat_ok 40 40 rfl H1.out hL8)
  rw [hl1, hok1] at HE
  have HK := Lib.hid (And.intro hname hK)
  have HIH := Lib.hid (show 0 < d → (∃ d1 : Nat, d - 1 = d1 ∧ PPs d1 ∧ IntKind.i64.wrap ((d : Int) - 1) = (d1 : Int) ∧ kid = spPl d1) from fun h0 => ⟨d - 1, rfl, ih (d - 1) (by omega), by rw [show (d : Int) - 1 = ((d - 1 : Nat) : Int) by omega]; exact IntWalk.i64_in _ (by omega), hkid h0⟩)
  have Hdeep := Lib.hid hdeep
  clear h hW1 B1 r1 r2 hs1 hob hbody hR hl1 hok1 hname hK hkid ih hdeep
  go_enter Tryz.func25, Tryz.ntmps25
  go_upto_region 2 with fail
  rw [HW1.out, Hob.out]
  go_wp2_with fail
  refine HE.out.mono ?_
  rintro e w2 ⟨rfl, h2, hb2, hz2⟩
  have H2 := Lib.hid h2
  have HB2 := Lib.hid (HB1.out.trans hb2)
  have HR2 := Lib.hid (HR1.out.only hb2 (by omega))
  have HO2 := Lib.hid (HO1.out.only hb2 (by omega))
  have hz2 : ob + 1 ≤ w2.heap.size := by have := Hs1.out; omega
  clear h2 hb2
  go_wp2_with fail
  refine (spWord_ok H2.out hL8).mono ?_
  rintro e w5 ⟨rfl, h5, hb5⟩
  have H5 := Lib.hid h5
  have HB5 := Lib.hid (HB2.out.trans hb5)
  have HR5 := Lib.hid (HR2.out.only hb5 (by omega))
  have HO5 := Lib.hid (HO2.out.only hb5 (by omega))
  have hz5 : ob + 1 ≤ w5.heap.size := by have := hb5.size; omega
  clear h5 hb5 hz2
  rw [HK.out.1]
  obtain ⟨NM, hNM⟩ : ∃ S, bArr name = S := ⟨_, rfl⟩
  rw [hNM]
  have HNM := Lib.hid hNM
  clear hNM
  obtain ⟨nb, hnb⟩ : ∃ n, w5.heap.size = n := ⟨_, rfl⟩
  go_wp2_with fail
  refine (planNames_ok w5).mono ?_
  rintro e w6 ⟨rfl, hb6, hrw6⟩
  rw [hnb] at hrw6 ⊢
  have hnb1 : ob + 1 ≤ nb := by omega
  have H6 := Lib.hid (H5.out.on hb6)
  have HB6 := Lib.hid (HB5.out.below hb6)
  have HR6 := Lib.hid (HR5.out.on hb6)
  have HO6 := Lib.hid (HO5.out.on hb6)
  have HN6 := Lib.hid hrw6
  have hz6 : ob + 1 ≤ w6.heap.size := by have := hb6.size; omega
  have Hnb := Lib.hid hnb
  clear hb6 hrw6 hnb hz5
  go_wp2
  go_loopg [8] 8 (fun g iv wr => ∃ i : Nat, i ≤ 8 ∧ g = 8 - i ∧ iv = .int .i64 (1 + (i : Int)) ∧ Row wr ob 26 [.int .i64 (spKind plName 1 i name), .int .i64 0, .slice none 0 0, .slice none 0 0, .slice none 0 0] ∧
    Row wr nb 9 (plTexts.map fun l => .string (bArr l)) ∧ Row wr w.heap.size 26 [.int .i64 0, .int .i64 0, .slice none 0 0, .slice none 0 0, .slice none 0 0] ∧ Ps wr b L (restOf l1) ok1 ∧ But b w wr ∧ ob + 1 ≤ wr.heap.size)
  case atStart => exact ⟨0, by omega, by omega, rfl, HO6.out, HN6.out, HR6.out, H6.out, HB6.out, hz6⟩
  case round =>
    obtain ⟨i, hi, rfl, rfl, hro, hrn, hrr, hps, hb, hzr⟩ := hrel
    have hlo := hro.lt
    have hln := hrn.lt
    have fo0 := hro.frozen 0
    have HO := Lib.hid hro
    have HN := Lib.hid hrn
    have HRR := Lib.hid hrr
    have HP := Lib.hid hps
    have HB := Lib.hid hb
    have o0 : wr.cell? ⟨ob, 0, none⟩ = some (.int .i64 (spKind plName 1 i name)) := hro.cell 0
    by_cases hlt : i < 8
    · obtain ⟨T, hT⟩ : ∃ T, bArr (plName (1 + (i : Int))) = T := ⟨_, rfl⟩
      have hcell : wr.cell? ⟨nb, 1 + i, none⟩ = some (.string T) := plName_at i (by omega) hrn hT
      have HT := Lib.hid hT
      clear hro hrn hrr hps hb hT
      have hi12 : 1 + (i : Int) < 9 := by omega
      have hi12n : 1 + i < 9 := by omega
      have hw1 : IntKind.i64.wrap (1 + (i : Int) + 1) = 1 + (i : Int) + 1 := IntWalk.i64_in _ (by omega)
      have e3 : (1 + (i : Int)).toNat = 1 + i := by omega
      by_cases he : plName (1 + (i : Int)) = name
      · have heq : (T.toList == NM.toList) = true := by rw [← HT.out, he, HNM.out]; simp
        have HE := Lib.hid he
        clear he
        go_wp2
        go_roundg (8 - (i + 1))
        case measure => omega
        case rel =>
          have hs := Only.set (S := fun k => k = ob) (p := ⟨ob, 0, none⟩) (Only.refl wr) (.inl rfl) (.int .i64 (1 + (i : Int)))
          refine ⟨i + 1, by omega, rfl, by go_num, ?_, HN.out.only hs (by show ¬ nb = ob; omega), HRR.out.only hs (by show ¬ w.heap.size = ob; omega), HP.out.only hs (by show ¬ b = ob; omega), HB.out.step hs (fun j hj => .inr (by omega)), by simp only [World.setCell, Array.size_modify]; omega⟩
          rw [spKind_yes (fun j k h1 h2 h3 h4 h5 => plName_inj (by omega) (by omega) h5) HE.out]
          exact HO.out.set 0 _
      · have heq : (T.toList == NM.toList) = false := by
          rw [← HT.out, ← HNM.out, bArr_list, bArr_list, beq_eq_false_iff_ne]
          exact he
        have HE := Lib.hid he
        clear he
        go_wp2
        go_roundg (8 - (i + 1))
        case measure => omega
        case rel =>
          refine ⟨i + 1, by omega, rfl, by go_num, ?_, HN.out, HRR.out, HP.out, HB.out, hzr⟩
          rw [spKind_no HE.out]
          exact HO.out
    · obtain rfl : i = 8 := by omega
      rw [HK.out.2] at HO o0
      clear hro hrn hrr hps hb fo0 hlt
      have fo1 := HO.out.frozen 1
      go_upto_if 31 with fail
      go_cut [] (fun wx => ∃ (t : Int) (l2 : List UInt8) (ok2 : Bool), spTab K (restOf l1) ok1 = (t, l2, ok2) ∧ Row wx ob 26 [.int .i64 K, .int .i64 t, .slice none 0 0, .slice none 0 0, .slice none 0 0] ∧ Row wx w.heap.size 26 [.int .i64 0, .int .i64 0, .slice none 0 0, .slice none 0 0, .slice none 0 0] ∧ Ps wx b L l2 ok2 ∧ But b w wx ∧ ob + 1 ≤ wx.heap.size)
      case first =>
        by_cases k1 : K = 1
        · have k1b : (K == 1) = true := by rw [k1]; rfl
          obtain ⟨q1, hq1⟩ : ∃ x, (spEat 32 (restOf l1) ok1).1 = x := ⟨_, rfl⟩
          obtain ⟨o1, ho1⟩ : ∃ x, (spEat 32 (restOf l1) ok1).2 = x := ⟨_, rfl⟩
          have HTb := Lib.hid (show spTab K (restOf l1) ok1 = (pInt (wordOf q1), restOf q1, o1) by unfold spTab; rw [if_pos k1, hq1, ho1])
          have HEt := Lib.hid (eat_ok 32 32 rfl HP.out hL8)
          rw [hq1, ho1] at HEt
          clear hq1 ho1 k1
          go_wp2_with fail
          refine HEt.out.mono ?_
          rintro e w7 ⟨rfl, h7, hb7, hz7⟩
          have H7 := Lib.hid h7
          have HB7 := Lib.hid (HB.out.trans hb7)
          have HR7 := Lib.hid (HRR.out.only hb7 (by omega))
          have HO7 := Lib.hid (HO.out.only hb7 (by omega))
          have hz7 : ob + 1 ≤ w7.heap.size := by omega
          clear h7 hb7 o0
          go_wp2_with fail
          refine (spWord_ok H7.out hL8).mono ?_
          rintro e w8 ⟨rfl, h8, hb8⟩
          have hwl : (wordOf q1).length ≤ 8388608 := by
            have h1 := wordOf_len q1
            have h2 := H7.out.len
            omega
          have H8 := Lib.hid h8
          have HB8 := Lib.hid (HB7.out.trans hb8)
          have HR8 := Lib.hid (HR7.out.only hb8 (by omega))
          have HO8 := Lib.hid (HO7.out.only hb8 (by omega))
          have hz8 : ob + 1 ≤ w8.heap.size := by have := hb8.size; omega
          clear h8 hb8
          have HPI := Lib.hid (parseInt_ok (wordOf q1) w8 hwl)
          obtain ⟨M, hM⟩ : ∃ S, bArr (wordOf q1) = S := ⟨_, rfl⟩
          rw [hM] at HPI ⊢
          clear hM
          go_wp2_with fail
          refine HPI.out.mono ?_
          rintro e w9 ⟨rfl, rfl⟩
          have o1' := HO8.out.cell 1
          have p1' := HO8.out.frozen 1
          have l1' := HO8.out.lt
          go_wp2
          go_meet
          case rel =>
            have hs := Only.set (S := fun k => k = ob) (p := ⟨ob, 1, none⟩) (Only.refl w9) (.inl rfl) (.int .i64 (pInt (wordOf q1)))
            exact ⟨_, _, _, HTb.out, HO8.out.set 1 _, HR8.out.only hs (by show ¬ w.heap.size = ob; omega), H8.out.only hs (by show ¬ b = ob; omega), HB8.out.step hs (fun j hj => .inr (by omega)), by simp only [World.setCell, Array.size_modify]; omega⟩
        · have k1b : (K == 1) = false := by rw [beq_eq_false_iff_ne]; exact k1
          have HTb := Lib.hid (show spTab K (restOf l1) ok1 = (0, restOf l1, ok1) by unfold spTab; rw [if_neg k1])
          clear k1
          go_wp2
          go_meet
          case rel => exact ⟨_, _, _, HTb.out, HO.out, HRR.out, HP.out, HB.out, hzr⟩
      case rest =>
        clear HO HN HRR HP HB hzr o0 fo1 hlo hln
        obtain ⟨t, l2, ok2, htb, hro, hrr, hps, hb, hzr⟩ := hcut
        have hRs : RES = spMk K t (spParts kid deep K l2.length [] [] [] l2 ok2) := by rw [HRv.out, htb]
        have HRs := Lib.hid hRs
        have HO := Lib.hid hro
        have HRR := Lib.hid hrr
        have HP := Lib.hid hps
        have HB := Lib.hid hb
        have hl2 := hps.len
        clear htb hro hrr hps hb hRs
        go_upto_block 2 with fail
        go_cut [] (fun wx => ∃ (es : List Ex) (cs : List Int) (ks : List Pl) (fs : List FE) (gs : List FP) (A1 A2 A3 : Option Addr) (c1 c2 c3 : Nat) (l3 : List UInt8) (ok3 : Bool), RES = spMk K t ((es, cs, ks), l3, ok3) ∧ es.length + cs.length + ks.length ≤ 1048576 ∧ Thr 40 3 26 (ob + 1) wx (.slice A1 es.length c1) (.slice A2 cs.length c2) (.slice A3 ks.length c3) es cs ks fs gs ∧ Row wx ob 26 [.int .i64 K, .int .i64 t, .slice A1 es.length c1, .slice A2 cs.length c2, .slice A3 ks.length c3] ∧ Row wx w.heap.size 26 [.int .i64 0, .int .i64 0, .slice none 0 0, .slice none 0 0, .slice none 0 0] ∧ Ps wx b L l3 ok3 ∧ But b w wx ∧ ob + 1 ≤ wx.heap.size)
        case first =>
          go_wp2_with fail
          go_loopg [] l2.length (fun g wr => ∃ (m : Nat) (es : List Ex) (cs : List Int) (ks : List Pl) (fs : List FE) (gs : List FP) (A1 A2 A3 : Option Addr) (c1 c2 c3 : Nat) (lc : List UInt8) (okc : Bool), g = lc.length ∧ lc.length ≤ m ∧ es.length + cs.length + ks.length + lc.length ≤ l2.length ∧ RES = spMk K t (spParts kid deep K m es cs ks lc okc) ∧ Thr 40 3 26 (ob + 1) wr (.slice A1 es.length c1) (.slice A2 cs.length c2) (.slice A3 ks.length c3) es cs ks fs gs ∧ Row wr ob 26 [.int .i64 K, .int .i64 t, .slice A1 es.length c1, .slice A2 cs.length c2, .slice A3 ks.length c3] ∧ Row wr w.heap.size 26 [.int .i64 0, .int .i64 0, .slice none 0 0, .slice none 0 0, .slice none 0 0] ∧ Ps wr b L lc okc ∧ But b w wr ∧ ob + 1 ≤ wr.heap.size)
          case atStart => exact ⟨l2.length, [], [], [], [], [], none, none, none, 0, 0, 0, l2, ok2, rfl, Nat.le_refl _, by simp, HRs.out, Thr.nil, HO.out, HRR.out, HP.out, HB.out, hzr⟩
          case round =>
            clear HO HRR HP HB hzr HRs
            obtain ⟨m, es, cs, ks, fs, gs, A1, A2, A3, c1, c2, c3, lc, okc, rfl, hm, hcnt, hRc, hthr, hro, hrr, hps, hb, hzw⟩ := hrel
            have HRc := Lib.hid hRc
            have HT3 := Lib.hid hthr
            have HRo := Lib.hid hro
            have HRr := Lib.hid hrr
            have HPs := Lib.hid hps
            have HB := Lib.hid hb
            have HC := Lib.hid (And.intro hm hcnt)
            have hlol := hro.lt
            have PK := Lib.hid (peek_ok hps hL8)
            obtain ⟨pk, hpk⟩ : ∃ pk : Nat, (lc.headD 0).toNat = pk := ⟨_, rfl⟩
            rw [hpk] at PK
            have p2 := hps.ok2
            have hblr := hps.lt
            clear hRc hthr hro hrr hps hb hcnt hm
            by_cases hgo : lc.head? = some 32 ∧ okc = true
            case neg =>
              have HEnd := Lib.hid (show RES = spMk K t ((es, cs, ks), lc, okc) by rw [HRc.out, spParts_end hgo])
              by_cases h32 : lc.head? = some 32
              · have hpb : ((pk : Int) == 32) = true := by rw [← hpk]; exact headD_eq 32 32 rfl h32
                have hokf : okc = false := by
                  cases okc with
                  | false => rfl
                  | true => exact absurd ⟨h32, rfl⟩ hgo
                subst hokf
                clear hgo h32 hpk
                go_wp2_with fail
                refine PK.out.mono ?_
                rintro e w6 ⟨rfl, hb6⟩
                have HP6 := Lib.hid (HPs.out.on hb6)
                have p6 := HP6.out.ok2
                have HT6 := Lib.hid (HT3.out.only (S := fun _ => False) (only_below hb6) fun _ h => h.elim)
                have HRo6 := Lib.hid (HRo.out.on hb6)
                have HRr6 := Lib.hid (HRr.out.on hb6)
                have HB6 := Lib.hid (HB.out.below hb6)
                have hz6 : ob + 1 ≤ w6.heap.size := by have := hb6.size; omega
                have hbl6 := HP6.out.lt
                clear hb6 p2
                go_wp2
                go_meet
                case rel => exact ⟨es, cs, ks, fs, gs, A1, A2, A3, c1, c2, c3, lc, false, HEnd.out, by have := HC.out; omega, HT6.out, HRo6.out, HRr6.out, HP6.out, HB6.out, hz6⟩
              · have hpb : ((pk : Int) == 32) = false := by rw [← hpk]; exact headD_ne 32 32 rfl (by decide) h32
                clear hgo h32 hpk
                go_wp2_with fail
                refine PK.out.mono ?_
                rintro e w6 ⟨rfl, hb6⟩
                have HP6 := Lib.hid (HPs.out.on hb6)
                have p6 := HP6.out.ok2
                have HT6 := Lib.hid (HT3.out.only (S := fun _ => False) (only_below hb6) fun _ h => h.elim)
                have HRo6 := Lib.hid (HRo.out.on hb6)
                have HRr6 := Lib.hid (HRr.out.on hb6)
                have HB6 := Lib.hid (HB.out.below hb6)
                have hz6 : ob + 1 ≤ w6.heap.size := by have := hb6.size; omega
                have hbl6 := HP6.out.lt
                clear hb6 p2
                go_wp2
                go_meet
                case rel => exact ⟨es, cs, ks, fs, gs, A1, A2, A3, c1, c2, c3, lc, okc, HEnd.out, by have := HC.out; omega, HT6.out, HRo6.out, HRr6.out, HP6.out, HB6.out, hz6⟩
            obtain ⟨h32, rfl⟩ := hgo
            have hpb : ((pk : Int) == 32) = true := by rw [← hpk]; exact headD_eq 32 32 rfl h32
            have hlc := head32 h32
            obtain ⟨r2, hr2⟩ : ∃ x, lc.tail = x := ⟨_, rfl⟩
            rw [hr2] at hlc
            clear h32 hpk hr2
            subst hlc
            obtain ⟨m', rfl⟩ : ∃ m', m = m' + 1 := ⟨m - 1, by have := HC.out.1; simp at this; omega⟩
            have HRd := Lib.hid (show RES = spMk K t (if isPl r2 = true ∧ deep = true then spParts kid deep K m' es cs (ks ++ [(kid r2 true).1]) (kid r2 true).2.1 (kid r2 true).2.2
              else if K = 8 ∧ r2.head? = some 35 then spParts kid deep K m' es (cs ++ [pInt (wordOf r2).tail]) ks (restOf r2) true
              else if isPl r2 = true then spParts kid deep K m' es cs ks r2 false
              else spParts kid deep K m' (es ++ [(spEx 8 r2 true).1]) cs ks (spEx 8 r2 true).2.1 (spEx 8 r2 true).2.2) by rw [HRc.out, spParts_go])
            have HC2 := Lib.hid (show r2.length ≤ m' ∧ es.length + cs.length + ks.length + r2.length + 1 ≤ l2.length by have := HC.out; simp at this; omega)
            go_wp2_with fail
            refine PK.out.mono ?_
            rintro e w6 ⟨rfl, hb6⟩
            have HP6 := Lib.hid (HPs.out.on hb6)
            have p6 := HP6.out.ok2
            have HT6 := Lib.hid (HT3.out.only (S := fun _ => False) (only_below hb6) fun _ h => h.elim)
            have HRo6 := Lib.hid (HRo.out.on hb6)
            have HRr6 := Lib.hid (HRr.out.on hb6)
            have HB6 := Lib.hid (HB.out.below hb6)
            have hz6 : ob + 1 ≤ w6.heap.size := by have := hb6.size; omega
            have hbl6 := HP6.out.lt
            have HE6 := Lib.hid (eat_ok 32 32 rfl HP6.out hL8)
            rw [spEat_yes] at HE6
            clear hb6 p2
            go_wp2_with fail
            refine HE6.out.mono ?_
            rintro e w7 ⟨rfl, h7, hb7, hz7⟩
            have h7 : Ps w7 b L r2 true := h7
            have HT7 := Lib.hid (HT6.out.only hb7 fun j (hj : j = b) => by show j < ob + 1; omega)
            have HRo7 := Lib.hid (HRo6.out.only hb7 (by omega))
            have HRr7 := Lib.hid (HRr6.out.only hb7 (by omega))
            have HB7 := Lib.hid (HB6.out.trans hb7)
            have hz7 : ob + 1 ≤ w7.heap.size := by omega
            have IP := Lib.hid (fun (z : World) (hz : Ps z b L r2 true) => isPlan_ok hz hL8)
            obtain ⟨q, hq⟩ : ∃ q, isPl r2 = q := ⟨_, rfl⟩
            rw [hq] at IP HRd
            have HP7 := Lib.hid h7
            clear h7 hb7 p6
            have WRD := Lib.hid (fun (z : World) (hz : Ps z b L r2 true) => spWord_ok hz hL8)
            have PK2 := Lib.hid (fun (z : World) (hz : Ps z b L r2 true) => peek_ok hz hL8)
            have hr2L : r2.length ≤ 1048576 := by have := HC2.out; omega
            by_cases hqd : q = true ∧ 0 < d
            · obtain ⟨hqt, hd0⟩ := hqd
              subst hqt
              obtain ⟨d1, hd1, hpps, hwd, hkid⟩ := HIH.out hd0
              have hdeep : deep = true := Hdeep.out.2 hd0
              have HRe := Lib.hid (show RES = spMk K t (spParts kid deep K m' es cs (ks ++ [(kid r2 true).1]) (kid r2 true).2.1 (kid r2 true).2.2) by rw [HRd.out, if_pos ⟨rfl, hdeep⟩])
              have IHd := Lib.hid hpps
              have Hkid := Lib.hid hkid
              have hdI : (0 : Int) < (d : Int) := by omega
              clear hd1 hpps hkid hdeep hd0
              go_wp2_with fail
              refine (IP.out _ HP7.out).mono ?_
              rintro e w8 ⟨rfl, hb8⟩
              have HP8 := Lib.hid (HP7.out.on hb8)
              have HT8 := Lib.hid (HT7.out.only (S := fun _ => False) (only_below hb8) fun _ h => h.elim)
              have HRo8 := Lib.hid (HRo7.out.on hb8)
              have HRr8 := Lib.hid (HRr7.out.on hb8)
              have HB8 := Lib.hid (HB7.out.below hb8)
              have hz8 : ob + 1 ≤ w8.heap.size := by have := hb8.size; omega
              have hlol8 := HRo8.out.lt
              have hbl8 := HP8.out.lt
              clear hb8
              go_wp2
              have SB := Lib.hid (fun (z : World) (hz : But b w8 z) => show z.cell? ⟨ob, 4, none⟩ = some (.slice A3 ks.length c3) from (HRo8.out.only hz (by omega)).cell 4)
              obtain ⟨u, hu⟩ : ∃ u, w8.drew = u := ⟨_, rfl⟩
              have Bu := Lib.hid (show Below w8.heap.size w8 u from hu ▸ (Below.refl _ _).drew)
              have hus : u.heap.size = w8.heap.size := by rw [← hu]; rfl
              have Hu := Lib.hid hu
              clear hu
              refine wp_region_g 9 (fun z => z.cell? ⟨ob, 4, none⟩ = some (.slice A3 ks.length c3)) (by kernel_rfl) ?_ (fun hHeld => ?_)
              · exact SB.out _ ((Only.refl (S := fun k => k = b) w8).drew)
              rw [Hu.out] at hHeld ⊢
              refine takeG (i := 0) (v := ?v1) rfl (by kernel_rfl) (by kernel_rfl) (by kernel_rfl) (by kernel_rfl) (fun _ _ _ h => h) (Or.inl ⟨by rfl, ?hy1⟩) (by assumption) ?_
              case hy1 => ((intro w' hSw; (try dsimp only at hSw); go_simp) <;> with_reducible rfl)
              try simp only [Act.put, List.setIfInBounds_toArray, List.set_cons_zero, List.set_cons_succ]
              refine takeG (i := 1) (v := ?v2) rfl (by kernel_rfl) (by kernel_rfl) (by kernel_rfl) (by kernel_rfl) (fun _ _ _ h => h) (Or.inl ⟨by rfl, ?hy2⟩) (by assumption) ?_
              case hy2 => ((intro w' hSw; (try dsimp only at hSw); go_simp) <;> with_reducible rfl)
              try simp only [Act.put, List.setIfInBounds_toArray, List.set_cons_zero, List.set_cons_succ]
              refine takeG (i := 2) (v := ?v3) rfl (by kernel_rfl) (by kernel_rfl) (by kernel_rfl) (by kernel_rfl) (fun _ _ _ h => h) (Or.inl ⟨by rfl, ?hy3⟩) (by assumption) ?_
              case hy3 => ((intro w' hSw; (try dsimp only at hSw); go_simp) <;> with_reducible rfl)
              try simp only [Act.put, List.setIfInBounds_toArray, List.set_cons_zero, List.set_cons_succ]
              refine takeG (i := 3) (v := ?v4) rfl (by kernel_rfl) (by kernel_rfl) (by kernel_rfl) (by kernel_rfl) (fun _ _ _ h => h) (Or.inl ⟨by rfl, ?hy4⟩) (by assumption) ?_
              case hy4 => ((intro w' hSw; (try dsimp only at hSw); go_simp) <;> with_reducible rfl)
              try simp only [Act.put, List.setIfInBounds_toArray, List.set_cons_zero, List.set_cons_succ]
              refine takeG (i := 4) (v := ?v5) rfl (by kernel_rfl) (by kernel_rfl) (by kernel_rfl) (by kernel_rfl) (fun _ _ _ h => h) (Or.inl ⟨by rfl, ?hy5⟩) (by assumption) ?_
              case hy5 => ((intro w' hSw; (try dsimp only at hSw); go_simp) <;> with_reducible rfl)
              try simp only [Act.put, List.setIfInBounds_toArray, List.set_cons_zero, List.set_cons_succ]
              refine wpAnyG_ready (rs := [5]) (by kernel_rfl) (by simp) ?_
              refine readyG rfl (fun K' hK => ?_) AllReadyG.nil
              go_simp
              go_at_call 25
              refine (IHd.out b L r2 true u (HP8.out.on Bu.out) hL).mono ?_
              rintro e u1 ⟨f', he, hx, hsc1, hb1⟩
              unfold fpV at he
              subst he
              obtain ⟨x, r3, ok3, hres⟩ : ∃ x r3 ok3, spPl d1 r2 true = (x, r3, ok3) := ⟨_, _, _, rfl⟩
              rw [hres] at hx hsc1
              have hx : PlT (fun k => u.heap.size ≤ k) u1 f' x := hx
              have hsc1 : Ps u1 b L r3 ok3 := hsc1
              have hb1 : But b u u1 := hb1
              have hr3 : r3.length ≤ r2.length := by
                obtain ⟨a, ha⟩ := spPl_tail d1 r2 true
                rw [hres] at ha
                have := congrArg List.length ha
                simp at this
                omega
              have HRf := Lib.hid (show RES = spMk K t (spParts kid deep K m' es cs (ks ++ [x]) r3 ok3) by rw [HRe.out, Hkid.out, hres])
              have Bt1 := Lib.hid ((only_below (S := fun k => k = b) Bu.out).trans hb1)
              have X1 := Lib.hid hx
              have Sc1 := Lib.hid hsc1
              have hz0 := Bu.out.size
              have hz1 := hb1.size
              clear hb1 hx hsc1 hres
              refine hK.out _ _ ?hS6 (fun hHeld => ?_)
              case hS6 => exact fun _ => SB.out _ Bt1.out
              replace hHeld := hHeld (by decide)
              clear hK K'
              try simp only [Act.put, List.setIfInBounds_toArray, List.set_cons_zero, List.set_cons_succ]
              refine wpAnyG_ready (rs := [6]) (by kernel_rfl) (by simp) ?_
              refine readyG rfl (fun K' hK => ?_) AllReadyG.nil
              obtain ⟨u2, hu2⟩ : ∃ z, u1.alloc (.cells #[.int .i64 f'.kind, .int .i64 f'.table, .slice f'.es.A f'.es.n f'.es.c, .slice f'.cs.A f'.cs.n f'.cs.c, .slice f'.ks.A f'.ks.n f'.ks.c] 26) = z := ⟨_, rfl⟩
              have hb2 : Below u1.heap.size u1 u2 := by rw [← hu2]; exact balloc (Below.refl _ _) _
              have hz2 : u2.heap.size = u1.heap.size + 1 := by rw [← hu2]; simp
              have S2 := Lib.hid (show Sl 5 fpC u2 u2.heap.size (some ⟨u1.heap.size, 0, none⟩) [f'] by rw [← hu2]; exact Row.sl' (t := 26) fpC_length ((Row.new u1 _ _).of rfl))
              have Bt2 := Lib.hid (Bt1.out.below hb2)
              have X2 := Lib.hid (X1.out.keep hb2.size fun k _ hl => hb2.block k hl)
              have Sc2 := Lib.hid (Sc1.out.on hb2)
              go_simp
              try rw [hu2]
              have Hu2 := Lib.hid hu2
              clear hu2 hb2
              refine hK.out _ _ ?hS7 (fun hHeld => ?_)
              case hS7 => exact fun _ => SB.out _ Bt2.out
              replace hHeld := hHeld (by decide)
              clear hK K'
              try simp only [Act.put, List.setIfInBounds_toArray, List.set_cons_zero, List.set_cons_succ]
              refine wpAnyG_ready (rs := [7]) (by kernel_rfl) (by simp) ?_
              refine readyG rfl (fun K' hK => ?_) AllReadyG.nil
              have T2 := HT8.out.only Bt2.out (fun j (hj : j = b) => show j < ob + 1 by omega)
              have howO := T2.2.1.2.2
              have hgl := T2.2.2.2.1
              have X3 := X2.out.mono (T := fun k => ob + 1 ≤ k ∧ free3 (.slice A1 es.length c1) (.slice A2 cs.length c2) (.slice A3 ks.length c3) k) fun k _ (hk : u.heap.size ≤ k) => ⟨by omega, HT8.out.new (n := w8.heap.size) (Nat.le_refl _) (by omega)⟩
              refine step_app3 rfl (.tmp 64) (.tmp 69) 24 rfl (ob + 1) 26 _ 5 88 fpC Tryz.underlying24 zeroPlT5 rfl (by decide) (by decide) fpC_length fpC_one _ gs rfl howO (some ⟨u1.heap.size, 0, none⟩) 1 1 [f'] rfl rfl S2.out (by have := HC2.out; rw [hgl]; simp; omega) (by omega) ?_
              intro v' u3 hown hgr hob3
              have T3 := T2.snocK X3 hown hgr hob3
              obtain ⟨A9, c9, hv9, hc91, hc92, _⟩ := hown.shape fpC_length
              have hti3 : (gs ++ [f']).length = ks.length + 1 := by rw [List.length_append, hgl]; rfl
              rw [hti3] at hv9 hc91
              subst hv9
              have hgo : ∀ k, (Value.slice A3 ks.length c3).ownBlock = some k → ob + 1 ≤ k := fun k hk => (howO.ty k hk).1
              have hgb : ∀ k, k < ob + 1 → k < u2.heap.size → u3.heap[k]? = u2.heap[k]? := fun k hk hl => hgr.block k hl fun e => by have := hgo k e.symm; omega
              have rr := HRo8.out.only Bt2.out (by omega)
              have rr0 := HRr8.out.only Bt2.out (by omega)
              have r3o := rr.keep (hgb ob (by omega) rr.lt)
              have r03 := Lib.hid (rr0.keep (hgb w.heap.size (by omega) rr0.lt))
              have C3 : u3.cell? ⟨ob, 4, none⟩ = some (.slice A3 ks.length c3) := r3o.cell 4
              have F3 := r3o.frozen 4
              have HB3x := Lib.hid ((HB8.out.trans Bt2.out).grown hgr fun k hk => .inr (by have := hgo k hk; omega))
              have Sc3 := Lib.hid (Sc2.out.keep (hgb b (by omega) (by omega)))
              have Hr3' := Lib.hid r3o
              have HT3n := Lib.hid T3
              have hgr3 := hgr.size
              have hl3 := r3o.lt
              clear T3 hown hgr hgo rr r3o rr0 howO
              clear hgl hti3 X3 T2
              refine hK.out _ _ ?hS8 (fun hHeld => ?_)
              case hS8 => exact fun _ => C3
              replace hHeld := hHeld (by decide)
              clear hK K'
              try simp only [Act.put, List.setIfInBounds_toArray, List.set_cons_zero, List.set_cons_succ]
              refine takeG (i := 8) (v := ?v9) rfl (by kernel_rfl) (by kernel_rfl) (by kernel_rfl) (by kernel_rfl) (fun _ _ _ h => h) (Or.inl ⟨by rfl, ?hy9⟩) (by assumption) ?_
              case hy9 => ((intro w' hSw; (try dsimp only at hSw); go_simp) <;> with_reducible rfl)
              try simp only [Act.put, List.setIfInBounds_toArray, List.set_cons_zero, List.set_cons_succ]
              refine wpAnyG_ready (rs := [9]) (by kernel_rfl) (by simp) ?_
              refine readyG rfl (fun K' hK => ?_) AllReadyG.nil
              go_simp
              refine hK.out _ _ ?hS10 (fun hHeld => ?_)
              case hS10 => exact fun h => absurd rfl h
              clear hK K'
              try simp only [Act.put, List.setIfInBounds_toArray, List.set_cons_zero, List.set_cons_succ]
              refine wpAnyG_done (by kernel_rfl) ?_ _
              go_wp2
              go_roundg r3.length
              case measure => first | omega | (simp; omega) | simp
              case rel =>
                have hso := Only.set (S := fun k => k = ob) (p := ⟨ob, 4, none⟩) (Only.refl u3) (.inl rfl) (.slice A9 (ks.length + 1) c9)
                have e1 : (ks ++ [x]).length = ks.length + 1 := by simp
                refine ⟨m', es, cs, ks ++ [x], fs, gs ++ [f'], A1, A2, A9, c1, c2, c9, r3, ok3, rfl, by have := HC2.out; omega, by have := HC2.out; rw [e1]; omega, HRf.out, ?_, ?_, r03.out.only hso (show ¬ w.heap.size = ob by omega), Sc3.out.only hso (show ¬ b = ob by omega), HB3x.out.step hso (fun j hj => .inr (by omega)), by simp only [World.setCell, Array.size_modify]; omega⟩
                · rw [e1]
                  exact HT3n.out.only hso (fun j (hj : j = ob) => show j < ob + 1 by omega)
                · rw [e1]
                  exact Hr3'.out.set 4 _
            have hqd2 : ¬ (q = true ∧ deep = true) := fun h => hqd ⟨h.1, Hdeep.out.1 h.2⟩
            have HRe := Lib.hid (show RES = spMk K t (if K = 8 ∧ r2.head? = some 35 then spParts kid deep K m' es (cs ++ [pInt (wordOf r2).tail]) ks (restOf r2) true
              else if q = true then spParts kid deep K m' es cs ks r2 false
              else spParts kid deep K m' (es ++ [(spEx 8 r2 true).1]) cs ks (spEx 8 r2 true).2.1 (spEx 8 r2 true).2.2) by rw [HRd.out, if_neg hqd2])
            have hqI : q = false ∨ (q = true ∧ ¬ (0 : Int) < (d : Int)) := by
              cases q with
              | false => exact .inl rfl
              | true => exact .inr ⟨rfl, fun h => hqd ⟨rfl, by omega⟩⟩
            clear hqd hqd2 HRd hq
            rcases hqI with rfl | ⟨rfl, hd0⟩
            · by_cases k8 : K = 8
              · have k8b : (K == 8) = true := by rw [k8]; rfl
                have o8 : ∀ z : World, Row z ob 26 [.int .i64 K, .int .i64 t, .slice A1 es.length c1, .slice A2 cs.length c2, .slice A3 ks.length c3] → z.cell? ⟨ob, 0, none⟩ = some (.int .i64 K) := fun z hz => hz.cell 0
                obtain ⟨pk2, hpk2⟩ : ∃ pk : Nat, (r2.headD 0).toNat = pk := ⟨_, rfl⟩
                rw [hpk2] at PK2
                by_cases h35 : r2.head? = some 35
                · obtain ⟨mw, hmw⟩ := word35 h35
                  have hpb2 : ((pk2 : Int) == 35) = true := by rw [← hpk2]; exact headD_eq 35 35 rfl h35
                  obtain ⟨X0, hX0⟩ : ∃ x, pInt mw = x := ⟨_, rfl⟩
                  have HRf := Lib.hid (show RES = spMk K t (spParts kid deep K m' es (cs ++ [X0]) ks (restOf r2) true) by rw [HRe.out, if_pos ⟨k8, h35⟩, hmw, ← hX0]; rfl)
                  obtain ⟨S, hS⟩ : ∃ S, bArr (wordOf r2) = S := ⟨_, rfl⟩
                  have hsz : S.size = mw.length + 1 := by rw [← hS, hmw]; rfl
                  have h1S : 1 ≤ S.size := by omega
                  have h1S' : (1 : Int) ≤ (S.size : Int) := by omega
                  have hex : S.extract 1 S.size = bArr mw := by
                    rw [hsz, ← hS, bArr_extract, hmw, List.drop_one, List.tail_cons, Nat.add_sub_cancel, List.take_of_length_le (Nat.le_refl _)]
                  have hml : mw.length ≤ 8388608 := by
                    have := wordOf_len r2
                    rw [hmw] at this
                    simp at this
                    omega
                  have HPI := Lib.hid (fun z => parseInt_ok mw z hml)
                  obtain ⟨M, hM⟩ : ∃ S, bArr mw = S := ⟨_, rfl⟩
                  rw [hX0] at HPI
                  rw [hM] at hex HPI
                  have HSw := Lib.hid hS
                  clear hS hmw hsz hM hX0 h35 hpk2
                  clear k8
                  go_wp2_with fail
                  refine (IP.out _ HP7.out).mono ?_
                  rintro e w8 ⟨rfl, hb8⟩
                  have HP8 := Lib.hid (HP7.out.on hb8)
                  have HT8 := Lib.hid (HT7.out.only (S := fun _ => False) (only_below hb8) fun _ h => h.elim)
                  have HRo8 := Lib.hid (HRo7.out.on hb8)
                  have HRr8 := Lib.hid (HRr7.out.on hb8)
                  have HB8 := Lib.hid (HB7.out.below hb8)
                  have hz8 : ob + 1 ≤ w8.heap.size := by have := hb8.size; omega
                  have hlol8 := HRo8.out.lt
                  have hbl8 := HP8.out.lt
                  clear hb8
                  have o88 := o8 _ HRo8.out
                  clear o8
                  go_wp2_with fail
                  refine (PK2.out _ HP8.out).mono ?_
                  rintro e w9 ⟨rfl, hb9⟩
                  have HP9 := Lib.hid (HP8.out.on hb9)
                  have HT9 := Lib.hid (HT8.out.only (S := fun _ => False) (only_below hb9) fun _ h => h.elim)
                  have HRo9 := Lib.hid (HRo8.out.on hb9)
                  have HRr9 := Lib.hid (HRr8.out.on hb9)
                  have HB9 := Lib.hid (HB8.out.below hb9)
                  have hz9 : ob + 1 ≤ w9.heap.size := by have := hb9.size; omega
                  have hlol9 := HRo9.out.lt
                  have hbl9 := HP9.out.lt
                  clear hb9
                  clear o88
                  go_wp2
                  have SB := Lib.hid (fun (z : World) (hz : But b w9 z) => show z.cell? ⟨ob, 3, none⟩ = some (.slice A2 cs.length c2) from (HRo9.out.only hz (by omega)).cell 3)
                  obtain ⟨u, hu⟩ : ∃ u, w9.drew = u := ⟨_, rfl⟩
                  have Bu := Lib.hid (show Below w9.heap.size w9 u from hu ▸ (Below.refl _ _).drew)
                  have hus : u.heap.size = w9.heap.size := by rw [← hu]; rfl
                  have Hu := Lib.hid hu
                  clear hu
                  refine wp_region_g 9 (fun z => z.cell? ⟨ob, 3, none⟩ = some (.slice A2 cs.length c2)) (by kernel_rfl) ?_ (fun hHeld => ?_)
                  · exact SB.out _ ((Only.refl (S := fun k => k = b) w9).drew)
                  rw [Hu.out] at hHeld ⊢
                  refine takeG (i := 0) (v := ?v11) rfl (by kernel_rfl) (by kernel_rfl) (by kernel_rfl) (by kernel_rfl) (fun _ _ _ h => h) (Or.inl ⟨by rfl, ?hy11⟩) (by assumption) ?_
                  case hy11 => ((intro w' hSw; (try dsimp only at hSw); go_simp) <;> with_reducible rfl)
                  try simp only [Act.put, List.setIfInBounds_toArray, List.set_cons_zero, List.set_cons_succ]
                  refine takeG (i := 1) (v := ?v12) rfl (by kernel_rfl) (by kernel_rfl) (by kernel_rfl) (by kernel_rfl) (fun _ _ _ h => h) (Or.inl ⟨by rfl, ?hy12⟩) (by assumption) ?_
                  case hy12 => ((intro w' hSw; (try dsimp only at hSw); go_simp) <;> with_reducible rfl)
                  try simp only [Act.put, List.setIfInBounds_toArray, List.set_cons_zero, List.set_cons_succ]
                  refine takeG (i := 2) (v := ?v13) rfl (by kernel_rfl) (by kernel_rfl) (by kernel_rfl) (by kernel_rfl) (fun _ _ _ h => h) (Or.inl ⟨by rfl, ?hy13⟩) (by assumption) ?_
                  case hy13 => ((intro w' hSw; (try dsimp only at hSw); go_simp) <;> with_reducible rfl)
                  try simp only [Act.put, List.setIfInBounds_toArray, List.set_cons_zero, List.set_cons_succ]
                  refine wpAnyG_ready (rs := [3]) (by kernel_rfl) (by simp) ?_
                  refine readyG rfl (fun K' hK => ?_) AllReadyG.nil
                  go_simp
                  go_at_call 58
                  refine (WRD.out u (HP9.out.on Bu.out)).mono ?_
                  rintro e u1 ⟨rfl, hsc1, hb1⟩
                  rw [HSw.out]
                  have hr3 : (restOf r2).length ≤ r2.length := restOf_len r2
                  have Bt1 := Lib.hid ((only_below (S := fun k => k = b) Bu.out).trans hb1)
                  have Sc1 := Lib.hid hsc1
                  have hz0 := Bu.out.size
                  have hz1 := hb1.size
                  clear hb1 hsc1
                  refine hK.out _ _ ?hS14 (fun hHeld => ?_)
                  case hS14 => exact fun _ => SB.out _ Bt1.out
                  replace hHeld := hHeld (by decide)
                  clear hK K'
                  try simp only [Act.put, List.setIfInBounds_toArray, List.set_cons_zero, List.set_cons_succ]
                  refine takeG (i := 4) (v := ?v15) rfl (by kernel_rfl) (by kernel_rfl) (by kernel_rfl) (by kernel_rfl) (fun _ _ _ h => h) (Or.inl ⟨by rfl, ?hy15⟩) (by assumption) ?_
                  case hy15 => ((intro w' hSw; (try dsimp only at hSw); go_simp) <;> with_reducible rfl)
                  try simp only [Act.put, List.setIfInBounds_toArray, List.set_cons_zero, List.set_cons_succ]
                  refine wpAnyG_ready (rs := [5]) (by kernel_rfl) (by simp) ?_
                  refine readyG rfl (fun K' hK => ?_) AllReadyG.nil
                  go_simp
                  go_at_call 60
                  refine (HPI.out u1).mono ?_
                  rintro e w0 ⟨rfl, rfl⟩
                  refine hK.out _ _ ?hS16 (fun hHeld => ?_)
                  case hS16 => exact fun _ => SB.out _ Bt1.out
                  replace hHeld := hHeld (by decide)
                  clear hK K'
                  try simp only [Act.put, List.setIfInBounds_toArray, List.set_cons_zero, List.set_cons_succ]
                  refine wpAnyG_ready (rs := [6]) (by kernel_rfl) (by simp) ?_
                  refine readyG rfl (fun K' hK => ?_) AllReadyG.nil
                  obtain ⟨u2, hu2⟩ : ∃ z, w0.alloc (.cells #[.int .i64 X0] 3) = z := ⟨_, rfl⟩
                  have hb2 : Below w0.heap.size w0 u2 := by rw [← hu2]; exact balloc (Below.refl _ _) _
                  have hz2 : u2.heap.size = w0.heap.size + 1 := by rw [← hu2]; simp
                  have S2 := Lib.hid (show Sl 1 intC u2 u2.heap.size (some ⟨w0.heap.size, 0, none⟩) [X0] by rw [← hu2]; exact Row.sl' (t := 3) intC_length ((Row.new w0 _ _).of rfl))
                  have Bt2 := Lib.hid (Bt1.out.below hb2)
                  have Sc2 := Lib.hid (Sc1.out.on hb2)
                  go_simp
                  try rw [hu2]
                  have Hu2 := Lib.hid hu2
                  clear hu2 hb2
                  refine hK.out _ _ ?hS17 (fun hHeld => ?_)
                  case hS17 => exact fun _ => SB.out _ Bt2.out
                  replace hHeld := hHeld (by decide)
                  clear hK K'
                  try simp only [Act.put, List.setIfInBounds_toArray, List.set_cons_zero, List.set_cons_succ]
                  refine wpAnyG_ready (rs := [7]) (by kernel_rfl) (by simp) ?_
                  refine readyG rfl (fun K' hK => ?_) AllReadyG.nil
                  have T2 := HT9.out.only Bt2.out (fun j (hj : j = b) => show j < ob + 1 by omega)
                  have howO := T2.2.1.2.1
                  refine step_app2 rfl (.tmp 82) (.tmp 87) 22 rfl (ob + 1) 3 _ 1 8 intC Tryz.underlying22 zeroIntT5 rfl (by decide) (by decide) intC_length intC_one _ cs rfl howO (some ⟨w0.heap.size, 0, none⟩) 1 1 [X0] rfl rfl S2.out (by have := HC2.out; simp; omega) (by omega) ?_
                  intro v' u3 hown hgr hob3
                  have T3 := T2.snocC hown hgr hob3
                  obtain ⟨A9, c9, hv9, hc91, hc92, _⟩ := hown.shape intC_length
                  have hti3 : (cs ++ [X0]).length = cs.length + 1 := by simp
                  rw [hti3] at hv9 hc91
                  subst hv9
                  have hgo : ∀ k, (Value.slice A2 cs.length c2).ownBlock = some k → ob + 1 ≤ k := fun k hk => (howO.ty k hk).1
                  have hgb : ∀ k, k < ob + 1 → k < u2.heap.size → u3.heap[k]? = u2.heap[k]? := fun k hk hl => hgr.block k hl fun e => by have := hgo k e.symm; omega
                  have rr := HRo9.out.only Bt2.out (by omega)
                  have rr0 := HRr9.out.only Bt2.out (by omega)
                  have r3o := rr.keep (hgb ob (by omega) rr.lt)
                  have r03 := Lib.hid (rr0.keep (hgb w.heap.size (by omega) rr0.lt))
                  have C3 : u3.cell? ⟨ob, 3, none⟩ = some (.slice A2 cs.length c2) := r3o.cell 3
                  have F3 := r3o.frozen 3
                  have HB3x := Lib.hid ((HB9.out.trans Bt2.out).grown hgr fun k hk => .inr (by have := hgo k hk; omega))
                  have Sc3 := Lib.hid (Sc2.out.keep (hgb b (by omega) (by omega)))
                  have Hr3' := Lib.hid r3o
                  have HT3n := Lib.hid T3
                  have hgr3 := hgr.size
                  have hl3 := r3o.lt
                  clear T3 hown hgr hgo rr r3o rr0 howO
                  clear hti3 T2
                  refine hK.out _ _ ?hS18 (fun hHeld => ?_)
                  case hS18 => exact fun _ => C3
                  replace hHeld := hHeld (by decide)
                  clear hK K'
                  try simp only [Act.put, List.setIfInBounds_toArray, List.set_cons_zero, List.set_cons_succ]
                  refine takeG (i := 8) (v := ?v19) rfl (by kernel_rfl) (by kernel_rfl) (by kernel_rfl) (by kernel_rfl) (fun _ _ _ h => h) (Or.inl ⟨by rfl, ?hy19⟩) (by assumption) ?_
                  case hy19 => ((intro w' hSw; (try dsimp only at hSw); go_simp) <;> with_reducible rfl)
                  try simp only [Act.put, List.setIfInBounds_toArray, List.set_cons_zero, List.set_cons_succ]
                  refine wpAnyG_ready (rs := [9]) (by kernel_rfl) (by simp) ?_
                  refine readyG rfl (fun K' hK => ?_) AllReadyG.nil
                  go_simp
                  refine hK.out _ _ ?hS20 (fun hHeld => ?_)
                  case hS20 => exact fun h => absurd rfl h
                  clear hK K'
                  try simp only [Act.put, List.setIfInBounds_toArray, List.set_cons_zero, List.set_cons_succ]
                  refine wpAnyG_done (by kernel_rfl) ?_ _
                  go_wp2
                  go_roundg (restOf r2).length
                  case measure => first | omega | (simp; omega) | simp
                  case rel =>
                    have hso := Only.set (S := fun k => k = ob) (p := ⟨ob, 3, none⟩) (Only.refl u3) (.inl rfl) (.slice A9 (cs.length + 1) c9)
                    have e1 : (cs ++ [X0]).length = cs.length + 1 := by simp
                    refine ⟨m', es, cs ++ [X0], ks, fs, gs, A1, A9, A3, c1, c9, c3, restOf r2, true, rfl, by have := HC2.out; omega, by have := HC2.out; rw [e1]; omega, HRf.out, ?_, ?_, r03.out.only hso (show ¬ w.heap.size = ob by omega), Sc3.out.only hso (show ¬ b = ob by omega), HB3x.out.step hso (fun j hj => .inr (by omega)), by simp only [World.setCell, Array.size_modify]; omega⟩
                    · rw [e1]
                      exact HT3n.out.only hso (fun j (hj : j = ob) => show j < ob + 1 by omega)
                    · rw [e1]
                      exact Hr3'.out.set 3 _
                · have hpb2 : ((pk2 : Int) == 35) = false := by rw [← hpk2]; exact headD_ne 35 35 rfl (by decide) h35
                  have HRf := Lib.hid (show RES = spMk K t (spParts kid deep K m' (es ++ [(spEx 8 r2 true).1]) cs ks (spEx 8 r2 true).2.1 (spEx 8 r2 true).2.2) by rw [HRe.out, if_neg (fun h => h35 h.2), if_neg (by decide)])
                  clear k8 h35 hpk2
                  go_wp2_with fail
                  refine (IP.out _ HP7.out).mono ?_
                  rintro e w8 ⟨rfl, hb8⟩
                  have HP8 := Lib.hid (HP7.out.on hb8)
                  have HT8 := Lib.hid (HT7.out.only (S := fun _ => False) (only_below hb8) fun _ h => h.elim)
                  have HRo8 := Lib.hid (HRo7.out.on hb8)
                  have HRr8 := Lib.hid (HRr7.out.on hb8)
                  have HB8 := Lib.hid (HB7.out.below hb8)
                  have hz8 : ob + 1 ≤ w8.heap.size := by have := hb8.size; omega
                  have hlol8 := HRo8.out.lt
                  have hbl8 := HP8.out.lt
                  clear hb8
                  have o88 := o8 _ HRo8.out
                  clear o8
                  go_wp2_with fail
                  refine (PK2.out _ HP8.out).mono ?_
                  rintro e w9 ⟨rfl, hb9⟩
                  have HP9 := Lib.hid (HP8.out.on hb9)
                  have HT9 := Lib.hid (HT8.out.only (S := fun _ => False) (only_below hb9) fun _ h => h.elim)
                  have HRo9 := Lib.hid (HRo8.out.on hb9)
                  have HRr9 := Lib.hid (HRr8.out.on hb9)
                  have HB9 := Lib.hid (HB8.out.below hb9)
                  have hz9 : ob + 1 ≤ w9.heap.size := by have := hb9.size; omega
                  have hlol9 := HRo9.out.lt
                  have hbl9 := HP9.out.lt
                  clear hb9
                  clear o88
                  go_wp2_with fail
                  refine (IP.out _ HP9.out).mono ?_
                  rintro e w10 ⟨rfl, hb10⟩
                  have HP10 := Lib.hid (HP9.out.on hb10)
                  have HT10 := Lib.hid (HT9.out.only (S := fun _ => False) (only_below hb10) fun _ h => h.elim)
                  have HRo10 := Lib.hid (HRo9.out.on hb10)
                  have HRr10 := Lib.hid (HRr9.out.on hb10)
                  have HB10 := Lib.hid (HB9.out.below hb10)
                  have hz10 : ob + 1 ≤ w10.heap.size := by have := hb10.size; omega
                  have hlol10 := HRo10.out.lt
                  have hbl10 := HP10.out.lt
                  clear hb10
                  go_wp2
                  have SB := Lib.hid (fun (z : World) (hz : But b w10 z) => show z.cell? ⟨ob, 2, none⟩ = some (.slice A1 es.length c1) from (HRo10.out.only hz (by omega)).cell 2)
                  obtain ⟨u, hu⟩ : ∃ u, w10.drew = u := ⟨_, rfl⟩
                  have Bu := Lib.hid (show Below w10.heap.size w10 u from hu ▸ (Below.refl _ _).drew)
                  have hus : u.heap.size = w10.heap.size := by rw [← hu]; rfl
                  have Hu := Lib.hid hu
                  clear hu
                  refine wp_region_g 7 (fun z => z.cell? ⟨ob, 2, none⟩ = some (.slice A1 es.length c1)) (by kernel_rfl) ?_ (fun hHeld => ?_)
                  · exact SB.out _ ((Only.refl (S := fun k => k = b) w10).drew)
                  rw [Hu.out] at hHeld ⊢
                  refine takeG (i := 0) (v := ?v21) rfl (by kernel_rfl) (by kernel_rfl) (by kernel_rfl) (by kernel_rfl) (fun _ _ _ h => h) (Or.inl ⟨by rfl, ?hy21⟩) (by assumption) ?_
                  case hy21 => ((intro w' hSw; (try dsimp only at hSw); go_simp) <;> with_reducible rfl)
                  try simp only [Act.put, List.setIfInBounds_toArray, List.set_cons_zero, List.set_cons_succ]
                  refine takeG (i := 1) (v := ?v22) rfl (by kernel_rfl) (by kernel_rfl) (by kernel_rfl) (by kernel_rfl) (fun _ _ _ h => h) (Or.inl ⟨by rfl, ?hy22⟩) (by assumption) ?_
                  case hy22 => ((intro w' hSw; (try dsimp only at hSw); go_simp) <;> with_reducible rfl)
                  try simp only [Act.put, List.setIfInBounds_toArray, List.set_cons_zero, List.set_cons_succ]
                  refine takeG (i := 2) (v := ?v23) rfl (by kernel_rfl) (by kernel_rfl) (by kernel_rfl) (by kernel_rfl) (fun _ _ _ h => h) (Or.inl ⟨by rfl, ?hy23⟩) (by assumption) ?_
                  case hy23 => ((intro w' hSw; (try dsimp only at hSw); go_simp) <;> with_reducible rfl)
                  try simp only [Act.put, List.setIfInBounds_toArray, List.set_cons_zero, List.set_cons_succ]
                  refine wpAnyG_ready (rs := [3]) (by kernel_rfl) (by simp) ?_
                  refine readyG rfl (fun K' hK => ?_) AllReadyG.nil
                  go_simp
                  go_at_call 45
                  refine (spExpr_ok 8 (by omega) b L r2 true u (HP10.out.on Bu.out) hL8).mono ?_
                  rintro e u1 ⟨f', he, hx, hsc1, hb1⟩
                  unfold feV at he
                  subst he
                  obtain ⟨x, r3, ok3, hres⟩ : ∃ x r3 ok3, spEx 8 r2 true = (x, r3, ok3) := ⟨_, _, _, rfl⟩
                  rw [hres] at hx hsc1
                  have hx : ExT (fun k => u.heap.size ≤ k) u1 f' x := hx
                  have hsc1 : Ps u1 b L r3 ok3 := hsc1
                  have hb1 : But b u u1 := hb1
                  have hr3 : r3.length ≤ r2.length := by
                    obtain ⟨a, ha⟩ := spEx_tail 8 r2 true
                    rw [hres] at ha
                    have := congrArg List.length ha
                    simp at this
                    omega
                  have HRg := Lib.hid (show RES = spMk K t (spParts kid deep K m' (es ++ [x]) cs ks r3 ok3) by rw [HRf.out, hres])
                  have Bt1 := Lib.hid ((only_below (S := fun k => k = b) Bu.out).trans hb1)
                  have X1 := Lib.hid hx
                  have Sc1 := Lib.hid hsc1
                  have hz0 := Bu.out.size
                  have hz1 := hb1.size
                  clear hb1 hx hsc1 hres
                  refine hK.out _ _ ?hS24 (fun hHeld => ?_)
                  case hS24 => exact fun _ => SB.out _ Bt1.out
                  replace hHeld := hHeld (by decide)
                  clear hK K'
                  try simp only [Act.put, List.setIfInBounds_toArray, List.set_cons_zero, List.set_cons_succ]
                  refine wpAnyG_ready (rs := [4]) (by kernel_rfl) (by simp) ?_
                  refine readyG rfl (fun K' hK => ?_) AllReadyG.nil
                  obtain ⟨u2, hu2⟩ : ∃ z, u1.alloc (.cells #[.int .i64 f'.kind, .int .i64 f'.col, .bool f'.val.1, .int .i64 f'.val.2, .slice f'.sv.A f'.sv.n f'.sv.c] 40) = z := ⟨_, rfl⟩
                  have hb2 : Below u1.heap.size u1 u2 := by rw [← hu2]; exact balloc (Below.refl _ _) _
                  have hz2 : u2.heap.size = u1.heap.size + 1 := by rw [← hu2]; simp
                  have S2 := Lib.hid (show Sl 5 feC u2 u2.heap.size (some ⟨u1.heap.size, 0, none⟩) [f'] by rw [← hu2]; exact Row.sl' (t := 40) feC_length ((Row.new u1 _ _).of rfl))
                  have Bt2 := Lib.hid (Bt1.out.below hb2)
                  have X2 := Lib.hid (X1.out.keep hb2.size fun k _ hl => hb2.block k hl)
                  have Sc2 := Lib.hid (Sc1.out.on hb2)
                  go_simp
                  try rw [hu2]
                  have Hu2 := Lib.hid hu2
                  clear hu2 hb2
                  refine hK.out _ _ ?hS25 (fun hHeld => ?_)
                  case hS25 => exact fun _ => SB.out _ Bt2.out
                  replace hHeld := hHeld (by decide)
                  clear hK K'
                  try simp only [Act.put, List.setIfInBounds_toArray, List.set_cons_zero, List.set_cons_succ]
                  refine wpAnyG_ready (rs := [5]) (by kernel_rfl) (by simp) ?_
                  refine readyG rfl (fun K' hK => ?_) AllReadyG.nil
                  have T2 := HT10.out.only Bt2.out (fun j (hj : j = b) => show j < ob + 1 by omega)
                  have howO := T2.2.1.1
                  have hgl := T2.2.2.1
                  have X3 := X2.out.mono (T := fun k => ob + 1 ≤ k ∧ free3 (.slice A1 es.length c1) (.slice A2 cs.length c2) (.slice A3 ks.length c3) k) fun k _ (hk : u.heap.size ≤ k) => ⟨by omega, HT10.out.new (n := w10.heap.size) (Nat.le_refl _) (by omega)⟩
                  refine step_app2 rfl (.tmp 50) (.tmp 53) 23 rfl (ob + 1) 40 _ 5 56 feC Tryz.underlying23 zeroExT3 rfl (by decide) (by decide) feC_length feC_one _ fs rfl howO (some ⟨u1.heap.size, 0, none⟩) 1 1 [f'] rfl rfl S2.out (by have := HC2.out; rw [hgl]; simp; omega) (by omega) ?_
                  intro v' u3 hown hgr hob3
                  have T3 := T2.snocE X3 hown hgr hob3
                  obtain ⟨A9, c9, hv9, hc91, hc92, _⟩ := hown.shape feC_length
                  have hti3 : (fs ++ [f']).length = es.length + 1 := by rw [List.length_append, hgl]; rfl
                  rw [hti3] at hv9 hc91
                  subst hv9
                  have hgo : ∀ k, (Value.slice A1 es.length c1).ownBlock = some k → ob + 1 ≤ k := fun k hk => (howO.ty k hk).1
                  have hgb : ∀ k, k < ob + 1 → k < u2.heap.size → u3.heap[k]? = u2.heap[k]? := fun k hk hl => hgr.block k hl fun e => by have := hgo k e.symm; omega
                  have rr := HRo10.out.only Bt2.out (by omega)
                  have rr0 := HRr10.out.only Bt2.out (by omega)
                  have r3o := rr.keep (hgb ob (by omega) rr.lt)
                  have r03 := Lib.hid (rr0.keep (hgb w.heap.size (by omega) rr0.lt))
                  have C3 : u3.cell? ⟨ob, 2, none⟩ = some (.slice A1 es.length c1) := r3o.cell 2
                  have F3 := r3o.frozen 2
                  have HB3x := Lib.hid ((HB10.out.trans Bt2.out).grown hgr fun k hk => .inr (by have := hgo k hk; omega))
                  have Sc3 := Lib.hid (Sc2.out.keep (hgb b (by omega) (by omega)))
                  have Hr3' := Lib.hid r3o
                  have HT3n := Lib.hid T3
                  have hgr3 := hgr.size
                  have hl3 := r3o.lt
                  clear T3 hown hgr hgo rr r3o rr0 howO
                  clear hgl hti3 X3 T2
                  refine hK.out _ _ ?hS26 (fun hHeld => ?_)
                  case hS26 => exact fun _ => C3
                  replace hHeld := hHeld (by decide)
                  clear hK K'
                  try simp only [Act.put, List.setIfInBounds_toArray, List.set_cons_zero, List.set_cons_succ]
                  refine takeG (i := 6) (v := ?v27) rfl (by kernel_rfl) (by kernel_rfl) (by kernel_rfl) (by kernel_rfl) (fun _ _ _ h => h) (Or.inl ⟨by rfl, ?hy27⟩) (by assumption) ?_
                  case hy27 => ((intro w' hSw; (try dsimp only at hSw); go_simp) <;> with_reducible rfl)
                  try simp only [Act.put, List.setIfInBounds_toArray, List.set_cons_zero, List.set_cons_succ]
                  refine wpAnyG_ready (rs := [7]) (by kernel_rfl) (by simp) ?_
                  refine readyG rfl (fun K' hK => ?_) AllReadyG.nil
                  go_simp
                  refine hK.out _ _ ?hS28 (fun hHeld => ?_)
                  case hS28 => exact fun h => absurd rfl h
                  clear hK K'
                  try simp only [Act.put, List.setIfInBounds_toArray, List.set_cons_zero, List.set_cons_succ]
                  refine wpAnyG_done (by kernel_rfl) ?_ _
                  go_wp2
                  go_roundg r3.length
                  case measure => first | omega | (simp; omega) | simp
                  case rel =>
                    have hso := Only.set (S := fun k => k = ob) (p := ⟨ob, 2, none⟩) (Only.refl u3) (.inl rfl) (.slice A9 (es.length + 1) c9)
                    have e1 : (es ++ [x]).length = es.length + 1 := by simp
                    refine ⟨m', es ++ [x], cs, ks, fs ++ [f'], gs, A9, A2, A3, c9, c2, c3, r3, ok3, rfl, by have := HC2.out; omega, by have := HC2.out; rw [e1]; omega, HRg.out, ?_, ?_, r03.out.only hso (show ¬ w.heap.size = ob by omega), Sc3.out.only hso (show ¬ b = ob by omega), HB3x.out.step hso (fun j hj => .inr (by omega)), by simp only [World.setCell, Array.size_modify]; omega⟩
                    · rw [e1]
                      exact HT3n.out.only hso (fun j (hj : j = ob) => show j < ob + 1 by omega)
                    · rw [e1]
                      exact Hr3'.out.set 2 _
              · have k8b : (K == 8) = false := by rw [beq_eq_false_iff_ne]; exact k8
                have HRf := Lib.hid (show RES = spMk K t (spParts kid deep K m' (es ++ [(spEx 8 r2 true).1]) cs ks (spEx 8 r2 true).2.1 (spEx 8 r2 true).2.2) by rw [HRe.out, if_neg (fun h => k8 h.1), if_neg (by decide)])
                clear k8
                go_wp2_with fail
                refine (IP.out _ HP7.out).mono ?_
                rintro e w8 ⟨rfl, hb8⟩
                have HP8 := Lib.hid (HP7.out.on hb8)
                have HT8 := Lib.hid (HT7.out.only (S := fun _ => False) (only_below hb8) fun _ h => h.elim)
                have HRo8 := Lib.hid (HRo7.out.on hb8)
                have HRr8 := Lib.hid (HRr7.out.on hb8)
                have HB8 := Lib.hid (HB7.out.below hb8)
                have hz8 : ob + 1 ≤ w8.heap.size := by have := hb8.size; omega
                have hlol8 := HRo8.out.lt
                have hbl8 := HP8.out.lt
                clear hb8
                have o88 : w8.cell? ⟨ob, 0, none⟩ = some (.int .i64 K) := HRo8.out.cell 0
                go_wp2_with fail
                refine (IP.out _ HP8.out).mono ?_
                rintro e w10 ⟨rfl, hb10⟩
                have HP10 := Lib.hid (HP8.out.on hb10)
                have HT10 := Lib.hid (HT8.out.only (S := fun _ => False) (only_below hb10) fun _ h => h.elim)
                have HRo10 := Lib.hid (HRo8.out.on hb10)
                have HRr10 := Lib.hid (HRr8.out.on hb10)
                have HB10 := Lib.hid (HB8.out.below hb10)
                have hz10 : ob + 1 ≤ w10.heap.size := by have := hb10.size; omega
                have hlol10 := HRo10.out.lt
                have hbl10 := HP10.out.lt
                clear hb10
                clear o88
                go_wp2
                have SB := Lib.hid (fun (z : World) (hz : But b w10 z) => show z.cell? ⟨ob, 2, none⟩ = some (.slice A1 es.length c1) from (HRo10.out.only hz (by omega)).cell 2)
                obtain ⟨u, hu⟩ : ∃ u, w10.drew = u := ⟨_, rfl⟩
                have Bu := Lib.hid (show Below w10.heap.size w10 u from hu ▸ (Below.refl _ _).drew)
                have hus : u.heap.size = w10.heap.size := by rw [← hu]; rfl
                have Hu := Lib.hid hu
                clear hu
                refine wp_region_g 7 (fun z => z.cell? ⟨ob, 2, none⟩ = some (.slice A1 es.length c1)) (by kernel_rfl) ?_ (fun hHeld => ?_)
                · exact SB.out _ ((Only.refl (S := fun k => k = b) w10).drew)
                rw [Hu.out] at hHeld ⊢
                refine takeG (i := 0) (v := ?v29) rfl (by kernel_rfl) (by kernel_rfl) (by kernel_rfl) (by kernel_rfl) (fun _ _ _ h => h) (Or.inl ⟨by rfl, ?hy29⟩) (by assumption) ?_
                case hy29 => ((intro w' hSw; (try dsimp only at hSw); go_simp) <;> with_reducible rfl)
                try simp only [Act.put, List.setIfInBounds_toArray, List.set_cons_zero, List.set_cons_succ]
                refine takeG (i := 1) (v := ?v30) rfl (by kernel_rfl) (by kernel_rfl) (by kernel_rfl) (by kernel_rfl) (fun _ _ _ h => h) (Or.inl ⟨by rfl, ?hy30⟩) (by assumption) ?_
                case hy30 => ((intro w' hSw; (try dsimp only at hSw); go_simp) <;> with_reducible rfl)
                try simp only [Act.put, List.setIfInBounds_toArray, List.set_cons_zero, List.set_cons_succ]
                refine takeG (i := 2) (v := ?v31) rfl (by kernel_rfl) (by kernel_rfl) (by kernel_rfl) (by kernel_rfl) (fun _ _ _ h => h) (Or.inl ⟨by rfl, ?hy31⟩) (by assumption) ?_
                case hy31 => ((intro w' hSw; (try dsimp only at hSw); go_simp) <;> with_reducible rfl)
                try simp only [Act.put, List.setIfInBounds_toArray, List.set_cons_zero, List.set_cons_succ]
                refine wpAnyG_ready (rs := [3]) (by kernel_rfl) (by simp) ?_
                refine readyG rfl (fun K' hK => ?_) AllReadyG.nil
                go_simp
                go_at_call 45
                refine (spExpr_ok 8 (by omega) b L r2 true u (HP10.out.on Bu.out) hL8).mono ?_
                rintro e u1 ⟨f', he, hx, hsc1, hb1⟩
                unfold feV at he
                subst he
                obtain ⟨x, r3, ok3, hres⟩ : ∃ x r3 ok3, spEx 8 r2 true = (x, r3, ok3) := ⟨_, _, _, rfl⟩
                rw [hres] at hx hsc1
                have hx : ExT (fun k => u.heap.size ≤ k) u1 f' x := hx
                have hsc1 : Ps u1 b L r3 ok3 := hsc1
                have hb1 : But b u u1 := hb1
                have hr3 : r3.length ≤ r2.length := by
                  obtain ⟨a, ha⟩ := spEx_tail 8 r2 true
                  rw [hres] at ha
                  have := congrArg List.length ha
                  simp at this
                  omega
                have HRg := Lib.hid (show RES = spMk K t (spParts kid deep K m' (es ++ [x]) cs ks r3 ok3) by rw [HRf.out, hres])
                have Bt1 := Lib.hid ((only_below (S := fun k => k = b) Bu.out).trans hb1)
                have X1 := Lib.hid hx
                have Sc1 := Lib.hid hsc1
                have hz0 := Bu.out.size
                have hz1 := hb1.size
                clear hb1 hx hsc1 hres
                refine hK.out _ _ ?hS32 (fun hHeld => ?_)
                case hS32 => exact fun _ => SB.out _ Bt1.out
                replace hHeld := hHeld (by decide)
                clear hK K'
                try simp only [Act.put, List.setIfInBounds_toArray, List.set_cons_zero, List.set_cons_succ]
                refine wpAnyG_ready (rs := [4]) (by kernel_rfl) (by simp) ?_
                refine readyG rfl (fun K' hK => ?_) AllReadyG.nil
                obtain ⟨u2, hu2⟩ : ∃ z, u1.alloc (.cells #[.int .i64 f'.kind, .int .i64 f'.col, .bool f'.val.1, .int .i64 f'.val.2, .slice f'.sv.A f'.sv.n f'.sv.c] 40) = z := ⟨_, rfl⟩
                have hb2 : Below u1.heap.size u1 u2 := by rw [← hu2]; exact balloc (Below.refl _ _) _
                have hz2 : u2.heap.size = u1.heap.size + 1 := by rw [← hu2]; simp
                have S2 := Lib.hid (show Sl 5 feC u2 u2.heap.size (some ⟨u1.heap.size, 0, none⟩) [f'] by rw [← hu2]; exact Row.sl' (t := 40) feC_length ((Row.new u1 _ _).of rfl))
                have Bt2 := Lib.hid (Bt1.out.below hb2)
                have X2 := Lib.hid (X1.out.keep hb2.size fun k _ hl => hb2.block k hl)
                have Sc2 := Lib.hid (Sc1.out.on hb2)
                go_simp
                try rw [hu2]
                have Hu2 := Lib.hid hu2
                clear hu2 hb2
                refine hK.out _ _ ?hS33 (fun hHeld => ?_)
                case hS33 => exact fun _ => SB.out _ Bt2.out
                replace hHeld := hHeld (by decide)
                clear hK K'
                try simp only [Act.put, List.setIfInBounds_toArray, List.set_cons_zero, List.set_cons_succ]
                refine wpAnyG_ready (rs := [5]) (by kernel_rfl) (by simp) ?_
                refine readyG rfl (fun K' hK => ?_) AllReadyG.nil
                have T2 := HT10.out.only Bt2.out (fun j (hj : j = b) => show j < ob + 1 by omega)
                have howO := T2.2.1.1
                have hgl := T2.2.2.1
                have X3 := X2.out.mono (T := fun k => ob + 1 ≤ k ∧ free3 (.slice A1 es.length c1) (.slice A2 cs.length c2) (.slice A3 ks.length c3) k) fun k _ (hk : u.heap.size ≤ k) => ⟨by omega, HT10.out.new (n := w10.heap.size) (Nat.le_refl _) (by omega)⟩
                refine step_app2 rfl (.tmp 50) (.tmp 53) 23 rfl (ob + 1) 40 _ 5 56 feC Tryz.underlying23 zeroExT3 rfl (by decide) (by decide) feC_length feC_one _ fs rfl howO (some ⟨u1.heap.size, 0, none⟩) 1 1 [f'] rfl rfl S2.out (by have := HC2.out; rw [hgl]; simp; omega) (by omega) ?_
                intro v' u3 hown hgr hob3
                have T3 := T2.snocE X3 hown hgr hob3
                obtain ⟨A9, c9, hv9, hc91, hc92, _⟩ := hown.shape feC_length
                have hti3 : (fs ++ [f']).length = es.length + 1 := by rw [List.length_append, hgl]; rfl
                rw [hti3] at hv9 hc91
                subst hv9
                have hgo : ∀ k, (Value.slice A1 es.length c1).ownBlock = some k → ob + 1 ≤ k := fun k hk => (howO.ty k hk).1
                have hgb : ∀ k, k < ob + 1 → k < u2.heap.size → u3.heap[k]? = u2.heap[k]? := fun k hk hl => hgr.block k hl fun e => by have := hgo k e.symm; omega
                have rr := HRo10.out.only Bt2.out (by omega)
                have rr0 := HRr10.out.only Bt2.out (by omega)
                have r3o := rr.keep (hgb ob (by omega) rr.lt)
                have r03 := Lib.hid (rr0.keep (hgb w.heap.size (by omega) rr0.lt))
                have C3 : u3.cell? ⟨ob, 2, none⟩ = some (.slice A1 es.length c1) := r3o.cell 2
                have F3 := r3o.frozen 2
                have HB3x := Lib.hid ((HB10.out.trans Bt2.out).grown hgr fun k hk => .inr (by have := hgo k hk; omega))
                have Sc3 := Lib.hid (Sc2.out.keep (hgb b (by omega) (by omega)))
                have Hr3' := Lib.hid r3o
                have HT3n := Lib.hid T3
                have hgr3 := hgr.size
                have hl3 := r3o.lt
                clear T3 hown hgr hgo rr r3o rr0 howO
                clear hgl hti3 X3 T2
                refine hK.out _ _ ?hS34 (fun hHeld => ?_)
                case hS34 => exact fun _ => C3
                replace hHeld := hHeld (by decide)
                clear hK K'
                try simp only [Act.put, List.setIfInBounds_toArray, List.set_cons_zero, List.set_cons_succ]
                refine takeG (i := 6) (v := ?v35) rfl (by kernel_rfl) (by kernel_rfl) (by kernel_rfl) (by kernel_rfl) (fun _ _ _ h => h) (Or.inl ⟨by rfl, ?hy35⟩) (by assumption) ?_
                case hy35 => ((intro w' hSw; (try dsimp only at hSw); go_simp) <;> with_reducible rfl)
                try simp only [Act.put, List.setIfInBounds_toArray, List.set_cons_zero, List.set_cons_succ]
                refine wpAnyG_ready (rs := [7]) (by kernel_rfl) (by simp) ?_
                refine readyG rfl (fun K' hK => ?_) AllReadyG.nil
                go_simp
                refine hK.out _ _ ?hS36 (fun hHeld => ?_)
                case hS36 => exact fun h => absurd rfl h
                clear hK K'
                try simp only [Act.put, List.setIfInBounds_toArray, List.set_cons_zero, List.set_cons_succ]
                refine wpAnyG_done (by kernel_rfl) ?_ _
                go_wp2
                go_roundg r3.length
                case measure => first | omega | (simp; omega) | simp
                case rel =>
                  have hso := Only.set (S := fun k => k = ob) (p := ⟨ob, 2, none⟩) (Only.refl u3) (.inl rfl) (.slice A9 (es.length + 1) c9)
                  have e1 : (es ++ [x]).length = es.length + 1 := by simp
                  refine ⟨m', es ++ [x], cs, ks, fs ++ [f'], gs, A9, A2, A3, c9, c2, c3, r3, ok3, rfl, by have := HC2.out; omega, by have := HC2.out; rw [e1]; omega, HRg.out, ?_, ?_, r03.out.only hso (show ¬ w.heap.size = ob by omega), Sc3.out.only hso (show ¬ b = ob by omega), HB3x.out.step hso (fun j hj => .inr (by omega)), by simp only [World.setCell, Array.size_modify]; omega⟩
                  · rw [e1]
                    exact HT3n.out.only hso (fun j (hj : j = ob) => show j < ob + 1 by omega)
                  · rw [e1]
                    exact Hr3'.out.set 2 _
            · by_cases k8 : K = 8
              · have k8b : (K == 8) = true := by rw [k8]; rfl
                have o8 : ∀ z : World, Row z ob 26 [.int .i64 K, .int .i64 t, .slice A1 es.length c1, .slice A2 cs.length c2, .slice A3 ks.length c3] → z.cell? ⟨ob, 0, none⟩ = some (.int .i64 K) := fun z hz => hz.cell 0
                obtain ⟨pk2, hpk2⟩ : ∃ pk : Nat, (r2.headD 0).toNat = pk := ⟨_, rfl⟩
                rw [hpk2] at PK2
                by_cases h35 : r2.head? = some 35
                · obtain ⟨mw, hmw⟩ := word35 h35
                  have hpb2 : ((pk2 : Int) == 35) = true := by rw [← hpk2]; exact headD_eq 35 35 rfl h35
                  obtain ⟨X0, hX0⟩ : ∃ x, pInt mw = x := ⟨_, rfl⟩
                  have HRf := Lib.hid (show RES = spMk K t (spParts kid deep K m' es (cs ++ [X0]) ks (restOf r2) true) by rw [HRe.out, if_pos ⟨k8, h35⟩, hmw, ← hX0]; rfl)
                  obtain ⟨S, hS⟩ : ∃ S, bArr (wordOf r2) = S := ⟨_, rfl⟩
                  have hsz : S.size = mw.length + 1 := by rw [← hS, hmw]; rfl
                  have h1S : 1 ≤ S.size := by omega
                  have h1S' : (1 : Int) ≤ (S.size : Int) := by omega
                  have hex : S.extract 1 S.size = bArr mw := by
                    rw [hsz, ← hS, bArr_extract, hmw, List.drop_one, List.tail_cons, Nat.add_sub_cancel, List.take_of_length_le (Nat.le_refl _)]
                  have hml : mw.length ≤ 8388608 := by
                    have := wordOf_len r2
                    rw [hmw] at this
                    simp at this
                    omega
                  have HPI := Lib.hid (fun z => parseInt_ok mw z hml)
                  obtain ⟨M, hM⟩ : ∃ S, bArr mw = S := ⟨_, rfl⟩
                  rw [hX0] at HPI
                  rw [hM] at hex HPI
                  have HSw := Lib.hid hS
                  clear hS hmw hsz hM hX0 h35 hpk2
                  clear k8
                  go_wp2_with fail
                  refine (IP.out _ HP7.out).mono ?_
                  rintro e w8 ⟨rfl, hb8⟩
                  have HP8 := Lib.hid (HP7.out.on hb8)
                  have HT8 := Lib.hid (HT7.out.only (S := fun _ => False) (only_below hb8) fun _ h => h.elim)
                  have HRo8 := Lib.hid (HRo7.out.on hb8)
                  have HRr8 := Lib.hid (HRr7.out.on hb8)
                  have HB8 := Lib.hid (HB7.out.below hb8)
                  have hz8 : ob + 1 ≤ w8.heap.size := by have := hb8.size; omega
                  have hlol8 := HRo8.out.lt
                  have hbl8 := HP8.out.lt
                  clear hb8
                  have o88 := o8 _ HRo8.out
                  clear o8
                  go_wp2_with fail
                  refine (PK2.out _ HP8.out).mono ?_
                  rintro e w9 ⟨rfl, hb9⟩
                  have HP9 := Lib.hid (HP8.out.on hb9)
                  have HT9 := Lib.hid (HT8.out.only (S := fun _ => False) (only_below hb9) fun _ h => h.elim)
                  have HRo9 := Lib.hid (HRo8.out.on hb9)
                  have HRr9 := Lib.hid (HRr8.out.on hb9)
                  have HB9 := Lib.hid (HB8.out.below hb9)
                  have hz9 : ob + 1 ≤ w9.heap.size := by have := hb9.size; omega
                  have hlol9 := HRo9.out.lt
                  have hbl9 := HP9.out.lt
                  clear hb9
                  clear o88
                  go_wp2
                  have SB := Lib.hid (fun (z : World) (hz : But b w9 z) => show z.cell? ⟨ob, 3, none⟩ = some (.slice A2 cs.length c2) from (HRo9.out.only hz (by omega)).cell 3)
                  obtain ⟨u, hu⟩ : ∃ u, w9.drew = u := ⟨_, rfl⟩
                  have Bu := Lib.hid (show Below w9.heap.size w9 u from hu ▸ (Below.refl _ _).drew)
                  have hus : u.heap.size = w9.heap.size := by rw [← hu]; rfl
                  have Hu := Lib.hid hu
                  clear hu
                  refine wp_region_g 9 (fun z => z.cell? ⟨ob, 3, none⟩ = some (.slice A2 cs.length c2)) (by kernel_rfl) ?_ (fun hHeld => ?_)
                  · exact SB.out _ ((Only.refl (S := fun k => k = b) w9).drew)
                  rw [Hu.out] at hHeld ⊢
                  refine takeG (i := 0) (v := ?v37) rfl (by kernel_rfl) (by kernel_rfl) (by kernel_rfl) (by kernel_rfl) (fun _ _ _ h => h) (Or.inl ⟨by rfl, ?hy37⟩) (by assumption) ?_
                  case hy37 => ((intro w' hSw; (try dsimp only at hSw); go_simp) <;> with_reducible rfl)
                  try simp only [Act.put, List.setIfInBounds_toArray, List.set_cons_zero, List.set_cons_succ]
                  refine takeG (i := 1) (v := ?v38) rfl (by kernel_rfl) (by kernel_rfl) (by kernel_rfl) (by kernel_rfl) (fun _ _ _ h => h) (Or.inl ⟨by rfl, ?hy38⟩) (by assumption) ?_
                  case hy38 => ((intro w' hSw; (try dsimp only at hSw); go_simp) <;> with_reducible rfl)
                  try simp only [Act.put, List.setIfInBounds_toArray, List.set_cons_zero, List.set_cons_succ]
                  refine takeG (i := 2) (v := ?v39) rfl (by kernel_rfl) (by kernel_rfl) (by kernel_rfl) (by kernel_rfl) (fun _ _ _ h => h) (Or.inl ⟨by rfl, ?hy39⟩) (by assumption) ?_
                  case hy39 => ((intro w' hSw; (try dsimp only at hSw); go_simp) <;> with_reducible rfl)
                  try simp only [Act.put, List.setIfInBounds_toArray, List.set_cons_zero, List.set_cons_succ]
                  refine wpAnyG_ready (rs := [3]) (by kernel_rfl) (by simp) ?_
                  refine readyG rfl (fun K' hK => ?_) AllReadyG.nil
                  go_simp
                  go_at_call 58
                  refine (WRD.out u (HP9.out.on Bu.out)).mono ?_
                  rintro e u1 ⟨rfl, hsc1, hb1⟩
                  rw [HSw.out]
                  have hr3 : (restOf r2).length ≤ r2.length := restOf_len r2
                  have Bt1 := Lib.hid ((only_below (S := fun k => k = b) Bu.out).trans hb1)
                  have Sc1 := Lib.hid hsc1
                  have hz0 := Bu.out.size
                  have hz1 := hb1.size
                  clear hb1 hsc1
                  refine hK.out _ _ ?hS40 (fun hHeld => ?_)
                  case hS40 => exact fun _ => SB.out _ Bt1.out
                  replace hHeld := hHeld (by decide)
                  clear hK K'
                  try simp only [Act.put, List.setIfInBounds_toArray, List.set_cons_zero, List.set_cons_succ]
                  refine takeG (i := 4) (v := ?v41) rfl (by kernel_rfl) (by kernel_rfl) (by kernel_rfl) (by kernel_rfl) (fun _ _ _ h => h) (Or.inl ⟨by rfl, ?hy41⟩) (by assumption) ?_
                  case hy41 => ((intro w' hSw; (try dsimp only at hSw); go_simp) <;> with_reducible rfl)
                  try simp only [Act.put, List.setIfInBounds_toArray, List.set_cons_zero, List.set_cons_succ]
                  refine wpAnyG_ready (rs := [5]) (by kernel_rfl) (by simp) ?_
                  refine readyG rfl (fun K' hK => ?_) AllReadyG.nil
                  go_simp
                  go_at_call 60
                  refine (HPI.out u1).mono ?_
                  rintro e w0 ⟨rfl, rfl⟩
                  refine hK.out _ _ ?hS42 (fun hHeld => ?_)
                  case hS42 => exact fun _ => SB.out _ Bt1.out
                  replace hHeld := hHeld (by decide)
                  clear hK K'
                  try simp only [Act.put, List.setIfInBounds_toArray, List.set_cons_zero, List.set_cons_succ]
                  refine wpAnyG_ready (rs := [6]) (by kernel_rfl) (by simp) ?_
                  refine readyG rfl (fun K' hK => ?_) AllReadyG.nil
                  obtain ⟨u2, hu2⟩ : ∃ z, w0.alloc (.cells #[.int .i64 X0] 3) = z := ⟨_, rfl⟩
                  have hb2 : Below w0.heap.size w0 u2 := by rw [← hu2]; exact balloc (Below.refl _ _) _
                  have hz2 : u2.heap.size = w0.heap.size + 1 := by rw [← hu2]; simp
                  have S2 := Lib.hid (show Sl 1 intC u2 u2.heap.size (some ⟨w0.heap.size, 0, none⟩) [X0] by rw [← hu2]; exact Row.sl' (t := 3) intC_length ((Row.new w0 _ _).of rfl))
                  have Bt2 := Lib.hid (Bt1.out.below hb2)
                  have Sc2 := Lib.hid (Sc1.out.on hb2)
                  go_simp
                  try rw [hu2]
                  have Hu2 := Lib.hid hu2
                  clear hu2 hb2
                  refine hK.out _ _ ?hS43 (fun hHeld => ?_)
                  case hS43 => exact fun _ => SB.out _ Bt2.out
                  replace hHeld := hHeld (by decide)
                  clear hK K'
                  try simp only [Act.put, List.setIfInBounds_toArray, List.set_cons_zero, List.set_cons_succ]
                  refine wpAnyG_ready (rs := [7]) (by kernel_rfl) (by simp) ?_
                  refine readyG rfl (fun K' hK => ?_) AllReadyG.nil
                  have T2 := HT9.out.only Bt2.out (fun j (hj : j = b) => show j < ob + 1 by omega)
                  have howO := T2.2.1.2.1
                  refine step_app2 rfl (.tmp 82) (.tmp 87) 22 rfl (ob + 1) 3 _ 1 8 intC Tryz.underlying22 zeroIntT5 rfl (by decide) (by decide) intC_length intC_one _ cs rfl howO (some ⟨w0.heap.size, 0, none⟩) 1 1 [X0] rfl rfl S2.out (by have := HC2.out; simp; omega) (by omega) ?_
                  intro v' u3 hown hgr hob3
                  have T3 := T2.snocC hown hgr hob3
                  obtain ⟨A9, c9, hv9, hc91, hc92, _⟩ := hown.shape intC_length
                  have hti3 : (cs ++ [X0]).length = cs.length + 1 := by simp
                  rw [hti3] at hv9 hc91
                  subst hv9
                  have hgo : ∀ k, (Value.slice A2 cs.length c2).ownBlock = some k → ob + 1 ≤ k := fun k hk => (howO.ty k hk).1
                  have hgb : ∀ k, k < ob + 1 → k < u2.heap.size → u3.heap[k]? = u2.heap[k]? := fun k hk hl => hgr.block k hl fun e => by have := hgo k e.symm; omega
                  have rr := HRo9.out.only Bt2.out (by omega)
                  have rr0 := HRr9.out.only Bt2.out (by omega)
                  have r3o := rr.keep (hgb ob (by omega) rr.lt)
                  have r03 := Lib.hid (rr0.keep (hgb w.heap.size (by omega) rr0.lt))
                  have C3 : u3.cell? ⟨ob, 3, none⟩ = some (.slice A2 cs.length c2) := r3o.cell 3
                  have F3 := r3o.frozen 3
                  have HB3x := Lib.hid ((HB9.out.trans Bt2.out).grown hgr fun k hk => .inr (by have := hgo k hk; omega))
                  have Sc3 := Lib.hid (Sc2.out.keep (hgb b (by omega) (by omega)))
                  have Hr3' := Lib.hid r3o
                  have HT3n := Lib.hid T3
                  have hgr3 := hgr.size
                  have hl3 := r3o.lt
                  clear T3 hown hgr hgo rr r3o rr0 howO
                  clear hti3 T2
                  refine hK.out _ _ ?hS44 (fun hHeld => ?_)
                  case hS44 => exact fun _ => C3
                  replace hHeld := hHeld (by decide)
                  clear hK K'
                  try simp only [Act.put, List.setIfInBounds_toArray, List.set_cons_zero, List.set_cons_succ]
                  refine takeG (i := 8) (v := ?v45) rfl (by kernel_rfl) (by kernel_rfl) (by kernel_rfl) (by kernel_rfl) (fun _ _ _ h => h) (Or.inl ⟨by rfl, ?hy45⟩) (by assumption) ?_
                  case hy45 => ((intro w' hSw; (try dsimp only at hSw); go_simp) <;> with_reducible rfl)
                  try simp only [Act.put, List.setIfInBounds_toArray, List.set_cons_zero, List.set_cons_succ]
                  refine wpAnyG_ready (rs := [9]) (by kernel_rfl) (by simp) ?_
                  refine readyG rfl (fun K' hK => ?_) AllReadyG.nil
                  go_simp
                  refine hK.out _ _ ?hS46 (fun hHeld => ?_)
                  case hS46 => exact fun h => absurd rfl h
                  clear hK K'
                  try simp only [Act.put, List.setIfInBounds_toArray, List.set_cons_zero, List.set_cons_succ]
                  refine wpAnyG_done (by kernel_rfl) ?_ _
                  go_wp2
                  go_roundg (restOf r2).length
                  case measure => first | omega | (simp; omega) | simp
                  case rel =>
                    have hso := Only.set (S := fun k => k = ob) (p := ⟨ob, 3, none⟩) (Only.refl u3) (.inl rfl) (.slice A9 (cs.length + 1) c9)
                    have e1 : (cs ++ [X0]).length = cs.length + 1 := by simp
                    refine ⟨m', es, cs ++ [X0], ks, fs, gs, A1, A9, A3, c1, c9, c3, restOf r2, true, rfl, by have := HC2.out; omega, by have := HC2.out; rw [e1]; omega, HRf.out, ?_, ?_, r03.out.only hso (show ¬ w.heap.size = ob by omega), Sc3.out.only hso (show ¬ b = ob by omega), HB3x.out.step hso (fun j hj => .inr (by omega)), by simp only [World.setCell, Array.size_modify]; omega⟩
                    · rw [e1]
                      exact HT3n.out.only hso (fun j (hj : j = ob) => show j < ob + 1 by omega)
                    · rw [e1]
                      exact Hr3'.out.set 3 _
                · have hpb2 : ((pk2 : Int) == 35) = false := by rw [← hpk2]; exact headD_ne 35 35 rfl (by decide) h35
                  have HRf := Lib.hid (show RES = spMk K t (spParts kid deep K m' es cs ks r2 false) by rw [HRe.out, if_neg (fun h => h35 h.2), if_pos rfl])
                  clear k8 h35 hpk2
                  go_wp2_with fail
                  refine (IP.out _ HP7.out).mono ?_
                  rintro e w8 ⟨rfl, hb8⟩
                  have HP8 := Lib.hid (HP7.out.on hb8)
                  have HT8 := Lib.hid (HT7.out.only (S := fun _ => False) (only_below hb8) fun _ h => h.elim)
                  have HRo8 := Lib.hid (HRo7.out.on hb8)
                  have HRr8 := Lib.hid (HRr7.out.on hb8)
                  have HB8 := Lib.hid (HB7.out.below hb8)
                  have hz8 : ob + 1 ≤ w8.heap.size := by have := hb8.size; omega
                  have hlol8 := HRo8.out.lt
                  have hbl8 := HP8.out.lt
                  clear hb8
                  have o88 := o8 _ HRo8.out
                  clear o8
                  go_wp2_with fail
                  refine (PK2.out _ HP8.out).mono ?_
                  rintro e w9 ⟨rfl, hb9⟩
                  have HP9 := Lib.hid (HP8.out.on hb9)
                  have HT9 := Lib.hid (HT8.out.only (S := fun _ => False) (only_below hb9) fun _ h => h.elim)
                  have HRo9 := Lib.hid (HRo8.out.on hb9)
                  have HRr9 := Lib.hid (HRr8.out.on hb9)
                  have HB9 := Lib.hid (HB8.out.below hb9)
                  have hz9 : ob + 1 ≤ w9.heap.size := by have := hb9.size; omega
                  have hlol9 := HRo9.out.lt
                  have hbl9 := HP9.out.lt
                  clear hb9
                  clear o88
                  go_wp2_with fail
                  refine (IP.out _ HP9.out).mono ?_
                  rintro e w10 ⟨rfl, hb10⟩
                  have HP10 := Lib.hid (HP9.out.on hb10)
                  have HT10 := Lib.hid (HT9.out.only (S := fun _ => False) (only_below hb10) fun _ h => h.elim)
                  have HRo10 := Lib.hid (HRo9.out.on hb10)
                  have HRr10 := Lib.hid (HRr9.out.on hb10)
                  have HB10 := Lib.hid (HB9.out.below hb10)
                  have hz10 : ob + 1 ≤ w10.heap.size := by have := hb10.size; omega
                  have hlol10 := HRo10.out.lt
                  have hbl10 := HP10.out.lt
                  clear hb10
                  have f10 := HP10.out.fz2
                  have g10 := HP10.out.ok2
                  go_wp2
                  go_roundg r2.length
                  case measure => first | omega | simp
                  case rel =>
                    have hso := Only.set (S := fun k => k = b) (p := ⟨b, 2, none⟩) (Only.refl w10) (.inl rfl) (.bool false)
                    exact ⟨m', es, cs, ks, fs, gs, A1, A2, A3, c1, c2, c3, r2, false, rfl, HC2.out.1, by have := HC2.out; omega, HRf.out, HT10.out.only hso (fun j (hj : j = b) => show j < ob + 1 by omega), HRo10.out.only hso (show ¬ ob = b by omega), HRr10.out.only hso (show ¬ w.heap.size = b by omega), HP10.out.off, HB10.out.set (p := ⟨b, 2, none⟩) (.inl rfl) _, by simp only [World.setCell, Array.size_modify]; omega⟩
              · have k8b : (K == 8) = false := by rw [beq_eq_false_iff_ne]; exact k8
                have HRf := Lib.hid (show RES = spMk K t (spParts kid deep K m' es cs ks r2 false) by rw [HRe.out, if_neg (fun h => k8 h.1), if_pos rfl])
                clear k8
                go_wp2_with fail
                refine (IP.out _ HP7.out).mono ?_
                rintro e w8 ⟨rfl, hb8⟩
                have HP8 := Lib.hid (HP7.out.on hb8)
                have HT8 := Lib.hid (HT7.out.only (S := fun _ => False) (only_below hb8) fun _ h => h.elim)
                have HRo8 := Lib.hid (HRo7.out.on hb8)
                have HRr8 := Lib.hid (HRr7.out.on hb8)
                have HB8 := Lib.hid (HB7.out.below hb8)
                have hz8 : ob + 1 ≤ w8.heap.size := by have := hb8.size; omega
                have hlol8 := HRo8.out.lt
                have hbl8 := HP8.out.lt
                clear hb8
                have o88 : w8.cell? ⟨ob, 0, none⟩ = some (.int .i64 K) := HRo8.out.cell 0
                go_wp2_with fail
                refine (IP.out _ HP8.out).mono ?_
                rintro e w10 ⟨rfl, hb10⟩
                have HP10 := Lib.hid (HP8.out.on hb10)
                have HT10 := Lib.hid (HT8.out.only (S := fun _ => False) (only_below hb10) fun _ h => h.elim)
                have HRo10 := Lib.hid (HRo8.out.on hb10)
                have HRr10 := Lib.hid (HRr8.out.on hb10)
                have HB10 := Lib.hid (HB8.out.below hb10)
                have hz10 : ob + 1 ≤ w10.heap.size := by have := hb10.size; omega
                have hlol10 := HRo10.out.lt
                have hbl10 := HP10.out.lt
                clear hb10
                have f10 := HP10.out.fz2
                have g10 := HP10.out.ok2
                go_wp2
                go_roundg r2.length
                case measure => first | omega | simp
                case rel =>
                  have hso := Only.set (S := fun k => k = b) (p := ⟨b, 2, none⟩) (Only.refl w10) (.inl rfl) (.bool false)
                  exact ⟨m', es, cs, ks, fs, gs, A1, A2, A3, c1, c2, c3, r2, false, rfl, HC2.out.1, by have := HC2.out; omega, HRf.out, HT10.out.only hso (fun j (hj : j = b) => show j < ob + 1 by omega), HRo10.out.only hso (show ¬ ob = b by omega), HRr10.out.only hso (show ¬ w.heap.size = b by omega), HP10.out.off, HB10.out.set (p := ⟨b, 2, none⟩) (.inl rfl) _, by simp only [World.setCell, Array.size_modify]; omega⟩
        case rest =>
          clear HO HRR HP HB hzr HRs
          obtain ⟨es, cs, ks, fs, gs, A1, A2, A3, c1, c2, c3, l3, ok3, hRs, hcnt, hthr, hro, hrr, hps, hb, hzr⟩ := hcut
          have HRs := Lib.hid hRs
          have HT9 := Lib.hid hthr
          have HO := Lib.hid hro
          have HRR := Lib.hid hrr
          have HB := Lib.hid hb
          have HE9 := Lib.hid (eat_ok 41 41 rfl hps hL8)
          have hlol := hro.lt
          clear hRs hthr hro hrr hps hb
          go_wp2_with fail
          refine HE9.out.mono ?_
          rintro e w9 ⟨rfl, h9, hb9, hz9⟩
          have H9 := Lib.hid h9
          have HB9 := Lib.hid (HB.out.trans hb9)
          have HT := Lib.hid (HT9.out.only hb9 fun j (hj : j = b) => by show j < ob + 1; omega)
          have hro := HO.out.only hb9 (by omega)
          have hrow := HRR.out.only hb9 (by omega)
          have a0 := hro.cell 0
          have a1 := hro.cell 1
          have a2 := hro.cell 2
          have a3 := hro.cell 3
          have a4 := hro.cell 4
          have x0 := hrow.cell 0
          have x1 := hrow.cell 1
          have x2 := hrow.cell 2
          have x3 := hrow.cell 3
          have x4 := hrow.cell 4
          have f0 := hrow.frozen 0
          have f1 := hrow.frozen 1
          have f2 := hrow.frozen 2
          have f3 := hrow.frozen 3
          have f4 := hrow.frozen 4
          have hl3 := hrow.lt
          clear h9 hb9 hz9 hro hrow
          go_wp2
          have hO := set5 w9 w.heap.size (.int .i64 K) (.int .i64 t) (.slice A1 es.length c1) (.slice A2 cs.length c2) (.slice A3 ks.length c3)
          refine bodyPost_ret (v := fpV ⟨K, t, ⟨A1, es.length, c1⟩, ⟨A2, cs.length, c2⟩, ⟨A3, ks.length, c3⟩⟩) (by simp [results, Tryz.results25, go_sem, fpV, x0, x1, x2, x3, x4]) rfl ?_
          rw [HRs.out]
          refine ⟨_, rfl, ?_, ?_, ?_⟩
          · exact (HT.out.only hO (fun j (hj : j = w.heap.size) => by show j < ob + 1; omega)).make (fun q _ hq => by show w.heap.size ≤ q; omega) (by omega) (by omega) (by omega)
          · exact H9.out.only hO (by omega)
          · exact HB9.out.step hO fun j hj => .inr (by omega)

theorem spPlan_ok : ∀ d : Nat, d ≤ 8 → PPs d
  | 0, h => spPlan_of 0 h fun d' hd => by omega
  | d + 1, h => spPlan_of (d + 1) h fun d' hd => by
    obtain rfl : d' = d := by omega
    exact spPlan_ok d' (by omega)

end Go.Proofs.YtmhlpjfijpomkaaGreatDoor
