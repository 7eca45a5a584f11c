/-
  The search for the end of a word is answered for every text, of whatever bytes (strings.IndexAny with " ()").
-/
import Derived.Test.YtmhlpjfijpomkaaGreatDoorProg
import Derived.Test.YtmhlpjfijpomkaaGreatDoorZqDcI
import Derived.Shelf.Small.Utf8
import Derived.WalkMore
namespace Go.Qo
open Go.RowKit
set_option linter.unusedVariables false
set_option linter.unusedSimpArgs false

theorem get!_eq (s : ByteArray) (i : Nat) (h : i < s.size) : s.get! i = s[i]'h := by
  simp [ByteArray.get!, getElem!_pos, h]
  rfl
/-- A rune that begins with a byte from 128 on is no ASCII letter, and takes bytes from 128 on alone. -/
theorem decode_big (s : ByteArray) (pos : Nat) (h : pos < s.size) (hb : 128 ≤ (s[pos]'h).toNat) :
    ∃ r n, Utf8.decode s pos = (r, n) ∧ 128 ≤ r ∧ r ≤ 1114111 ∧ 1 ≤ n ∧ pos + n ≤ s.size ∧ ∀ j, (hj : j < s.size) → pos ≤ j → j < pos + n → 128 ≤ (s[j]'hj).toNat := by
  have h0 : s.get! (pos + 0) = s[pos]'h := get!_eq s pos h
  have one : ∀ j, (hj : j < s.size) → pos ≤ j → j < pos + 1 → 128 ≤ (s[j]'hj).toNat := fun j hj h1 h2 => by
    obtain rfl : j = pos := by omega
    exact hb
  have lt := (s[pos]'h).toNat_lt
  have fall : ∃ r n, (Utf8.runeError, 1) = (r, n) ∧ 128 ≤ r ∧ r ≤ 1114111 ∧ 1 ≤ n ∧ pos + n ≤ s.size ∧ ∀ j, (hj : j < s.size) → pos ≤ j → j < pos + n → 128 ≤ (s[j]'hj).toNat :=
    ⟨_, _, rfl, by decide, by decide, by omega, by omega, one⟩
  have cont : ∀ k, (decide (pos + k < s.size) && (s.get! (pos + k)).toNat / 64 == 2) = true → ∃ hk : pos + k < s.size, 128 ≤ (s[pos + k]'hk).toNat := fun k hk => by
    simp at hk
    obtain ⟨h1, h2⟩ := hk
    refine ⟨h1, ?_⟩
    rw [get!_eq s _ h1] at h2
    omega
  have b1 := (s.get! (pos + 1)).toNat_lt
  have b2 := (s.get! (pos + 2)).toNat_lt
  have b3 := (s.get! (pos + 3)).toNat_lt
  have vl : ∀ c : Nat, Utf8.valid (c : Int) = true → c ≤ 1114111 := fun c hc => by
    simp [Utf8.valid] at hc
    omega
  simp only [Utf8.decode, h0]
  rw [if_neg (by omega)]
  split
  · rename_i hc
    simp only [Bool.and_eq_true] at hc
    obtain ⟨k1, h1⟩ := cont 1 (by simpa using hc.2)
    split
    · rename_i hge
      refine ⟨_, _, rfl, by omega, by omega, by omega, by omega, fun j hj h2 h3 => ?_⟩
      rcases Nat.lt_or_ge j (pos + 1) with h4 | h4
      · exact one j hj h2 h4
      · obtain rfl : j = pos + 1 := by omega
        exact h1
    · exact fall
  · split
    · rename_i hc
      simp only [Bool.and_eq_true] at hc
      obtain ⟨k1, h1⟩ := cont 1 (by simpa using hc.1.2)
      obtain ⟨k2, h2⟩ := cont 2 (by simpa using hc.2)
      split
      · rename_i hge
        simp only [Bool.and_eq_true, decide_eq_true_eq] at hge
        refine ⟨_, _, rfl, by omega, vl _ hge.2, by omega, by omega, fun j hj h3 h4 => ?_⟩
        rcases Nat.lt_or_ge j (pos + 1) with h5 | h5
        · exact one j hj h3 h5
        · rcases Nat.lt_or_ge j (pos + 2) with h6 | h6
          · obtain rfl : j = pos + 1 := by omega
            exact h1
          · obtain rfl : j = pos + 2 := by omega
            exact h2
      · exact fall
    · split
      · rename_i hc
        simp only [Bool.and_eq_true] at hc
        obtain ⟨k1, h1⟩ := cont 1 (by simpa using hc.1.1.2)
        obtain ⟨k2, h2⟩ := cont 2 (by simpa using hc.1.2)
        obtain ⟨k3, h3⟩ := cont 3 (by simpa using hc.2)
        split
        · rename_i hge
          simp only [Bool.and_eq_true, decide_eq_true_eq] at hge
          refine ⟨_, _, rfl, by omega, vl _ hge.2, by omega, by omega, fun j hj h4 h5 => ?_⟩
          rcases Nat.lt_or_ge j (pos + 1) with h6 | h6
          · exact one j hj h4 h6
          · rcases Nat.lt_or_ge j (pos + 2) with h7 | h7
            · obtain rfl : j = pos + 1 := by omega
              exact h1
            · rcases Nat.lt_or_ge j (pos + 3) with h8 | h8
              · obtain rfl : j = pos + 2 := by omega
                exact h2
              · obtain rfl : j = pos + 3 := by omega
                exact h3
        · exact fall
      · exact fall
/-- The iterator over a text moves on. -/
def itSet (w : World) (b : Nat) (s : ByteArray) (pos : Nat) : World := { w with heap := w.heap.setIfInBounds b (.stringIter s pos) }
theorem nextIt_at {P : Program} (w : World) (b : Nat) (s : ByteArray) (pos : Nat) (ty : TypeId) (hit : w.heap[b]? = some (.stringIter s pos)) (h : pos < s.size) {r n : Nat} (hd : Utf8.decode s pos = (r, n)) :
    (Instr.next (.pointer (some ⟨b, 0, none⟩)) true ty).run P w = .ok (.tuple #[.bool true, .int .i64 pos, .int .i32 r]) (itSet w b s (pos + n)) := by
  have hb : b < w.heap.size := (Array.getElem?_eq_some_iff.1 hit).1
  simp only [Instr.next, getObj, setObj, Sem.run_bind, Sem.run, hit, Result.andThen, h, if_true, hd]
  simp [goInt, Sem.run, hit, hb, itSet]
theorem nextIt_stop {P : Program} (w : World) (b : Nat) (s : ByteArray) (pos : Nat) (ty : TypeId) (hit : w.heap[b]? = some (.stringIter s pos)) (h : ¬ pos < s.size) :
    (Instr.next (.pointer (some ⟨b, 0, none⟩)) true ty).run P w = .ok (.tuple #[.bool false]) w := by
  simp [Instr.next, getObj, Sem.run, hit, h]
theorem itSet_below {w : World} {b : Nat} {s : ByteArray} {pos B : Nat} (h : B ≤ b) : Below B w (itSet w b s pos) :=
  ⟨rfl, rfl, rfl, by simp [itSet], fun k hk => by simp [itSet, Array.getElem?_setIfInBounds, show ¬ b = k by omega]⟩
theorem itSet_at {w : World} {b : Nat} {s : ByteArray} {pos : Nat} (h : b < w.heap.size) : (itSet w b s pos).heap[b]? = some (.stringIter s pos) := by simp [itSet, h]
theorem itSet_size {w : World} {b : Nat} {s : ByteArray} {pos : Nat} : (itSet w b s pos).heap.size = w.heap.size := by simp [itSet]
theorem NoAny_more {s chars : List UInt8} {i n : Nat} (h : Lib.NoAny s chars i) (hm : ∀ j b, i ≤ j → j < i + n → s[j]? = some b → chars.contains b = false) : Lib.NoAny s chars (i + n) := fun j b hj hb => by
  by_cases h1 : j < i
  · exact h j b h1 hb
  · exact hm j b (by omega) hj hb
theorem indexByte_no (c : UInt8) : ∀ l : List UInt8, (∀ b ∈ l, b ≠ c) → Lib.indexByte l c = -1
  | [], _ => rfl
  | b :: l, h => by
    have ih := indexByte_no c l fun x hx => h x (List.mem_cons_of_mem _ hx)
    have hb := h b (List.mem_cons_self ..)
    unfold Lib.indexByte
    simp [hb, ih]
theorem encode_big (r : Nat) (h : 128 ≤ r) (hv : r ≤ 1114111) : ∃ (E : ByteArray) (m : Nat), Utf8.encode (r : Int) = E ∧ E.size = m + 1 ∧ 1 ≤ m ∧ m ≤ 3 ∧ ∃ hm : m < E.size, 128 ≤ (E[m]'hm).toNat := by
  have key : ∀ c : Nat, 128 ≤ c → c ≤ 1114111 → ∃ (E : ByteArray) (m : Nat), (if c < 0x80 then (⟨#[UInt8.ofNat c]⟩ : ByteArray) else if c < 0x800 then ⟨#[UInt8.ofNat (0xC0 + c / 64), UInt8.ofNat (0x80 + c % 64)]⟩
      else if c < 0x10000 then ⟨#[UInt8.ofNat (0xE0 + c / 4096), UInt8.ofNat (0x80 + c / 64 % 64), UInt8.ofNat (0x80 + c % 64)]⟩
      else ⟨#[UInt8.ofNat (0xF0 + c / 262144), UInt8.ofNat (0x80 + c / 4096 % 64), UInt8.ofNat (0x80 + c / 64 % 64), UInt8.ofNat (0x80 + c % 64)]⟩) = E ∧ E.size = m + 1 ∧ 1 ≤ m ∧ m ≤ 3 ∧ ∃ hm : m < E.size, 128 ≤ (E[m]'hm).toNat := by
    intro c hc hc2
    have hl : (UInt8.ofNat (0x80 + c % 64)).toNat = 0x80 + c % 64 := UInt8.toNat_ofNat_of_lt' (by show 0x80 + c % 64 < 256; omega)
    rw [if_neg (by omega)]
    split
    · exact ⟨_, 1, rfl, rfl, by omega, by omega, (by show 1 < 2; omega), by show 128 ≤ (UInt8.ofNat (0x80 + c % 64)).toNat; omega⟩
    · split
      · exact ⟨_, 2, rfl, rfl, by omega, by omega, (by show 2 < 3; omega), by show 128 ≤ (UInt8.ofNat (0x80 + c % 64)).toNat; omega⟩
      · exact ⟨_, 3, rfl, rfl, by omega, by omega, (by show 3 < 4; omega), by show 128 ≤ (UInt8.ofNat (0x80 + c % 64)).toNat; omega⟩
  unfold Utf8.encode
  dsimp only
  split
  · exact key r h hv
  · exact key Utf8.runeError (by decide) (by decide)
end Go.Qo
namespace Go.Proofs.YtmhlpjfijpomkaaGreatDoor
open Go.RowKit Go.Qo
set_option linter.unusedVariables false
set_option linter.unusedSimpArgs false

abbrev parS : ByteArray := ⟨#[32, 40, 41]⟩
theorem validRune_ok (r : Int) (w : World) : Calls Tryz.prog 133 #[.int .i32 r] w fun e w' => e = .returned (.bool (Lib.validRune r)) ∧ w' = w := Any.utf8_ValidRune (ρ := Tryz.lays153_ren) { Tryz.lays153 with } r w
theorem indexByte_ok (s : ByteArray) (c : Int) (w : World) : Calls Tryz.prog 132 #[.string s, .int .u8 c] w fun e w' => e = .returned (.int .i64 (Lib.indexByte s.data.toList c.toNat.toUInt8)) ∧ w' = w := Any.strings_IndexByte (ρ := Tryz.lays153_ren) { Tryz.lays153 with } s c w
theorem indexRuneA_ok (s : ByteArray) (r : Int) (w : World) (h0 : 0 ≤ r) (h1 : r < 128) : Calls Tryz.prog 117 #[.string s, .int .i32 r] w fun e w' => e = .returned (.int .i64 (Lib.indexByte s.data.toList r.toNat.toUInt8)) ∧ w' = w := Any.strings_IndexRune_ascii (ρ := Tryz.lays153_ren) { Tryz.lays153 with } s r w h0 h1
theorem shouldUse_ok (n : Int) (w : World) : Calls Tryz.prog 118 #[.int .i64 n] w fun e w' => e = .returned (.bool (decide (8 < n))) ∧ w' = w := Any.strings_shouldUseASCIISet (ρ := Tryz.lays153_ren) { Tryz.lays153 with } n w

set_option maxHeartbeats 4000000 in
set_option maxRecDepth 400000 in
/-- A rune from 128 on is not among " ()". -/
theorem indexRuneB_ok (r : Nat) (w : World) (h0 : 128 ≤ r) (h1 : r ≤ 1114111) : Calls Tryz.prog 117 #[.string parS, .int .i32 r] w fun e w' => e = .returned (.int .i64 (-1)) ∧ Below w.heap.size w w' := by
  have hr0 : ¬ (r : Int) < 128 := by omega
  have hr1 : (0 : Int) ≤ (r : Int) := by omega
  by_cases he : r = 65533
  · subst he
    obtain ⟨X, hX⟩ : ∃ X, parS = X := ⟨_, rfl⟩
    have hsz : X.size = 3 := by rw [← hX]; rfl
    have hget : ∀ i (hi : i < X.size), (X[i]'hi).toNat < 128 := by
      subst hX
      intro i hi
      have h3 : i = 0 ∨ i = 1 ∨ i = 2 := by omega
      rcases h3 with rfl | rfl | rfl
      · exact (show (32 : UInt8).toNat < 128 by decide)
      · exact (show (40 : UInt8).toNat < 128 by decide)
      · exact (show (41 : UInt8).toNat < 128 by decide)
    have HG := Lib.hid hget
    rw [hX]
    clear hX hget
    go_enter Tryz.func117, Tryz.ntmps117
    go_wp2
    go_loopg [5, 6] 3 (fun g _ _ wx => ∃ i : Nat, i + g = 3 ∧ wx = w.iter X i)
    case atStart => exact ⟨0, by omega, rfl⟩
    case round =>
      obtain ⟨i, hig, rfl⟩ := hrel
      by_cases hi3 : i < 3
      · have hi : i < X.size := by omega
        have ha := HG.out i hi
        have hnx := fun ty => run_next_ascii (P := Tryz.prog) w X i ty hi ha
        obtain ⟨x, hx⟩ : ∃ x : UInt8, X[i]'hi = x := ⟨_, rfl⟩
        rw [hx] at hnx ha
        have hne : ((x.toNat : Int) == 65533) = false := by rw [beq_eq_false_iff_ne]; omega
        clear hx
        go_wp2
        go_roundg (3 - (i + 1))
        case measure => omega
        case rel => exact ⟨i + 1, by omega, rfl⟩
      · have hnx := run_next_end (P := Tryz.prog) w X i
        have hge : ¬ i < X.size := by omega
        go_wp2
        go_ret
        exact ⟨rfl, (Below.refl _ _).alloc (Nat.le_refl _) _⟩
  · obtain ⟨q, hq⟩ : ∃ q, Lib.validRune (r : Int) = q := ⟨_, rfl⟩
    have HV := Lib.hid (validRune_ok (r : Int) w)
    rw [hq] at HV
    have hne : ((r : Int) == 65533) = false := by rw [beq_eq_false_iff_ne]; omega
    cases q with
    | false =>
      clear hq he
      go_enter Tryz.func117, Tryz.ntmps117
      go_wp2_with fail
      refine HV.out.mono ?_
      rintro e w' ⟨rfl, rfl⟩
      go_wp2
      go_ret
      exact ⟨rfl, Below.refl _ _⟩
    | true =>
      obtain ⟨E, m, hE, hz, hm1, hm3, hmz, hEm⟩ := encode_big r h0 h1
      obtain ⟨y, hy⟩ : ∃ y, E[m]'hmz = y := ⟨_, rfl⟩
      rw [hy] at hEm
      have hmI : IntKind.i64.wrap ((E.size : Int) - 1) = (m : Int) := by rw [hz]; rw [show ((m + 1 : Nat) : Int) - 1 = m by omega]; exact IntWalk.i64_in _ (by omega)
      have hzI : ((m + 1 : Nat) : Int) = (m : Int) + 1 := by omega
      clear hq he
      go_enter Tryz.func117, Tryz.ntmps117
      go_wp2_with fail
      refine HV.out.mono ?_
      rintro e w' ⟨rfl, rfl⟩
      go_wp2
      go_step3
      obtain ⟨X, hX⟩ : ∃ X, parS = X := ⟨_, rfl⟩
      have hsz : X.size = 3 := by rw [← hX]; rfl
      have hyb : ((y.toNat : Int)).toNat.toUInt8 = y := by simp
      have hm123 : m = 3 ∨ m < 3 := by omega
      have HX : m < 3 → ∃ (T : ByteArray) (c : UInt8) (hm : m < X.size), X[m]'hm = c ∧ ((c.toNat : Int) != (y.toNat : Int)) = true ∧ X.extract (m + 1) 3 = T ∧ ∀ z : World, Calls Tryz.prog 132 #[.string T, .int .u8 (y.toNat : Int)] z fun e w' => e = .returned (.int .i64 (-1)) ∧ Below z.heap.size z w' := by
        intro h3
        have hI : ∀ l : List UInt8, (∀ b ∈ l, b.toNat < 128) → ∀ z : World, Calls Tryz.prog 132 #[.string (bArr l), .int .u8 (y.toNat : Int)] z fun e w' => e = .returned (.int .i64 (-1)) ∧ Below z.heap.size z w' := fun l hl z => by
          refine (indexByte_ok (bArr l) (y.toNat : Int) z).mono ?_
          rintro e w' ⟨rfl, rfl⟩
          rw [hyb]
          have : Lib.indexByte (bArr l).data.toList y = -1 := indexByte_no y l fun b hb e => by have := hl b hb; rw [e] at this; omega
          rw [this]
          exact ⟨rfl, Below.refl _ _⟩
        subst hX
        have hm12 : m = 1 ∨ m = 2 := by omega
        rcases hm12 with rfl | rfl
        · exact ⟨bArr [41], 40, by decide, rfl, by rw [bne_iff_ne]; show ((40 : Nat) : Int) ≠ _; omega, rfl, hI [41] (by decide)⟩
        · exact ⟨bArr [], 41, by decide, rfl, by rw [bne_iff_ne]; show ((41 : Nat) : Int) ≠ _; omega, rfl, hI [] (by decide)⟩
      rw [hX]
      go_wp2
      go_loopg [9] 0 (fun g v9 wx => v9 = .int .i64 m ∧ wx = w')
      case atStart => exact ⟨rfl, rfl⟩
      case round =>
        obtain ⟨rfl, rfl⟩ := hrel
        rcases hm123 with rfl | hlt
        · go_wp2
          rw [Exit.noGoto_ret]
          go_ret
          exact ⟨rfl, Below.refl _ _⟩
        · obtain ⟨T, c, hmX, hXc, hcy, hTx, hIB⟩ := HX hlt
          have HIB := Lib.hid hIB
          have HF := Lib.hid (And.intro hXc (And.intro hcy hTx))
          clear hIB HX hX hyb hXc hcy hTx
          have hw1 : IntKind.i64.wrap ((m : Int) + 1) = (m : Int) + 1 := IntWalk.i64_in _ (by omega)
          have hm1 : m + 1 ≤ X.size := by omega
          go_wp2
          go_step3
          go_wp2
          obtain ⟨hXc, hcy, hTx⟩ := HF.out
          go_quiet (fail)
          go_wp2
          obtain ⟨w1, hw1'⟩ : ∃ z, wr.drewN nq = z := ⟨_, rfl⟩
          have hb1 : Below wr.heap.size wr w1 := by rw [← hw1']; exact bdrewN (Below.refl _ _) _
          rw [hw1']
          refine wp_region_aft w1.heap.size (by kernel_rfl) (by kernel_rfl) ?_
          repeat (go_big_quiet_step ((go_at_call 132; exact Calls.aft (Nat.le_refl _) (HIB.out _))))
          refine wpQuiet_nil ?_
          intro w2 hw'
          obtain ⟨⟨_, hb2⟩, rfl⟩ := hw'
          go_wp2
          rw [Exit.noGoto_ret]
          simp only [Exit.inBlock, Exit.then, Exit.noGoto]
          go_ret
          exact ⟨rfl, bch hb1 hb2⟩

set_option maxHeartbeats 8000000 in
set_option maxRecDepth 400000 in
theorem indexAny_short (s : ByteArray) (w : World) (h8 : s.size ≤ 8) : Calls Tryz.prog 108 #[.string s, .string parS] w fun e w' => e = .returned (.int .i64 (Lib.indexAny s.data.toList parS.data.toList)) ∧ Below w.heap.size w w' := by
  obtain ⟨X, hX⟩ : ∃ X, parS = X := ⟨_, rfl⟩
  have hX3 : X.size = 3 := by rw [← hX]; rfl
  have hemp : X.toList.isEmpty = false := by rw [← hX]; show (bArr [32, 40, 41]).toList.isEmpty = false; rw [ByteArray.toList_eq]; rfl
  have h8z : decide ((8 : Int) < (s.size : Int)) = false := decide_eq_false (by omega)
  have HSU := Lib.hid (fun (z : World) => shouldUse_ok (s.size : Int) z)
  rw [h8z] at HSU
  have HAs := Lib.hid (fun (r : Int) (z : World) (h0 : 0 ≤ r) (h1 : r < 128) => indexRuneA_ok X r z h0 h1)
  have HBs := Lib.hid (fun (r : Nat) (z : World) (h0 : 128 ≤ r) (h1 : r ≤ 1114111) => indexRuneB_ok r z h0 h1)
  rw [hX] at HBs ⊢
  have hchars : ∀ x : UInt8, 128 ≤ x.toNat → X.data.toList.contains x = false := by
    subst hX
    intro x hx
    cases hc : (parS.data.toList).contains x with
    | false => rfl
    | true =>
      exfalso
      have : x ∈ ([32, 40, 41] : List UInt8) := by simpa using hc
      have h3 : x = 32 ∨ x = 40 ∨ x = 41 := by simpa using this
      rcases h3 with rfl | rfl | rfl <;> exact absurd hx (by decide)
  have HCH := Lib.hid hchars
  clear hX h8z hchars
  go_enter Tryz.func108, Tryz.ntmps108
  go_wp2_with fail
  refine (HSU.out w).mono ?_
  rintro e w' ⟨rfl, rfl⟩
  go_wp2
  go_loopg [9, 10] s.size (fun g _ _ wx => ∃ i : Nat, i + g = s.size ∧ wx.heap[w'.heap.size]? = some (.stringIter s i) ∧ Below w'.heap.size w' wx ∧ w'.heap.size < wx.heap.size ∧ Lib.NoAny s.data.toList X.data.toList i)
  case atStart => exact ⟨0, by omega, World.iter_heap _ _ _, (Below.refl _ _).alloc (Nat.le_refl _) _, by simp [World.iter], Lib.NoAny.zero _ _⟩
  case round =>
    obtain ⟨i, hig, hit, hb, hlt, hno⟩ := hrel
    have HN := Lib.hid hno
    have HB := Lib.hid (And.intro hit (And.intro hb hlt))
    clear hno hb
    by_cases hi : i < s.size
    · obtain ⟨x, hx⟩ : ∃ x : UInt8, s[i]'hi = x := ⟨_, rfl⟩
      have hxl : s.data.toList[i]? = some x := by rw [← hx]; exact Lib.data_getElem? s i hi
      by_cases hx128 : x.toNat < 128
      · have hd : Utf8.decode s i = (x.toNat, 1) := by rw [← hx]; exact decode_ascii s i hi (by rw [hx]; exact hx128)
        have hnx := fun ty => nextIt_at (P := Tryz.prog) wr w'.heap.size s i ty hit hi hd
        have Hx := Lib.hid hxl
        have hcon := Lib.contains_iff_indexByte X.data.toList x
        have hback : ((x.toNat : Int)).toNat.toUInt8 = x := by simp
        obtain ⟨W1, hW1⟩ : ∃ z, itSet wr w'.heap.size s (i + 1) = z := ⟨_, rfl⟩
        rw [hW1] at hnx
        have HW1 := Lib.hid hW1
        have HA1 := Lib.hid (HAs.out (x.toNat : Int) W1 (by omega) (by omega))
        rw [hback] at HA1
        clear hxl hx hd hit hlt hW1 hback
        cases hin : X.data.toList.contains x
        · rw [hin] at hcon
          have hltz : ¬ ((0 : Int) ≤ Lib.indexByte X.data.toList x) := of_decide_eq_false hcon.symm
          obtain ⟨ib, hib⟩ : ∃ ib, Lib.indexByte X.data.toList x = ib := ⟨_, rfl⟩
          rw [hib] at HA1 hltz
          have Hin := Lib.hid hin
          clear hcon hib hin
          go_wp2_with fail
          refine HA1.out.mono ?_
          rintro e w2 ⟨rfl, rfl⟩
          go_wp2
          go_roundg (s.size - (i + 1))
          case measure => omega
          case rel =>
            obtain ⟨hit, hb, hlt⟩ := HB.out
            refine ⟨i + 1, by omega, ?_, ?_, ?_, HN.out.succ Hx.out Hin.out⟩
            · rw [← HW1.out]; exact itSet_at hlt
            · rw [← HW1.out]; exact hb.trans (itSet_below (Nat.le_refl _))
            · rw [← HW1.out, itSet_size]; exact hlt
        · rw [hin] at hcon
          have hgez : (0 : Int) ≤ Lib.indexByte X.data.toList x := of_decide_eq_true hcon.symm
          obtain ⟨ib, hib⟩ : ∃ ib, Lib.indexByte X.data.toList x = ib := ⟨_, rfl⟩
          rw [hib] at HA1 hgez
          have Hin := Lib.hid hin
          clear hcon hib hin
          go_wp2_with fail
          refine HA1.out.mono ?_
          rintro e w2 ⟨rfl, rfl⟩
          go_wp2
          go_ret
          obtain ⟨hit, hb, hlt⟩ := HB.out
          exact ⟨by rw [Lib.indexAny_hit HN.out Hx.out Hin.out]; rfl, by rw [← HW1.out]; exact hb.trans (itSet_below (Nat.le_refl _))⟩
      · obtain ⟨r, n, hd, hr1, hr2, hn1, hn2, hall⟩ := decode_big s i hi (by rw [hx]; omega)
        have hnx := fun ty => nextIt_at (P := Tryz.prog) wr w'.heap.size s i ty hit hi hd
        obtain ⟨W1, hW1⟩ : ∃ z, itSet wr w'.heap.size s (i + n) = z := ⟨_, rfl⟩
        rw [hW1] at hnx
        have HW1 := Lib.hid hW1
        have HA1 := Lib.hid (HBs.out r W1 hr1 hr2)
        have HALL := Lib.hid hall
        clear hxl hx hd hit hlt hW1 hall
        go_wp2_with fail
        refine HA1.out.mono ?_
        rintro e w2 ⟨rfl, hb2⟩
        have HB2 := Lib.hid hb2
        clear hb2
        go_wp2
        go_roundg (s.size - (i + n))
        case measure => omega
        case rel =>
          obtain ⟨hit, hb, hlt⟩ := HB.out
          have z1 : W1.heap.size = wr.heap.size := by rw [← HW1.out, itSet_size]
          have a1 : W1.heap[w'.heap.size]? = some (.stringIter s (i + n)) := by rw [← HW1.out]; exact itSet_at hlt
          refine ⟨i + n, by omega, (HB2.out.block _ (by omega)).trans a1, ?_, by have := HB2.out.size; omega, NoAny_more HN.out fun j c h1 h2 h3 => ?_⟩
          · have : Below w'.heap.size wr W1 := by rw [← HW1.out]; exact itSet_below (Nat.le_refl _)
            exact (hb.trans this).trans (HB2.out.mono (by omega))
          · have hj : j < s.size := by omega
            refine HCH.out c ?_
            have := HALL.out j hj h1 h2
            rw [Lib.data_getElem? s j hj] at h3
            rw [Option.some.inj h3] at this
            exact this
    · have hnx := fun ty => nextIt_stop (P := Tryz.prog) wr w'.heap.size s i ty hit hi
      have hie : i = s.size := by omega
      have HIE := Lib.hid hie
      clear hit hlt
      go_wp2
      go_ret
      obtain ⟨hit, hb, hlt⟩ := HB.out
      have hno := HN.out
      rw [HIE.out] at hno
      exact ⟨by rw [Lib.indexAny_none (by rw [← Lib.size_eq]; exact hno)]; rfl, hb⟩

theorem indexAnyP_ok (s : ByteArray) (w : World) (hs : s.size < 4294967281) : Calls Tryz.prog 108 #[.string s, .string parS] w fun e w' => e = .returned (.int .i64 (Lib.indexAny s.data.toList parS.data.toList)) ∧ Below w.heap.size w w' := by
  by_cases h8 : s.size ≤ 8
  · exact indexAny_short s w h8
  · have h116 : (Tryz.prog.info? (Tryz.lays153_ren.t 116)).map (fun i => (i.zero, i.size)) = some (some (.agg (Array.replicate 256 (.bool false))), 256) := by kernel_rfl
    refine (Any.strings_IndexAny_long Tryz.lays153 (zero_of_info h116).1 (zero_of_info h116).2 s parS w (by decide) (by omega) hs (by decide) (fun j b hj => ?_)).mono fun e w' ⟨h1, h2⟩ => ⟨h1, ?_⟩
    · have hm : b ∈ ([32, 40, 41] : List UInt8) := List.mem_of_getElem? hj
      exact (show ∀ x ∈ ([32, 40, 41] : List UInt8), x.toNat < 128 by decide) b hm
    · rw [h2]
      exact ((Below.refl _ _).alloc (Nat.le_refl _) _).alloc (by simp) _
/-- Every text's words can be searched. -/
theorem ix_all {l : List UInt8} (hl : l.length ≤ 8388608) : Ix l := fun a c e w => by
  have hcl : c.length ≤ 8388608 := by have := congrArg List.length e; simp at this; omega
  have := indexAnyP_ok (bArr c) w (by show c.length < _; omega)
  have e1 : Lib.indexAny (bArr c).data.toList parS.data.toList = (if restOf c = [] then -1 else ((wordOf c).length : Int)) := indexAny_word c
  rwa [e1] at this
end Go.Proofs.YtmhlpjfijpomkaaGreatDoor
