/-
  Contracts: the reference's parser: peek, word, eat; numbers and values (parseInt, parseValue).
-/
import Derived.Test.YtmhlpjfijpomkaaGreatDoorProg
import Derived.Test.YtmhlpjfijpomkaaGreatDoorZqDcJ
import Derived.Test.YtmhlpjfijpomkaaGreatDoorZqDcP
namespace Go.Proofs.YtmhlpjfijpomkaaGreatDoor
open Go.RowKit Go.Qo
set_option linter.unusedVariables false
set_option linter.unusedSimpArgs false

/-- The parser at block b reads the text L; r is ahead. -/
def Ps (w : World) (b : Nat) (L r : List UInt8) (ok : Bool) : Prop := ∃ a, L = a ++ r ∧ Row w b 53 [.string (bArr L), .int .i64 a.length, .bool ok]
theorem Ps.on {w w' : World} {b : Nat} {L r : List UInt8} {ok : Bool} (h : Ps w b L r ok) (hb : Below w.heap.size w w') : Ps w' b L r ok := by
  obtain ⟨a, h1, h2⟩ := h
  exact ⟨a, h1, h2.on hb⟩
theorem Ps.only {w w' : World} {b : Nat} {L r : List UInt8} {ok : Bool} {S : Nat → Prop} (h : Ps w b L r ok) (k : Only S w w') (hS : ¬ S b) : Ps w' b L r ok := by
  obtain ⟨a, h1, h2⟩ := h
  exact ⟨a, h1, h2.only k hS⟩
theorem Ps.lt {w : World} {b : Nat} {L r : List UInt8} {ok : Bool} (h : Ps w b L r ok) : b < w.heap.size := by
  obtain ⟨a, h1, h2⟩ := h
  exact h2.lt
theorem bArr_get {l : List UInt8} {n : Nat} {c : UInt8} (h : l[n]? = some c) (hn : n < (bArr l).size) : (bArr l)[n]'hn = c := by
  have hl : n < l.length := hn
  rw [List.getElem?_eq_getElem hl] at h
  exact Option.some.inj h
theorem at_app (a r : List UInt8) (c : UInt8) : (a ++ c :: r)[a.length]? = some c := by
  rw [List.getElem?_append_right (Nat.le_refl _), Nat.sub_self]; rfl

set_option maxHeartbeats 1000000 in
theorem peek_ok {b : Nat} {L r : List UInt8} {ok : Bool} {w : World} (h : Ps w b L r ok) (hL : L.length ≤ 8388608) : Calls Tryz.prog 61 #[.pointer (some ⟨b, 0, none⟩)] w fun e w' =>
    e = .returned (.int .u8 ((r.headD 0).toNat)) ∧ Below w.heap.size w w' := by
  obtain ⟨a, he, h⟩ := h
  have c0 : w.cell? ⟨b, 0, none⟩ = some (.string (bArr L)) := h.cell 0
  have c1 : w.cell? ⟨b, 1, none⟩ = some (.int .i64 a.length) := h.cell 1
  have hlt := h.lt
  obtain ⟨n, hn⟩ : ∃ n, a.length = n := ⟨_, rfl⟩
  have hll : L.length = n + r.length := by rw [he, List.length_append, hn]
  obtain ⟨S, hS⟩ : ∃ S, bArr L = S := ⟨_, rfl⟩
  have hsz : S.size = L.length := by rw [← hS]; rfl
  rw [hn] at c1
  rw [hS] at c0
  have C0 := fun z : Aft w.heap.size w => z.cell hlt c0
  have C1 := fun z : Aft w.heap.size w => z.cell hlt c1
  cases r with
  | nil =>
    have hlt : ¬ (n : Int) < (S.size : Int) := by simp at hll; omega
    have HN := Lib.hid (And.intro hn hll)
    clear h he hn hll hS hsz
    go_enter Tryz.func61, Tryz.ntmps61
    go_wp2
    go_quiet (fail)
    go_wp2
    go_ret
    exact ⟨rfl, bdrewN (Below.refl _ _) _⟩
  | cons c r =>
    have hlt1 : (n : Int) < (S.size : Int) := by simp at hll; omega
    have hnS : n < S.size := by omega
    have hx : S[n]'hnS = c := by
      subst hS
      exact bArr_get (by rw [he, ← hn]; exact at_app a r c) hnS
    have HN := Lib.hid (And.intro hn hll)
    show Calls _ _ _ _ (fun e w' => e = .returned (.int .u8 (c.toNat)) ∧ _)
    clear h he hn hll hS hsz
    go_enter Tryz.func61, Tryz.ntmps61
    go_wp2
    go_quiet (fail)
    go_wp2
    go_quiet (fail)
    go_wp2
    go_ret
    exact ⟨rfl, bdrewN (bdrewN (Below.refl _ _) _) _⟩

theorem isDel_iff (c : UInt8) : isDel c = false ↔ c ≠ 32 ∧ c ≠ 40 ∧ c ≠ 41 := by
  unfold isDel
  simp [and_assoc]
theorem u8_ne {c : UInt8} (k : UInt8) (n : Int) (hk : (k.toNat : Int) = n) (h : c ≠ k) : ((c.toNat : Int) != n) = true ∧ ((c.toNat : Int) == n) = false := by
  have e : ¬ (c.toNat : Int) = n := fun e => h (UInt8.toNat_inj.1 (by omega))
  exact ⟨by rw [bne_iff_ne]; exact e, by rw [beq_eq_false_iff_ne]; exact e⟩
theorem word_go {c : UInt8} {r : List UInt8} (h : isDel c = false) : wordOf (c :: r) = c :: wordOf r ∧ restOf (c :: r) = restOf r := by
  rw [wordOf, restOf, h]
  exact ⟨rfl, rfl⟩

set_option maxHeartbeats 2000000 in
theorem spWord_ok {b : Nat} {L r : List UInt8} {ok : Bool} {w : World} (h : Ps w b L r ok) (hL : L.length ≤ 8388608) : Calls Tryz.prog 58 #[.pointer (some ⟨b, 0, none⟩)] w fun e w' =>
    e = .returned (.string (bArr (wordOf r))) ∧ Ps w' b L (restOf r) ok ∧ But b w w' := by
  obtain ⟨a, he, h⟩ := h
  have c1 : w.cell? ⟨b, 1, none⟩ = some (.int .i64 a.length) := h.cell 1
  have hlt := h.lt
  obtain ⟨n, hn⟩ : ∃ n, a.length = n := ⟨_, rfl⟩
  have hll : L.length = n + r.length := by rw [he, List.length_append, hn]
  obtain ⟨S, hS⟩ : ∃ S, bArr L = S := ⟨_, rfl⟩
  have hsz : S.size = L.length := by rw [← hS]; rfl
  obtain ⟨X, hX⟩ : ∃ X, bArr (wordOf r) = X := ⟨_, rfl⟩
  rw [hX]
  rw [hn] at c1
  have HS := Lib.hid (And.intro hS (And.intro hsz hll))
  have HE := Lib.hid (And.intro he hn)
  have HX := Lib.hid hX
  have Hh := Lib.hid h
  have fin : ∀ (q m : List UInt8), r = m ++ q → NoDel m → Delim q → S.extract n (n + m.length) = X ∧ restOf r = q := by
    intro q m h1 h2 h3
    obtain ⟨w1, w2⟩ := wordOf_app h2 h3
    rw [← h1] at w1 w2
    refine ⟨?_, w2⟩
    rw [← hS, bArr_extract, ← hX, w1, he, ← hn, List.drop_left, Nat.add_sub_cancel_left, h1, List.take_left]
  have FIN := Lib.hid fin
  clear h he hn hS hsz hll hX fin
  go_enter Tryz.func58, Tryz.ntmps58
  go_wp2
  go_loopg [] (r.length) (fun g wr => ∃ q m : List UInt8, r = m ++ q ∧ NoDel m ∧ g = q.length ∧ Row wr b 53 [.string (bArr L), .int .i64 ((n + m.length : Nat) : Int), .bool ok] ∧ But b w wr)
  case atStart => exact ⟨r, [], rfl, (fun c hc => by cases hc), rfl, by have := Hh.out; rw [HE.out.2] at this; exact this, Only.refl _⟩
  case round =>
    obtain ⟨q, m, hr, hm, rfl, hrow, hb⟩ := hrel
    have HR := Lib.hid (And.intro hr hm)
    have HB := Lib.hid (And.intro hrow hb)
    have c0 : wr.cell? ⟨b, 0, none⟩ = some (.string (bArr L)) := hrow.cell 0
    have c1 : wr.cell? ⟨b, 1, none⟩ = some (.int .i64 ((n + m.length : Nat) : Int)) := hrow.cell 1
    rw [HS.out.1] at c0
    have hlt := hrow.lt
    have f1 := hrow.frozen 1
    obtain ⟨p, hp⟩ : ∃ p, n + m.length = p := ⟨_, rfl⟩
    rw [hp] at c1
    have hpl : S.size = p + q.length := by rw [HS.out.2.1, HS.out.2.2, hr, ← hp, List.length_append]; omega
    have hpS : S.size ≤ 8388608 := by rw [HS.out.2.1]; exact hL
    have hnp : n ≤ p := by omega
    have HP := Lib.hid hp
    have C0 := fun z : Aft wr.heap.size wr => z.cell hlt c0
    have C1 := fun z : Aft wr.heap.size wr => z.cell hlt c1
    have hget : ∀ c q', q = c :: q' → ∃ h : p < S.size, S[p]'h = c := by
      intro c q' hq
      have h0 : p < S.size := by rw [hpl, hq]; simp
      refine ⟨h0, ?_⟩
      have e1 := HS.out.1
      subst e1
      refine bArr_get ?_ h0
      have hh := HE.out.1
      rw [hr, hq] at hh
      rw [hh, ← List.append_assoc, ← hp, ← HE.out.2, ← List.length_append]
      exact at_app _ _ _
    clear hr hm hrow hb hp
    have stop : Delim q → (S.extract n p = X ∧ restOf r = q) := fun hd => by rw [← HP.out]; exact FIN.out q m HR.out.1 HR.out.2 hd
    have ENDS := Lib.hid (fun (wz : World) (hz : Below wr.heap.size wr wz) => show Ps wz b L q ok from ⟨a ++ m, by rw [List.append_assoc, ← HR.out.1]; exact HE.out.1, by
      have := HB.out.1.on hz
      rwa [List.length_append, HE.out.2]⟩)
    have hps : p ≤ S.size := by omega
    by_cases hq : ∃ c q', q = c :: q' ∧ isDel c = false
    case neg =>
      have hnd : ∀ c q', q = c :: q' → isDel c = true := fun c q' e => by
        cases h : isDel c with
        | true => rfl
        | false => exact absurd ⟨c, q', e, h⟩ hq
      obtain ⟨hex, hrq⟩ := stop hnd
      have HRQ := Lib.hid hrq
      clear stop
      have hcs : q = [] ∨ ∃ c q', q = c :: q' ∧ (c = 32 ∨ c = 40 ∨ c = 41) := by
        cases q with
        | nil => exact .inl rfl
        | cons c q' =>
          right
          refine ⟨c, q', rfl, ?_⟩
          have := hnd c q' rfl
          unfold isDel at this
          simpa [or_assoc] using this
      clear hq hnd hrq
      rcases hcs with hq | ⟨c, q', hq, hc⟩
      · have hge : ¬ p < S.size := by rw [hq] at hpl; simp at hpl; omega
        have hgd : decide (p < S.size) = false := decide_eq_false hge
        clear hget hpl hq
        go_wp2
        go_quiet (fail)
        go_wp2
        go_quiet (fail)
        go_wp2
        go_ret
        exact ⟨rfl, by rw [HRQ.out]; exact ENDS.out _ (bdrewN (bdrewN (Below.refl _ _) _) _), HB.out.2.trans (only_below (bdrewN (bdrewN (Below.refl _ _) _) _))⟩
      · obtain ⟨h0, hx⟩ := hget c q' hq
        have hlp : (p : Int) < (S.size : Int) := by omega
        clear hget hpl hq
        rcases hc with rfl | rfl | rfl
        · go_wp2
          go_quiet (fail)
          go_wp2
          go_quiet (fail)
          go_wp2
          go_ret
          exact ⟨rfl, by rw [HRQ.out]; exact ENDS.out _ (bdrewN (bdrewN (Below.refl _ _) _) _), HB.out.2.trans (only_below (bdrewN (bdrewN (Below.refl _ _) _) _))⟩
        · go_wp2
          go_quiet (fail)
          go_wp2
          go_quiet (fail)
          go_wp2
          go_ret
          exact ⟨rfl, by rw [HRQ.out]; exact ENDS.out _ (bdrewN (bdrewN (Below.refl _ _) _) _), HB.out.2.trans (only_below (bdrewN (bdrewN (Below.refl _ _) _) _))⟩
        · go_wp2
          go_quiet (fail)
          go_wp2
          go_quiet (fail)
          go_wp2
          go_ret
          exact ⟨rfl, by rw [HRQ.out]; exact ENDS.out _ (bdrewN (bdrewN (Below.refl _ _) _) _), HB.out.2.trans (only_below (bdrewN (bdrewN (Below.refl _ _) _) _))⟩
    case pos =>
      obtain ⟨c, q', rfl, hc⟩ := hq
      obtain ⟨h0, hx⟩ := hget c q' rfl
      have hlp : (p : Int) < (S.size : Int) := by omega
      obtain ⟨n1, n2, n3⟩ := (isDel_iff c).1 hc
      have m1 := (u8_ne 32 32 rfl n1).1
      have m2 := (u8_ne 40 40 rfl n2).1
      have m3 := (u8_ne 41 41 rfl n3).1
      have hw : IntKind.i64.wrap ((p : Int) + 1) = (p : Int) + 1 := IntWalk.i64_in _ (by omega)
      have Hc := Lib.hid hc
      clear hget hpl stop n1 n2 n3 hc
      go_wp2
      go_quiet (fail)
      go_wp2
      go_roundg q'.length
      case measure => simp
      case rel =>
        refine ⟨q', m ++ [c], by rw [HR.out.1]; simp, fun d hd => ?_, rfl, ?_, ?_⟩
        · rcases List.mem_append.1 hd with hd | hd
          · exact HR.out.2 d hd
          · rw [List.mem_singleton.1 hd]; exact Hc.out
        · have h1 := (HB.out.1.on (bdrewN (Below.refl wr.heap.size wr) nq)).set 1 (.int .i64 ((p : Int) + 1))
          have e : (((n + (m ++ [c]).length : Nat) : Int)) = (p : Int) + 1 := by have := HP.out; simp; omega
          rw [e]
          exact h1
        · exact (HB.out.2.trans (only_below (bdrewN (Below.refl _ _) _))).set (p := ⟨b, 1, none⟩) (.inl rfl) _

set_option maxHeartbeats 1000000 in
theorem eat_ok {b : Nat} {L r : List UInt8} {ok : Bool} {w : World} (c : UInt8) (kk : Int) (hkk : (c.toNat : Int) = kk) (h : Ps w b L r ok) (hL : L.length ≤ 8388608) : Calls Tryz.prog 57 #[.pointer (some ⟨b, 0, none⟩), .int .u8 kk] w fun e w' =>
    e = .returned (.tuple #[]) ∧ Ps w' b L (spEat c r ok).1 (spEat c r ok).2 ∧ But b w w' ∧ w'.heap.size = w.heap.size := by
  obtain ⟨a, he, h⟩ := h
  have c0 : w.cell? ⟨b, 0, none⟩ = some (.string (bArr L)) := h.cell 0
  have c1 : w.cell? ⟨b, 1, none⟩ = some (.int .i64 a.length) := h.cell 1
  have hlt := h.lt
  have c2 : w.cell? ⟨b, 2, none⟩ = some (.bool ok) := h.cell 2
  have f1 := h.frozen 1
  have f2 := h.frozen 2
  obtain ⟨n, hn⟩ : ∃ n, a.length = n := ⟨_, rfl⟩
  have hll : L.length = n + r.length := by rw [he, List.length_append, hn]
  obtain ⟨S, hS⟩ : ∃ S, bArr L = S := ⟨_, rfl⟩
  have hsz : S.size = L.length := by rw [← hS]; rfl
  rw [hn] at c1
  rw [hS] at c0
  have C0 := fun z : Aft w.heap.size w => z.cell hlt c0
  have C1 := fun z : Aft w.heap.size w => z.cell hlt c1
  have Hh := Lib.hid h
  have NO := Lib.hid (fun (hr : ∀ r', r ≠ c :: r') (z : World) (hz : Below w.heap.size w z) => show Ps (z.setCell ⟨b, 2, none⟩ (.bool false)) b L (spEat c r ok).1 (spEat c r ok).2 from by
    rw [spEat_no hr]
    exact ⟨a, he, (h.on hz).set 2 _⟩)
  cases r with
  | nil =>
    have hge : ¬ (n : Int) < (S.size : Int) := by simp at hll; omega
    have hgd : decide (n < S.size) = false := decide_eq_false (by omega)
    clear h he hn hll hS hsz
    go_enter Tryz.func57, Tryz.ntmps57
    go_wp2
    go_quiet (fail)
    go_wp2
    go_end0
    exact ⟨rfl, NO.out (fun r' e => by cases e) _ (bdrewN (Below.refl _ _) _), (only_below (S := fun k => k = b) (bdrewN (Below.refl _ _) _)).set (p := ⟨b, 2, none⟩) (.inl rfl) _, by simp [World.setCell]⟩
  | cons d r =>
    have hlt1 : (n : Int) < (S.size : Int) := by simp at hll; omega
    have hlS : S.size ≤ 8388608 := by rw [hsz]; exact hL
    have hnS : n < S.size := by omega
    have hx : S[n]'hnS = d := by
      subst hS
      exact bArr_get (by rw [he, ← hn]; exact at_app a r d) hnS
    by_cases hd : d = c
    · subst hd
      have hw : IntKind.i64.wrap ((n : Int) + 1) = (n : Int) + 1 := IntWalk.i64_in _ (by omega)
      have hkd : ((d.toNat : Int) == kk) = true := by rw [hkk]; simp
      have YES := Lib.hid (fun (z : World) (hz : Below w.heap.size w z) => show Ps (z.setCell ⟨b, 1, none⟩ (.int .i64 ((n : Int) + 1))) b L (spEat d (d :: r) ok).1 (spEat d (d :: r) ok).2 from by
        rw [spEat_yes]
        refine ⟨a ++ [d], by rw [he]; simp, ?_⟩
        have h1 := (h.on hz).set 1 (.int .i64 ((n : Int) + 1))
        rw [show (((a ++ [d]).length : Nat) : Int) = (n : Int) + 1 by simp; omega]
        exact h1)
      have HK := Lib.hid hkk
      clear h he hn hll hS hsz NO hkk
      go_enter Tryz.func57, Tryz.ntmps57
      go_wp2
      go_quiet (fail)
      go_wp2
      refine bodyPost_ret (results_none rfl _ _ _) rfl ?_
      exact ⟨rfl, YES.out _ (bdrewN (Below.refl _ _) _), (only_below (S := fun k => k = b) (bdrewN (Below.refl _ _) _)).set (p := ⟨b, 1, none⟩) (.inl rfl) _, by simp [World.setCell]⟩
    · have hkd : ((d.toNat : Int) == kk) = false := by rw [← hkk]; exact (u8_ne c _ rfl hd).2
      have hd' := Lib.hid hd
      have HK := Lib.hid hkk
      clear h he hn hll hS hsz hkk hd
      go_enter Tryz.func57, Tryz.ntmps57
      go_wp2
      go_quiet (fail)
      go_wp2
      go_end0
      exact ⟨rfl, NO.out (fun r' e => by cases e; exact hd'.out rfl) _ (bdrewN (Below.refl _ _) _), (only_below (S := fun k => k = b) (bdrewN (Below.refl _ _) _)).set (p := ⟨b, 2, none⟩) (.inl rfl) _, by simp [World.setCell]⟩

theorem digs_bound : ∀ (l : List UInt8), -(23 * (10 : Int) ^ l.length) ≤ digs 0 l - 23 ∧ digs 0 l + 23 ≤ 23 * (10 : Int) ^ l.length := by
  have : ∀ n (l : List UInt8), l.length = n → -(23 * (10 : Int) ^ n) ≤ digs 0 l - 23 ∧ digs 0 l + 23 ≤ 23 * (10 : Int) ^ n := by
    intro n
    induction n with
    | zero =>
      intro l hl
      rw [List.length_eq_zero_iff.1 hl]
      simp [digs]
    | succ n ih =>
      intro l hl
      have hne : l ≠ [] := fun e => by rw [e] at hl; simp at hl
      have e := List.dropLast_concat_getLast hne
      have h1 := ih l.dropLast (by simp; omega)
      obtain ⟨c, hc⟩ : ∃ c, l.getLast hne = c := ⟨_, rfl⟩
      rw [hc] at e
      have h2 : digs 0 l = 10 * digs 0 l.dropLast + c.toNat - 48 := by rw [← e, digs_snoc, List.dropLast_concat]
      have hcl : c.toNat < 256 := c.toNat_lt
      rw [h2, Int.pow_succ]
      generalize (10 : Int) ^ n = P at *
      omega
  exact fun l => this l.length l rfl
theorem pow10_le (k : Nat) (h : k ≤ 9) : (10 : Int) ^ k ≤ 1000000000 := by
  have : ∀ k : Fin 10, (10 : Int) ^ k.val ≤ 1000000000 := by decide
  exact this ⟨k, by omega⟩

set_option maxHeartbeats 2000000 in
theorem parseInt_ok (l : List UInt8) (w : World) (hl : l.length ≤ 8388608) : Calls Tryz.prog 60 #[.string (bArr l)] w fun e w' => e = .returned (.int .i64 (pInt l)) ∧ w' = w := by
  by_cases hh : ∃ m, l = 45 :: m
  · obtain ⟨m, rfl⟩ := hh
    obtain ⟨s, hsg⟩ : ∃ s : Int, s = -1 := ⟨_, rfl⟩
    have hp : pInt (45 :: m) = s * digs 0 (m.take 9) := by unfold pInt; rw [if_pos (show (45 :: m).head? = some 45 from rfl), hsg]; rfl
    rw [hp]
    obtain ⟨S, hS⟩ : ∃ S, bArr (45 :: m) = S := ⟨_, rfl⟩
    have hsz : S.size = m.length + 1 := by rw [← hS]; rfl
    obtain ⟨M, hM⟩ : ∃ S, bArr m = S := ⟨_, rfl⟩
    have hmz : M.size = m.length := by rw [← hM]; rfl
    have hex : S.extract 1 S.size = M := by
      rw [hsz, ← hS, bArr_extract, ← hM, List.drop_one, List.tail_cons, Nat.add_sub_cancel, List.take_of_length_le (Nat.le_refl _)]
    have hS0 : 0 < S.size := by omega
    have hS0' : (0 : Int) < (S.size : Int) := by omega
    have hx0 : S[0]'hS0 = 45 := by
      subst hS
      exact bArr_get rfl hS0
    have h1S : 1 ≤ S.size := by omega
    have hml : m.length ≤ 8388608 := by simp at hl; omega
    rw [hS]
    have HS := Lib.hid (And.intro hS hM)
    obtain ⟨R, hR⟩ : ∃ R, s * digs 0 (m.take 9) = R := ⟨_, rfl⟩
    have HR := Lib.hid hR
    rw [hR]
    clear hR hp hS hM hsz
    go_enter Tryz.func60, Tryz.ntmps60
    go_wp2
    go_loopg [4, 5] (min m.length 9) (fun g v4 v5 wr => ∃ i : Nat, i ≤ min m.length 9 ∧ g = min m.length 9 - i ∧ v4 = .int .i64 (digs 0 (m.take i)) ∧ v5 = .int .i64 i ∧ wr = w)
    case atStart => exact ⟨0, by omega, by omega, rfl, rfl, rfl⟩
    case round =>
      obtain ⟨i, hi, rfl, rfl, rfl, rfl⟩ := hrel
      obtain ⟨x, hx⟩ : ∃ x, digs 0 (m.take i) = x := ⟨_, rfl⟩
      have hb := digs_bound (m.take i)
      rw [hx] at hb ⊢
      have hli : (m.take i).length = i := by rw [List.length_take]; omega
      rw [hli] at hb
      have HX := Lib.hid hx
      have hq := pow10_le i (by omega)
      have hx1 : -23000000000 ≤ x ∧ x ≤ 23000000000 := by omega
      clear hb hq hli hx
      by_cases hlt : i < min m.length 9
      · have hiM : i < M.size := by omega
        have hi1 : (i : Int) < (M.size : Int) := by omega
        have hi9 : (i : Int) < 9 := by omega
        have hc : ∃ c, M[i]'hiM = c ∧ m[i]? = some c := by
          have e := HS.out.2
          subst e
          have h2 : i < m.length := by omega
          exact ⟨m[i], bArr_get (List.getElem?_eq_getElem h2) hiM, List.getElem?_eq_getElem h2⟩
        obtain ⟨c, hc, hmc⟩ := hc
        have hcl : c.toNat < 256 := c.toNat_lt
        have w0 : IntKind.i64.wrap (c.toNat : Int) = (c.toNat : Int) := IntWalk.i64_in _ (by omega)
        have w1 : IntKind.i64.wrap (10 * x) = 10 * x := IntWalk.i64_in _ (by omega)
        have w2 : IntKind.i64.wrap (10 * x + (c.toNat : Int)) = 10 * x + (c.toNat : Int) := IntWalk.i64_in _ (by omega)
        have w3 : IntKind.i64.wrap (10 * x + (c.toNat : Int) - 48) = 10 * x + (c.toNat : Int) - 48 := IntWalk.i64_in _ (by omega)
        have Hmc := Lib.hid hmc
        clear hmc
        go_wp2
        go_roundg (min m.length 9 - (i + 1))
        case measure => omega
        case rel =>
          refine ⟨i + 1, by omega, rfl, ?_, by go_num, rfl⟩
          have e : m.take (i + 1) = m.take i ++ [c] := by rw [List.take_add_one, Hmc.out]; rfl
          rw [e, digs_snoc, HX.out]
      · have hie : i = min m.length 9 := by omega
        have hiR : R = s * x := by
          rw [← HR.out, ← HX.out, hie]
          congr 2
          rcases Nat.le_total m.length 9 with h | h
          · rw [Nat.min_eq_left h, List.take_of_length_le h, List.take_of_length_le (Nat.le_refl _)]
          · rw [Nat.min_eq_right h]
        have w4 : IntKind.i64.wrap ((-1) * x) = (-1) * x := IntWalk.i64_in _ (by omega)
        have w5 : IntKind.i64.wrap (-x) = -x := IntWalk.i64_in _ (by omega)
        have hnn : ¬ ((i : Int) < (M.size : Int) ∧ (i : Int) < 9) := by omega
        have HI := Lib.hid hiR
        have Hsg := Lib.hid hsg
        clear hiR
        by_cases h9 : i < M.size
        · have h10 : ¬ (i : Int) < 9 := by omega
          have h11 : (i : Int) < (M.size : Int) := by omega
          go_wp2
          go_ret
          exact ⟨by rw [HI.out, Hsg.out]; simp [w5], rfl⟩
        · have h10 : ¬ (i : Int) < (M.size : Int) := by omega
          have h11 : decide (i < M.size) = false := decide_eq_false h9
          go_wp2
          go_ret
          exact ⟨by rw [HI.out, Hsg.out]; simp [w5], rfl⟩
  · have hh' : ∀ m, l ≠ 45 :: m := fun m e => hh ⟨m, e⟩
    obtain ⟨s, hsg⟩ : ∃ s : Int, s = 1 := ⟨_, rfl⟩
    obtain ⟨m, hm⟩ : ∃ m, l = m := ⟨_, rfl⟩
    have hp : pInt l = s * digs 0 (m.take 9) := by
      unfold pInt
      rw [if_neg (fun e => by
        cases l with
        | nil => cases e
        | cons c r => exact hh' r (by simp at e; rw [e])), hsg, hm]
    rw [hp]
    obtain ⟨M, hM⟩ : ∃ S, bArr m = S := ⟨_, rfl⟩
    have hmz : M.size = m.length := by rw [← hM]; rfl
    have hml : m.length ≤ 8388608 := by rw [← hm]; exact hl
    have hSM : bArr l = M := by rw [hm]; exact hM
    rw [hSM]
    have HS := Lib.hid (And.intro hSM hM)
    obtain ⟨R, hR⟩ : ∃ R, s * digs 0 (m.take 9) = R := ⟨_, rfl⟩
    have HR := Lib.hid hR
    rw [hR]
    have hcs : m = [] ∨ ∃ c r, m = c :: r ∧ c ≠ 45 := by
      cases m with
      | nil => exact .inl rfl
      | cons c r => exact .inr ⟨c, r, rfl, fun e => hh' r (by rw [hm, e])⟩
    have Hm := Lib.hid (And.intro hm hh')
    clear hR hp hSM hM hh hh' hm
    rcases hcs with he | ⟨c0, r0, he, hc0⟩
    · have hM0 : M.size = 0 := by rw [hmz, he]; rfl
      have hR0 : R = 0 := by rw [← HR.out, he]; simp [digs]
      clear he
      rw [hR0]
      go_enter Tryz.func60, Tryz.ntmps60
      go_wp2
      go_loopg [4, 5] 0 (fun g v4 v5 wr => g = 0 ∧ v4 = .int .i64 0 ∧ v5 = .int .i64 0 ∧ wr = w)
      case atStart => exact ⟨rfl, rfl, rfl, rfl⟩
      case round =>
        obtain ⟨rfl, rfl, rfl, rfl⟩ := hrel
        have w4 : IntKind.i64.wrap (1 * 0) = 0 := IntWalk.i64_in _ (by omega)
        go_wp2
        go_ret
        exact ⟨rfl, rfl⟩
    · have hS0 : 0 < M.size := by rw [hmz, he]; simp
      have hS0' : (0 : Int) < (M.size : Int) := by omega
      have hx0 : M[0]'hS0 = c0 := by
        have e := HS.out.2
        subst e
        exact bArr_get (by rw [he]; rfl) hS0
      have hck : ((c0.toNat : Int) == 45) = false := (u8_ne 45 45 rfl hc0).2
      clear he hc0
      go_enter Tryz.func60, Tryz.ntmps60
      go_wp2
      go_loopg [4, 5] (min m.length 9) (fun g v4 v5 wr => ∃ i : Nat, i ≤ min m.length 9 ∧ g = min m.length 9 - i ∧ v4 = .int .i64 (digs 0 (m.take i)) ∧ v5 = .int .i64 i ∧ wr = w)
      case atStart => exact ⟨0, by omega, by omega, rfl, rfl, rfl⟩
      case round =>
        obtain ⟨i, hi, rfl, rfl, rfl, rfl⟩ := hrel
        obtain ⟨x, hx⟩ : ∃ x, digs 0 (m.take i) = x := ⟨_, rfl⟩
        have hb := digs_bound (m.take i)
        rw [hx] at hb ⊢
        have hli : (m.take i).length = i := by rw [List.length_take]; omega
        rw [hli] at hb
        have HX := Lib.hid hx
        have hq := pow10_le i (by omega)
        have hx1 : -23000000000 ≤ x ∧ x ≤ 23000000000 := by omega
        clear hb hq hli hx
        by_cases hlt : i < min m.length 9
        · have hiM : i < M.size := by omega
          have hi1 : (i : Int) < (M.size : Int) := by omega
          have hi9 : (i : Int) < 9 := by omega
          have hc : ∃ c, M[i]'hiM = c ∧ m[i]? = some c := by
            have e := HS.out.2
            subst e
            have h2 : i < m.length := by omega
            exact ⟨m[i], bArr_get (List.getElem?_eq_getElem h2) hiM, List.getElem?_eq_getElem h2⟩
          obtain ⟨c, hc, hmc⟩ := hc
          have hcl : c.toNat < 256 := c.toNat_lt
          have w0 : IntKind.i64.wrap (c.toNat : Int) = (c.toNat : Int) := IntWalk.i64_in _ (by omega)
          have w1 : IntKind.i64.wrap (10 * x) = 10 * x := IntWalk.i64_in _ (by omega)
          have w2 : IntKind.i64.wrap (10 * x + (c.toNat : Int)) = 10 * x + (c.toNat : Int) := IntWalk.i64_in _ (by omega)
          have w3 : IntKind.i64.wrap (10 * x + (c.toNat : Int) - 48) = 10 * x + (c.toNat : Int) - 48 := IntWalk.i64_in _ (by omega)
          have Hmc := Lib.hid hmc
          clear hmc
          go_wp2
          go_roundg (min m.length 9 - (i + 1))
          case measure => omega
          case rel =>
            refine ⟨i + 1, by omega, rfl, ?_, by go_num, rfl⟩
            have e : m.take (i + 1) = m.take i ++ [c] := by rw [List.take_add_one, Hmc.out]; rfl
            rw [e, digs_snoc, HX.out]
        · have hie : i = min m.length 9 := by omega
          have hiR : R = s * x := by
            rw [← HR.out, ← HX.out, hie]
            congr 2
            rcases Nat.le_total m.length 9 with h | h
            · rw [Nat.min_eq_left h, List.take_of_length_le h, List.take_of_length_le (Nat.le_refl _)]
            · rw [Nat.min_eq_right h]
          have w4 : IntKind.i64.wrap (1 * x) = 1 * x := IntWalk.i64_in _ (by omega)
          have w5 : IntKind.i64.wrap x = x := IntWalk.i64_in _ (by omega)
          have hnn : ¬ ((i : Int) < (M.size : Int) ∧ (i : Int) < 9) := by omega
          have HI := Lib.hid hiR
          have Hsg := Lib.hid hsg
          clear hiR
          by_cases h9 : i < M.size
          · have h10 : ¬ (i : Int) < 9 := by omega
            have h11 : (i : Int) < (M.size : Int) := by omega
            go_wp2
            go_ret
            exact ⟨by rw [HI.out, Hsg.out]; simp [w5], rfl⟩
          · have h10 : ¬ (i : Int) < (M.size : Int) := by omega
            have h11 : decide (i < M.size) = false := decide_eq_false h9
            go_wp2
            go_ret
            exact ⟨by rw [HI.out, Hsg.out]; simp [w5], rfl⟩

set_option maxHeartbeats 1000000 in
theorem parseValue_ok (l : List UInt8) (w : World) (hl : l.length ≤ 8388608) : Calls Tryz.prog 85 #[.string (bArr l)] w fun e w' => e = .returned (.agg #[.bool (spVal l).1, .int .i64 (spVal l).2]) ∧ Below w.heap.size w w' := by
  obtain ⟨W1, hW1⟩ : ∃ z, w.alloc (.cells #[.bool false, .int .i64 0] 38) = z := ⟨_, rfl⟩
  have B1 : Below w.heap.size w W1 := by rw [← hW1]; exact balloc (Below.refl _ _) _
  have r1 : Row W1 w.heap.size 38 [.bool false, .int .i64 0] := by rw [← hW1]; exact Row.new _ _ _
  have HP := Lib.hid (parseInt_ok l W1 hl)
  have d0 := r1.cell 0
  have d1 := r1.cell 1
  have f0 := r1.frozen 0
  have f1 := r1.frozen 1
  have l0 := r1.lt
  have HW1 := Lib.hid hW1
  have HB1 := Lib.hid B1
  obtain ⟨S, hS⟩ : ∃ S, bArr l = S := ⟨_, rfl⟩
  have HS := Lib.hid hS
  rw [hS] at HP ⊢
  by_cases hn : l = [110, 117, 108, 108]
  · have hp : spVal l = (true, 0) := by unfold spVal; rw [if_pos hn]
    have hS2 : S = ⟨#[110, 117, 108, 108]⟩ := by rw [← hS, hn]; rfl
    rw [hp, hS2]
    clear hp hS hS2 hn hW1 B1 r1 HP
    go_enter Tryz.func85, Tryz.ntmps85
    go_upto_region 1 with fail
    rw [HW1.out]
    go_wp2
    refine bodyPost_ret (v := .agg #[.bool true, .int .i64 0]) (by simp [results, Tryz.results85, go_sem, d0, d1]) rfl ⟨rfl, ?_⟩
    exact (HB1.out.setCell (p := ⟨w.heap.size, 0, none⟩) (Nat.le_refl _) _).setCell (p := ⟨w.heap.size, 1, none⟩) (Nat.le_refl _) _
  · have hne : (S.toList == [110, 117, 108, 108]) = false := by
      rw [← hS, bArr_list, beq_eq_false_iff_ne]
      exact hn
    have hp : spVal l = (false, pInt l) := by unfold spVal; rw [if_neg hn]
    rw [hp]
    clear hp hS hn hW1 B1 r1
    go_enter Tryz.func85, Tryz.ntmps85
    go_upto_region 1 with fail
    rw [HW1.out]
    go_wp2_with fail
    refine HP.out.mono ?_
    rintro e w2 ⟨rfl, rfl⟩
    go_wp2
    refine bodyPost_ret (v := .agg #[.bool false, .int .i64 (pInt l)]) (by simp [results, Tryz.results85, go_sem, d0, d1]) rfl ⟨rfl, ?_⟩
    exact (HB1.out.setCell (p := ⟨w.heap.size, 0, none⟩) (Nat.le_refl _) _).setCell (p := ⟨w.heap.size, 1, none⟩) (Nat.le_refl _) _
end Go.Proofs.YtmhlpjfijpomkaaGreatDoor
