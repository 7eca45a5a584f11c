/-
  Contracts for the laws on read-back texts: DrawEncodeExpr; and in plain Lean: texts are ASCII, one text is one tree's.
-/
import Derived.Test.YtmhlpjfijpomkaaDoorProg
import Derived.Test.YtmhlpjfijpomkaaDoorDcL
import Derived.Test.YtmhlpjfijpomkaaDoorGeQ
namespace Go.Proofs.YtmhlpjfijpomkaaDoor
open Go.RowKit Go.Qo
set_option linter.unusedVariables false
set_option linter.unusedSimpArgs false

theorem opTexts_ascii : ∀ k : Fin 12, ∀ c ∈ opTexts.getD k.val [], c.toNat < 128 := by decide +kernel
theorem opText_ascii (k : Int) : ∀ c ∈ opText k, c.toNat < 128 := by
  unfold opText
  by_cases h : k.toNat < 12
  · exact opTexts_ascii ⟨k.toNat, h⟩
  · rw [List.getD_eq_getElem?_getD, List.getElem?_eq_none (by show 12 ≤ k.toNat; omega)]
    exact fun c hc => by cases hc
theorem itoa_ascii (n : Int) : ∀ c ∈ Lib.itoa n, c.toNat < 128 := fun c hc => by have := itoa_bytes n c hc; omega
theorem valText_ascii (v : Val) : ∀ c ∈ valText v, c.toNat < 128 := by
  unfold valText
  split
  · exact fun c hc => by revert c; decide +kernel
  · exact itoa_ascii _
theorem exText_ascii : ∀ x : Ex, ∀ c ∈ exText x, c.toNat < 128 := Ex.ind fun x ih => by
  have hk : ∀ es : List Ex, (∀ y ∈ es, ∀ c ∈ exText y, c.toNat < 128) → ∀ c ∈ exsText es, c.toNat < 128 := by
    intro es
    induction es with
    | nil => exact fun _ c hc => by simp [exsText] at hc
    | cons y ys ih =>
      intro h c hc
      rw [exsText] at hc
      rcases List.mem_cons.1 hc with rfl | hc
      · decide
      · rcases List.mem_append.1 hc with hc | hc
        · exact h y (List.mem_cons_self ..) c hc
        · exact ih (fun z hz => h z (List.mem_cons_of_mem _ hz)) c hc
  intro c hc
  rw [exText_eq] at hc
  split at hc
  · rcases List.mem_cons.1 hc with rfl | hc
    · decide
    · exact itoa_ascii _ c hc
  · split at hc
    · exact valText_ascii _ c hc
    · rcases List.mem_cons.1 hc with rfl | hc
      · decide
      · rcases List.mem_append.1 hc with hc | hc
        · exact opText_ascii _ c hc
        · rcases List.mem_append.1 hc with hc | hc
          · exact hk _ ih c hc
          · have : c = 41 := by simpa using hc
            subst this
            decide
theorem exText_inj {x y : Ex} (hx : ExOk 6 8 x) (hy : ExOk 6 8 y) (h : exText x = exText y) : x = y := by
  have h1 := read_back hx rfl
  have h2 := read_back hy h.symm
  rw [h1] at h2
  cases h2
  rfl

/-- A drawn expression. -/
def DrawnE (w : World) (e : Ending) (w' : World) : Prop := ∃ (f : FE) (x : Ex), e = .returned (feV f) ∧ ExT (fun k => w.heap.size ≤ k) w' f x ∧ Below w.heap.size w w'

set_option maxRecDepth 20000 in
set_option maxHeartbeats 1000000 in
theorem drawEncodeExpr_ok (A : Option Addr) (c : Nat) (xs : List Int) (w : World) (hn : xs.length ≤ c) (hc : c ≤ maxLen) (hg : ∀ x ∈ xs, 0 ≤ x ∧ x ≤ 255) (hs : Sl 1 byteC w w.heap.size A xs) :
    Calls Tryd.prog 23 #[.slice A xs.length c] w (DrawnE w) := by
  obtain ⟨W1, hW1⟩ : ∃ z, w.alloc (.cells #[.int .i64 0, .int .i64 0, .bool false, .int .i64 0, .slice none 0 0] 32) = z := ⟨_, rfl⟩
  have B1 : Below w.heap.size w W1 := by rw [← hW1]; exact balloc (Below.refl _ _) _
  have r1 : Row W1 w.heap.size 32 [.int .i64 0, .int .i64 0, .bool false, .int .i64 0, .slice none 0 0] := by rw [← hW1]; exact Row.new _ _ _
  have hs1 : W1.heap.size = w.heap.size + 1 := by rw [← hW1]; simp
  have HN := Lib.hid (newReader_ok A c xs W1 hn hc hg (hs.on B1))
  have HB1 := Lib.hid B1
  have HW1 := Lib.hid hW1
  have HR1 := Lib.hid r1
  obtain ⟨b, hb⟩ : ∃ b, W1.heap.size = b := ⟨_, rfl⟩
  rw [hb] at HN
  have Hb := Lib.hid hb
  have Hs1 := Lib.hid hs1
  clear hs hn hc hg B1 r1 hW1 hb hs1
  go_enter Tryd.func23, Tryd.ntmps23
  go_upto_region 1 with fail
  rw [HW1.out]
  go_wp2_with fail
  refine HN.out.mono ?_
  rintro e w2 ⟨rfl, hb2, hR2⟩
  rw [← Hb.out] at hb2
  have HA := Lib.hid (anyExpr_ok b 0 3 w2 hR2 (by omega))
  have HB2 := Lib.hid (bch HB1.out hb2)
  have hr2 := HR1.out.on hb2
  have Hr2 := Lib.hid hr2
  clear hb2 hR2 hr2
  go_wp2_with fail
  refine HA.out.mono ?_
  rintro e w3 ⟨f, x, rfl, hx, hb3, _⟩
  have hr3 := Hr2.out.only hb3 (by have := Hs1.out; have := Hb.out; omega)
  have HB3 := Lib.hid (Only.from_ HB2.out rfl hb3 (fun i hi => by have := Hs1.out; have := Hb.out; omega))
  have HX := Lib.hid hx
  unfold feV
  have c0 := hr3.cell 0
  have c1 := hr3.cell 1
  have c2 := hr3.cell 2
  have c3 := hr3.cell 3
  have c4 := hr3.cell 4
  have f0 := hr3.frozen 0
  have f1 := hr3.frozen 1
  have f2 := hr3.frozen 2
  have f3 := hr3.frozen 3
  have f4 := hr3.frozen 4
  have hl3 := hr3.lt
  clear hx hb3 hr3
  go_wp2
  have hO := set5 w3 w.heap.size (.int .i64 f.kind) (.int .i64 f.col) (.bool f.val.1) (.int .i64 f.val.2) (.slice f.sv.A f.sv.n f.sv.c)
  have hlo := HB2.out.size
  refine bodyPost_ret (v := feV f) (by simp [results, Tryd.results23, go_sem, feV, c0, c1, c2, c3, c4]) rfl ⟨f, x, rfl, ?_, ?_⟩
  · have hlt2 : w.heap.size < w2.heap.size := Hr2.out.lt
    exact (HX.out.keep hO.size fun k hk hl => hO.block k hl (by omega)).mono fun k _ hk => by show w.heap.size ≤ k; omega
  · exact Only.from_ HB3.out rfl hO (fun i hi => by omega)
end Go.Proofs.YtmhlpjfijpomkaaDoor
