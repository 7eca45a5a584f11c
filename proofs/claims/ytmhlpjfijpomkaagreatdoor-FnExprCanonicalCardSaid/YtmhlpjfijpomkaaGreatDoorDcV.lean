/-
  Both DecodeExpr of one text: one answer for the reference and the program.
-/
import Derived.Test.YtmhlpjfijpomkaaGreatDoorProg
import Derived.Test.YtmhlpjfijpomkaaGreatDoorDcU
import Derived.Test.YtmhlpjfijpomkaaGreatDoorDcL
import Derived.Test.YtmhlpjfijpomkaaGreatDoorMkE
namespace Go.Proofs.YtmhlpjfijpomkaaGreatDoor
open Go.RowKit Go.Qo
set_option linter.unusedVariables false
set_option linter.unusedSimpArgs false

theorem exsText_cnt : ∀ es : List Ex, (∀ x ∈ es, exCnt x + 1 ≤ (exText x).length) → es.length + exKids es ≤ (exsText es).length
  | [], _ => by simp [exKids]
  | x :: xs, h => by
    have h1 := exsText_cnt xs fun y hy => h y (List.mem_cons_of_mem _ hy)
    have h2 := h x (List.mem_cons_self ..)
    simp [exsText, exKids]
    omega
theorem exText_cnt : ∀ x : Ex, ∀ d : Int, ExOk 6 d x → exCnt x + 1 ≤ (exText x).length := Ex.ind fun x ih d h => by
  obtain ⟨h1, h2, h3, h4⟩ := exOk_iff.1 h
  have hk := exsText_cnt x.kids fun y hy => ih y hy _ (h3 y hy)
  have hp := exText_pos x
  rw [exCnt_eq]
  by_cases hl : x.kind = 1 ∨ x.kind = 2
  · have : x.kids = [] := List.length_eq_zero_iff.1 (by unfold kidsK at h1; rw [if_pos hl] at h1; omega)
    rw [this]
    simp [exKids]
    omega
  · rw [exText_eq, if_neg (fun e => hl (.inl e)), if_neg (fun e => hl (.inr e))]
    simp
    omega
/-- One answer. -/
theorem decode_both (l : List UInt8) (hl : l.length ≤ 1048576) (hix : Ix l) : ∃ (x : Ex) (b : Bool), x.kids.length + exKids x.kids ≤ 1048576 ∧ (b = true ↔ ExOk 6 8 x ∧ exText x = l) ∧
    (∀ w : World, Calls Tryz.prog 16 #[.string (bArr l)] w fun e w' => Below w.heap.size w w' ∧ ∃ f, e = .returned (.tuple #[feV f, .bool b]) ∧ ExT (fun k => w.heap.size ≤ k) w' f x) ∧
    ∀ (lo : Nat) (w : World), T10 lo w → EvB lo w → lo ≤ w.heap.size → Calls Tryz.prog 15 #[.string (bArr l)] w fun e w' => Below w.heap.size w w' ∧ ∃ f, e = .returned (.tuple #[feV f, .bool b]) ∧ ExW 40 w' (fun k => w.heap.size ≤ k) f x := by
  by_cases hx : ∃ x, ExOk 6 8 x ∧ exText x = l
  · obtain ⟨x, hx1, hx2⟩ := hx
    have hc := exText_cnt x 8 hx1
    rw [exCnt_eq, hx2] at hc
    refine ⟨x, true, by omega, by simp [hx1, hx2], fun w => ?_, fun lo w ht hv hlo => ?_⟩
    · refine (specDecodeExpr_ok l w (by omega)).mono ?_
      rintro e w' ⟨hb, ⟨y, f, h1, h2, h3, h4⟩ | ⟨hno, _⟩⟩
      · have := read_back h1 h2
        rw [read_back hx1 hx2] at this
        cases this
        exact ⟨hb, f, h3, h4⟩
      · exact absurd hx2 (hno x hx1)
    · refine (implDecodeExpr_ok lo l w hix (by omega) ht hv hlo).mono ?_
      rintro e w' ⟨hb, ⟨y, f, h1, h2, h3, h4⟩ | ⟨hno, _⟩⟩
      · have := read_back h1 h2
        rw [read_back hx1 hx2] at this
        cases this
        exact ⟨hb, f, h3, h4⟩
      · exact absurd hx2 (hno x hx1)
  · refine ⟨.mk 0 0 (false, 0) [], false, by show 0 + exKids [] ≤ _; rw [exKids]; omega, ?_, fun w => ?_, fun lo w ht hv hlo => ?_⟩
    · refine ⟨fun h => by (cases h), fun h => absurd ⟨_, h⟩ hx⟩
    · refine (specDecodeExpr_ok l w (by omega)).mono ?_
      rintro e w' ⟨hb, ⟨y, f, h1, h2, h3, h4⟩ | ⟨hno, h3⟩⟩
      · exact absurd ⟨y, h1, h2⟩ hx
      · exact ⟨hb, ⟨0, 0, (false, 0), ⟨none, 0, 0⟩⟩, h3, ExT.leaf⟩
    · refine (implDecodeExpr_ok lo l w hix (by omega) ht hv hlo).mono ?_
      rintro e w' ⟨hb, ⟨y, f, h1, h2, h3, h4⟩ | ⟨hno, h3⟩⟩
      · exact absurd ⟨y, h1, h2⟩ hx
      · exact ⟨hb, ⟨0, 0, (false, 0), ⟨none, 0, 0⟩⟩, h3, ExW.leaf⟩
end Go.Proofs.YtmhlpjfijpomkaaGreatDoor
