/-
  Both DecodePlan of one text: one answer for the reference and the program.
-/
import Derived.Test.YtmhlpjfijpomkaaGreatDoorProg
import Derived.Test.YtmhlpjfijpomkaaGreatDoorZqDcM
import Derived.Test.YtmhlpjfijpomkaaGreatDoorZqDcY
import Derived.Test.YtmhlpjfijpomkaaGreatDoorZqDcV
import Derived.Test.YtmhlpjfijpomkaaGreatDoorZqMkH
import Derived.Test.YtmhlpjfijpomkaaGreatDoorZqSzP
namespace Go.Proofs.YtmhlpjfijpomkaaGreatDoor
open Go.RowKit Go.Qo
set_option linter.unusedVariables false
set_option linter.unusedSimpArgs false

theorem plsText_cnt : ∀ ps : List Pl, (∀ x ∈ ps, plCnt x + 2 ≤ (plText x).length ∧ plMk x ≤ 4 * (plText x).length) → ps.length + plKids ps ≤ (plsText ps).length ∧ plsMk ps ≤ 4 * (plsText ps).length
  | [], _ => by simp [plKids, plsMk]
  | x :: xs, h => by
    have h1 := plsText_cnt xs fun y hy => h y (List.mem_cons_of_mem _ hy)
    have h2 := h x (List.mem_cons_self ..)
    rw [plKids, plsMk]
    simp [plsText]
    omega
theorem plText_cnt : ∀ x : Pl, ∀ d : Nat, TxOk d x → plCnt x + 2 ≤ (plText x).length ∧ plMk x ≤ 4 * (plText x).length := Pl.ind fun x ih d h => by
  obtain ⟨_, _, _, _, hx, _, _, hks⟩ := txOk_iff.1 h
  have h1 := plsText_cnt x.kids fun y hy => ih y hy _ (hks y hy)
  have h2 := exsText_cnt x.exprs fun y hy => exText_cnt y _ (hx y hy)
  have h3 := colsText_len1 x.cols
  rw [plCnt_eq, plMk_eq, plText_eq]
  simp
  omega
theorem ptMk_le (x : Pl) : ptMk x ≤ plMk x := by
  rw [plMk_eq]
  unfold ptMk
  omega
theorem plZero_b : PlB (.mk 0 0 [] [] []) := plB_of_cnt _ (by rw [plCnt_eq]; simp [Pl.exprs, Pl.cols, Pl.kids, exKids, plKids])
/-- One answer. -/
theorem decode_bothP (l : List UInt8) (ws : List Int) (hl : l.length ≤ 1048576) (hwl : ws.length ≤ maxLen) : ∃ (x : Pl) (b : Bool), PlB x ∧ ptMk x ≤ 8388608 ∧
    (∀ (A : Option Addr) (c : Nat) (w : World), Sl 1 intC w w.heap.size A ws → Calls Tryz.prog 6 #[.string (bArr l), .slice A ws.length c] w fun e w' => Below w.heap.size w w' ∧ ∃ f, e = .returned (.tuple #[fpV f, .bool b]) ∧ PlT (fun k => w.heap.size ≤ k) w' f x) ∧
    ∀ (lo : Nat) (A : Option Addr) (c : Nat) (w : World), Sl 1 intC w w.heap.size A ws → T10 lo w → EvB lo w → lo ≤ w.heap.size → Calls Tryz.prog 8 #[.string (bArr l), .slice A ws.length c] w fun e w' => Below w.heap.size w w' ∧ ∃ f, e = .returned (.tuple #[fpV f, .bool b]) ∧ PlW 40 3 26 w' (fun k => w.heap.size ≤ k) f x := by
  by_cases hx : ∃ x, widthP ws x ≠ 0 ∧ plText x = l
  · obtain ⟨x, hx1, hx2⟩ := hx
    have hc := plText_cnt x 8 (rdOk_iff.1 (rd_of hx1)).1
    rw [hx2] at hc
    have hp := ptMk_le x
    refine ⟨x, true, plB_of_cnt x (by omega), by omega, fun A c w hs => ?_, fun lo A c w hs ht hv hlo => ?_⟩
    · refine (specDecodePlan_ok l ws A c w hwl hs hl).mono ?_
      rintro e w' ⟨hb, ⟨y, f, h1, h2, h3, h4⟩ | ⟨hno, _⟩⟩
      · have := readP_back h1 h2
        rw [readP_back hx1 hx2] at this
        cases this
        exact ⟨hb, f, h3, h4⟩
      · exact absurd hx2 (hno x hx1)
    · refine (implDecodePlan_ok lo l ws A c w hwl hs (by omega) ht hv hlo).mono ?_
      rintro e w' ⟨hb, ⟨y, f, h1, h2, h3, h4⟩ | ⟨hno, _⟩⟩
      · have := readP_back h1 h2
        rw [readP_back hx1 hx2] at this
        cases this
        exact ⟨hb, f, h3, h4⟩
      · exact absurd hx2 (hno x hx1)
  · refine ⟨.mk 0 0 [] [] [], false, plZero_b, by show 4 * (0 + exKids []) + 0 + plsMk [] ≤ _; rw [exKids, plsMk]; omega, fun A c w hs => ?_, fun lo A c w hs ht hv hlo => ?_⟩
    · refine (specDecodePlan_ok l ws A c w hwl hs hl).mono ?_
      rintro e w' ⟨hb, ⟨y, f, h1, h2, h3, h4⟩ | ⟨hno, h3⟩⟩
      · exact absurd ⟨y, h1, h2⟩ hx
      · exact ⟨hb, ⟨0, 0, ⟨none, 0, 0⟩, ⟨none, 0, 0⟩, ⟨none, 0, 0⟩⟩, h3, PlW.ext (tE := 40) (tI := 3) (tP := 26) _ _ _ plZero_b PlW.zero⟩
    · refine (implDecodePlan_ok lo l ws A c w hwl hs (by omega) ht hv hlo).mono ?_
      rintro e w' ⟨hb, ⟨y, f, h1, h2, h3, h4⟩ | ⟨hno, h3⟩⟩
      · exact absurd ⟨y, h1, h2⟩ hx
      · exact ⟨hb, ⟨0, 0, ⟨none, 0, 0⟩, ⟨none, 0, 0⟩, ⟨none, 0, 0⟩⟩, h3, PlW.zero⟩
end Go.Proofs.YtmhlpjfijpomkaaGreatDoor
