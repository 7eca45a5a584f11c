/-
  Contracts of the laws' helpers that make an expression of two and a filter above a plan.
-/
import Derived.Test.YtnecmacjlggkeaaProg
import Derived.Test.YtnecmacjlggkeaaGeP
import Derived.Test.YtnecmacjlggkeaaGeC
namespace Go.Proofs.Ytnecmacjlggkeaa
open Go.RowKit Go.Qo
set_option linter.unusedVariables false
set_option linter.unusedSimpArgs false

theorem ext_on {w w' : World} {f : FE} {x : Ex} (h : ExT (fun _ => True) w f x) (hb : Below w.heap.size w w') : ExT (fun _ => True) w' f x := h.keep hb.size fun b _ hl => hb.block b hl
theorem plt_on {w w' : World} {f : FP} {x : Pl} (h : PlT (fun _ => True) w f x) (hb : Below w.heap.size w w') : PlT (fun _ => True) w' f x := h.keep hb.size fun b _ hl => hb.block b hl
def GotTwo (k : Int) (x x' : Ex) (w : World) (e : Ending) (w' : World) : Prop := ∃ sv : SV, e = .returned (feV ⟨k, 0, (false, 0), sv⟩) ∧ ExT (fun _ => True) w' ⟨k, 0, (false, 0), sv⟩ (.mk k 0 (false, 0) [x, x']) ∧ Below w.heap.size w w'
def GotFil (x : Ex) (p : Pl) (w : World) (e : Ending) (w' : World) : Prop := ∃ g : FP, e = .returned (fpV g) ∧ PlT (fun _ => True) w' g (.mk 2 0 [x] [] [p]) ∧ Below w.heap.size w w'
set_option maxRecDepth 20000 in
set_option maxHeartbeats 4000000 in
theorem two_ok (k : Int) (f f' : FE) (x x' : Ex) (w : World) (h : ExT (fun _ => True) w f x) (h' : ExT (fun _ => True) w f' x') : Calls Try.prog 13 #[.int .i64 k, feV f, feV f'] w (GotTwo k x x' w) := by
  obtain ⟨rb, hrb⟩ : ∃ n, w.heap.size + 1 = n := ⟨_, rfl⟩
  obtain ⟨ob, hob⟩ : ∃ n, rb + 1 = n := ⟨_, rfl⟩
  obtain ⟨W1, hW1⟩ : ∃ z, w.alloc (.cells #[.int .i64 f.kind, .int .i64 f.col, .bool f.val.1, .int .i64 f.val.2, .slice f.sv.A f.sv.n f.sv.c] 39) = z := ⟨_, rfl⟩
  have b1 : Below w.heap.size w W1 := by rw [← hW1]; exact balloc (Below.refl _ _) _
  have s1 : W1.heap.size = rb := by rw [← hW1]; simp; omega
  have r1 : Row W1 w.heap.size 39 [.int .i64 f.kind, .int .i64 f.col, .bool f.val.1, .int .i64 f.val.2, .slice f.sv.A f.sv.n f.sv.c] := by rw [← hW1]; exact Row.new _ _ _
  obtain ⟨W2, hW2⟩ : ∃ z, W1.alloc (.cells #[.int .i64 f'.kind, .int .i64 f'.col, .bool f'.val.1, .int .i64 f'.val.2, .slice f'.sv.A f'.sv.n f'.sv.c] 39) = z := ⟨_, rfl⟩
  have b2 : Below W1.heap.size W1 W2 := by rw [← hW2]; exact balloc (Below.refl _ _) _
  have s2 : W2.heap.size = ob := by rw [← hW2]; simp; omega
  have r2 : Row W2 rb 39 [.int .i64 f'.kind, .int .i64 f'.col, .bool f'.val.1, .int .i64 f'.val.2, .slice f'.sv.A f'.sv.n f'.sv.c] := by rw [← s1]; rw [← hW2]; exact Row.new _ _ _
  obtain ⟨W3, hW3⟩ : ∃ z, W2.alloc (.cells #[.int .i64 0, .int .i64 0, .bool false, .int .i64 0, .slice none 0 0] 39) = z := ⟨_, rfl⟩
  have b3 : Below W2.heap.size W2 W3 := by rw [← hW3]; exact balloc (Below.refl _ _) _
  have s3 : W3.heap.size = ob + 1 := by rw [← hW3]; simp; omega
  have r3 : Row W3 ob 39 [.int .i64 0, .int .i64 0, .bool false, .int .i64 0, .slice none 0 0] := by rw [← s2]; rw [← hW3]; exact Row.new _ _ _
  have q1 := (r1.on b2).on b3
  have q2 := r2.on b3
  have HW1 := Lib.hid hW1
  have HW2 := Lib.hid hW2
  have HW3 := Lib.hid hW3
  have HR3 := Lib.hid r3
  have HB := Lib.hid (bch (bch b1 b2) b3)
  have S3 := Lib.hid s3
  have HT := Lib.hid (And.intro h h')
  have c0 := q1.cell 0
  have c1 := q1.cell 1
  have c2 := q1.cell 2
  have c3 := q1.cell 3
  have c4 := q1.cell 4
  have d0 := q2.cell 0
  have d1 := q2.cell 1
  have d2 := q2.cell 2
  have d3 := q2.cell 3
  have d4 := q2.cell 4
  have hlt1 := q1.lt
  have hlt2 := q2.lt
  have hlt3 := r3.lt
  have z0 := r3.frozen 0
  have z1 := r3.frozen 1
  have z2 := r3.frozen 2
  have z3 := r3.frozen 3
  have z4 := r3.frozen 4
  have y0 := r3.cell 0
  have y1 := r3.cell 1
  have y2 := r3.cell 2
  have y3 := r3.cell 3
  have y4 := r3.cell 4
  unfold feV
  clear h h' q1 q2 r1 r2 r3 b1 b2 b3 s1 s2 s3 hW1 hW2 hW3
  go_enter Try.func13, Try.ntmps13
  go_upto_region 1 with fail
  rw [HW1.out, HW2.out, HW3.out]
  obtain ⟨Z, hZ⟩ : ∃ z, (((((W3.setCell ⟨ob, 0, none⟩ (.int .i64 k)).setCell ⟨ob, 1, none⟩ (.int .i64 0)).setCell ⟨ob, 2, none⟩ (.bool false)).setCell ⟨ob, 3, none⟩ (.int .i64 0)).setCell ⟨ob, 4, none⟩ (.slice (some ⟨W3.heap.size, 0, none⟩) 2 2)) = z := ⟨_, rfl⟩
  have hZs : Only (fun k => k = ob) W3 Z := by rw [← hZ]; exact set5 _ _ _ _ _ _ _
  have v0r : Row Z (ob) 39 [.int .i64 k, .int .i64 0, .bool false, .int .i64 0, .slice (some ⟨W3.heap.size, 0, none⟩) 2 2] := by rw [← hZ]; exact ((((HR3.out.set 0 _).set 1 _).set 2 _).set 3 _).set 4 _
  have zs : Z.heap.size = W3.heap.size := by rw [← hZ]; simp [World.setCell]
  obtain ⟨V1, hV1⟩ : ∃ z, Z.alloc (.cells #[.int .i64 f.kind, .int .i64 f.col, .bool f.val.1, .int .i64 f.val.2, .slice f.sv.A f.sv.n f.sv.c, .int .i64 f'.kind, .int .i64 f'.col, .bool f'.val.1, .int .i64 f'.val.2, .slice f'.sv.A f'.sv.n f'.sv.c] 39) = z := ⟨_, rfl⟩
  have v1b : Below Z.heap.size Z V1 := by rw [← hV1]; exact balloc (Below.refl _ _) _
  have v1s : V1.heap.size = W3.heap.size + 1 := by rw [← hV1]; simp; omega
  have v1r := v0r.on v1b
  have HV1 := Lib.hid hV1
  have HZ := Lib.hid hZ
  have e0 := v1r.cell 0
  have e1 := v1r.cell 1
  have e2 := v1r.cell 2
  have e3 := v1r.cell 3
  have e4 := v1r.cell 4
  have VR := Lib.hid v1r
  have FA := Lib.hid (And.intro hZs (And.intro zs ((And.intro v1b (And.intro v1s trivial)))))
  clear hZ hZs zs hV1 v1b v1s v1r v0r
  go_wp2
  rw [HZ.out, HV1.out]
  obtain ⟨hZs, zs, v1b, v1s, -⟩ := FA.out
  refine bodyPost_ret (v := feV ⟨k, 0, (false, 0), ⟨some ⟨W3.heap.size, 0, none⟩, 2, 2⟩⟩) (by simp [results, Try.results13, go_sem, feV, fpV, e0, e1, e2, e3, e4]) rfl ?_
  have hbw := HB.out
  have hs3 := S3.out
  have hwo : w.heap.size < ob := by omega
  have hk : ∀ b, True → b < w.heap.size → Z.heap[b]? = w.heap[b]? := fun b _ hl => (hZs.block b (Nat.lt_of_lt_of_le hl hbw.size) (show ¬ b = ob by omega)).trans (hbw.block b hl)
  have hsz : w.heap.size ≤ Z.heap.size := by rw [zs]; exact hbw.size
  have hl := exs_lit2 (HT.out.1.keep hsz hk) (HT.out.2.keep hsz hk) #[.int .i64 f.kind, .int .i64 f.col, .bool f.val.1, .int .i64 f.val.2, .slice f.sv.A f.sv.n f.sv.c, .int .i64 f'.kind, .int .i64 f'.col, .bool f'.val.1, .int .i64 f'.val.2, .slice f'.sv.A f'.sv.n f'.sv.c] rfl trivial 39
  rw [HV1.out, zs] at hl
  exact ⟨_, rfl, ExT.make hl rfl (Nat.le_refl _) (by decide), bch (Only.from_ hbw rfl hZs fun i (hi : i = ob) => by omega) v1b⟩
set_option maxRecDepth 20000 in
set_option maxHeartbeats 4000000 in
theorem filter_ok (f : FE) (x : Ex) (g : FP) (p : Pl) (w : World) (h : ExT (fun _ => True) w f x) (h' : PlT (fun _ => True) w g p) : Calls Try.prog 12 #[feV f, fpV g] w (GotFil x p w) := by
  obtain ⟨rb, hrb⟩ : ∃ n, w.heap.size + 1 = n := ⟨_, rfl⟩
  obtain ⟨ob, hob⟩ : ∃ n, rb + 1 = n := ⟨_, rfl⟩
  obtain ⟨W1, hW1⟩ : ∃ z, w.alloc (.cells #[.int .i64 f.kind, .int .i64 f.col, .bool f.val.1, .int .i64 f.val.2, .slice f.sv.A f.sv.n f.sv.c] 39) = z := ⟨_, rfl⟩
  have b1 : Below w.heap.size w W1 := by rw [← hW1]; exact balloc (Below.refl _ _) _
  have s1 : W1.heap.size = rb := by rw [← hW1]; simp; omega
  have r1 : Row W1 w.heap.size 39 [.int .i64 f.kind, .int .i64 f.col, .bool f.val.1, .int .i64 f.val.2, .slice f.sv.A f.sv.n f.sv.c] := by rw [← hW1]; exact Row.new _ _ _
  obtain ⟨W2, hW2⟩ : ∃ z, W1.alloc (.cells #[.int .i64 g.kind, .int .i64 g.table, .slice g.es.A g.es.n g.es.c, .slice g.cs.A g.cs.n g.cs.c, .slice g.ks.A g.ks.n g.ks.c] 27) = z := ⟨_, rfl⟩
  have b2 : Below W1.heap.size W1 W2 := by rw [← hW2]; exact balloc (Below.refl _ _) _
  have s2 : W2.heap.size = ob := by rw [← hW2]; simp; omega
  have r2 : Row W2 rb 27 [.int .i64 g.kind, .int .i64 g.table, .slice g.es.A g.es.n g.es.c, .slice g.cs.A g.cs.n g.cs.c, .slice g.ks.A g.ks.n g.ks.c] := by rw [← s1]; rw [← hW2]; exact Row.new _ _ _
  obtain ⟨W3, hW3⟩ : ∃ z, W2.alloc (.cells #[.int .i64 0, .int .i64 0, .slice none 0 0, .slice none 0 0, .slice none 0 0] 27) = z := ⟨_, rfl⟩
  have b3 : Below W2.heap.size W2 W3 := by rw [← hW3]; exact balloc (Below.refl _ _) _
  have s3 : W3.heap.size = ob + 1 := by rw [← hW3]; simp; omega
  have r3 : Row W3 ob 27 [.int .i64 0, .int .i64 0, .slice none 0 0, .slice none 0 0, .slice none 0 0] := by rw [← s2]; rw [← hW3]; exact Row.new _ _ _
  have q1 := (r1.on b2).on b3
  have q2 := r2.on b3
  have HW1 := Lib.hid hW1
  have HW2 := Lib.hid hW2
  have HW3 := Lib.hid hW3
  have HR3 := Lib.hid r3
  have HB := Lib.hid (bch (bch b1 b2) b3)
  have S3 := Lib.hid s3
  have HT := Lib.hid (And.intro h h')
  have c0 := q1.cell 0
  have c1 := q1.cell 1
  have c2 := q1.cell 2
  have c3 := q1.cell 3
  have c4 := q1.cell 4
  have d0 := q2.cell 0
  have d1 := q2.cell 1
  have d2 := q2.cell 2
  have d3 := q2.cell 3
  have d4 := q2.cell 4
  have hlt1 := q1.lt
  have hlt2 := q2.lt
  have hlt3 := r3.lt
  have z0 := r3.frozen 0
  have z1 := r3.frozen 1
  have z2 := r3.frozen 2
  have z3 := r3.frozen 3
  have z4 := r3.frozen 4
  have y0 := r3.cell 0
  have y1 := r3.cell 1
  have y2 := r3.cell 2
  have y3 := r3.cell 3
  have y4 := r3.cell 4
  unfold feV fpV
  clear h h' q1 q2 r1 r2 r3 b1 b2 b3 s1 s2 s3 hW1 hW2 hW3
  go_enter Try.func12, Try.ntmps12
  go_upto_region 1 with fail
  rw [HW1.out, HW2.out, HW3.out]
  obtain ⟨Z, hZ⟩ : ∃ z, (((((W3.setCell ⟨ob, 0, none⟩ (.int .i64 2)).setCell ⟨ob, 1, none⟩ (.int .i64 0)).setCell ⟨ob, 2, none⟩ (.slice (some ⟨W3.heap.size, 0, none⟩) 1 1)).setCell ⟨ob, 3, none⟩ (.slice none 0 0)).setCell ⟨ob, 4, none⟩ (.slice (some ⟨W3.heap.size + 1, 0, none⟩) 1 1)) = z := ⟨_, rfl⟩
  have hZs : Only (fun k => k = ob) W3 Z := by rw [← hZ]; exact set5 _ _ _ _ _ _ _
  have v0r : Row Z (ob) 27 [.int .i64 2, .int .i64 0, .slice (some ⟨W3.heap.size, 0, none⟩) 1 1, .slice none 0 0, .slice (some ⟨W3.heap.size + 1, 0, none⟩) 1 1] := by rw [← hZ]; exact ((((HR3.out.set 0 _).set 1 _).set 2 _).set 3 _).set 4 _
  have zs : Z.heap.size = W3.heap.size := by rw [← hZ]; simp [World.setCell]
  obtain ⟨V1, hV1⟩ : ∃ z, Z.alloc (.cells #[.int .i64 f.kind, .int .i64 f.col, .bool f.val.1, .int .i64 f.val.2, .slice f.sv.A f.sv.n f.sv.c] 39) = z := ⟨_, rfl⟩
  have v1b : Below Z.heap.size Z V1 := by rw [← hV1]; exact balloc (Below.refl _ _) _
  have v1s : V1.heap.size = W3.heap.size + 1 := by rw [← hV1]; simp; omega
  have v1r := v0r.on v1b
  have HV1 := Lib.hid hV1
  obtain ⟨V2, hV2⟩ : ∃ z, V1.alloc (.cells #[.int .i64 g.kind, .int .i64 g.table, .slice g.es.A g.es.n g.es.c, .slice g.cs.A g.cs.n g.cs.c, .slice g.ks.A g.ks.n g.ks.c] 27) = z := ⟨_, rfl⟩
  have v2b : Below V1.heap.size V1 V2 := by rw [← hV2]; exact balloc (Below.refl _ _) _
  have v2s : V2.heap.size = W3.heap.size + 2 := by rw [← hV2]; simp; omega
  have v2r := v1r.on v2b
  have HV2 := Lib.hid hV2
  have HZ := Lib.hid hZ
  have e0 := v2r.cell 0
  have e1 := v2r.cell 1
  have e2 := v2r.cell 2
  have e3 := v2r.cell 3
  have e4 := v2r.cell 4
  have VR := Lib.hid v2r
  have FA := Lib.hid (And.intro hZs (And.intro zs ((And.intro v1b (And.intro v1s  (And.intro v2b (And.intro v2s trivial)))))))
  clear hZ hZs zs hV1 v1b v1s v1r hV2 v2b v2s v2r v0r
  go_wp2
  rw [HZ.out, HV1.out, HV2.out]
  obtain ⟨hZs, zs, v1b, v1s, v2b, v2s, -⟩ := FA.out
  refine bodyPost_ret (v := fpV ⟨2, 0, ⟨some ⟨W3.heap.size, 0, none⟩, 1, 1⟩, ⟨none, 0, 0⟩, ⟨some ⟨W3.heap.size + 1, 0, none⟩, 1, 1⟩⟩) (by simp [results, Try.results12, go_sem, feV, fpV, e0, e1, e2, e3, e4]) rfl ?_
  have hbw := HB.out
  have hs3 := S3.out
  have hwo : w.heap.size < ob := by omega
  have hk : ∀ b, True → b < w.heap.size → Z.heap[b]? = w.heap[b]? := fun b _ hl => (hZs.block b (Nat.lt_of_lt_of_le hl hbw.size) (show ¬ b = ob by omega)).trans (hbw.block b hl)
  have hsz : w.heap.size ≤ Z.heap.size := by rw [zs]; exact hbw.size
  have hl := exs_lit1 (HT.out.1.keep hsz hk) #[.int .i64 f.kind, .int .i64 f.col, .bool f.val.1, .int .i64 f.val.2, .slice f.sv.A f.sv.n f.sv.c] rfl trivial 39
  rw [HV1.out, zs] at hl
  have hl2 := hl.keep (v2b).size fun b _ hl => v2b.block b hl
  have hp1 : PlT (fun _ => True) V1 g p := plt_on (HT.out.2.keep hsz hk) v1b
  have hp := pls_lit1 hp1 #[.int .i64 g.kind, .int .i64 g.table, .slice g.es.A g.es.n g.es.c, .slice g.cs.A g.cs.n g.cs.c, .slice g.ks.A g.ks.n g.ks.c] rfl trivial 27
  rw [HV2.out, v1s] at hp
  exact ⟨_, rfl, PlT.make (SVok.lit (by decide)) SVok.nil (SVok.lit (by decide)) hl2 SlS.nil hp, bch (bch (Only.from_ hbw rfl hZs fun i (hi : i = ob) => by omega) v1b) v2b⟩
end Go.Proofs.Ytnecmacjlggkeaa
