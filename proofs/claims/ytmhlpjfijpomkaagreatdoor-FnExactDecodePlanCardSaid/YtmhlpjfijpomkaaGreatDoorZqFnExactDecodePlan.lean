/-
  The program's DecodePlan returns what the reference's returns, for every text and widths; no memory of the result is shared, and none is lost by a second call. (The tables of strconv and its two errors hold what the program's text lays.)
-/
import Derived.Test.YtmhlpjfijpomkaaGreatDoorRows
import Derived.Test.YtmhlpjfijpomkaaGreatDoorZqCards
import Derived.Test.YtmhlpjfijpomkaaGreatDoorZqTie
import Derived.SevenTiedAt
import Derived.ChangeSame
import Derived.ChangeVars
import Derived.ChangeMaps
import Derived.JoinedOf
import Derived.JoinedAt
import Derived.LaidLaws
import Derived.Lib.LaidTab
import Derived.Stop.LaidErr
import Derived.Deep.DeepLaidRun
import Derived.Test.YtmhlpjfijpomkaaGreatDoorZqDcN
import Derived.Test.YtmhlpjfijpomkaaGreatDoorZqGi
import Derived.Test.YtmhlpjfijpomkaaGreatDoorZqGi
import Derived.Test.YtmhlpjfijpomkaaGreatDoorZqGj
import Derived.Test.YtmhlpjfijpomkaaGreatDoorZqGj
import Derived.Test.YtmhlpjfijpomkaaGreatDoorZqGa
namespace Go.Proofs.YtmhlpjfijpomkaaGreatDoor
open Go.RowKit Go.Qo
set_option linter.unusedVariables false
set_option linter.unusedSimpArgs false

theorem flatI_len : ∀ ws : List Int, (ws.flatMap intC).length = ws.length
  | [] => rfl
  | x :: xs => by
    have := flatI_len xs
    simp only [List.flatMap_cons, List.length_append, List.length_cons]
    rw [this]
    simp [intC]
    omega

set_option maxRecDepth 20000 in
set_option maxHeartbeats 4000000 in
theorem FnExactDecodePlan_walk (l : List UInt8) (A : Option Addr) (c : Nat) (ws : List Int) (w : World) (hs : (bArr l).size ≤ maxLen) (hwl : ws.length ≤ maxLen) (hsl : Sl 1 intC w w.heap.size A ws) (ht : T10 w.heap.size w) (hv : EvB w.heap.size w) :
    Calls Tryz.prog 3 #[.string (bArr l), .slice A ws.length c] w fun e w' => e = .returned (.bool true) ∧ Below w.heap.size w w' := by
  obtain ⟨S, hS⟩ : ∃ S, bArr l = S := ⟨_, rfl⟩
  have hsz : S.size = l.length := by rw [← hS]; rfl
  by_cases hlen : (1048576 : Int) < (S.size : Int)
  · rw [hS]
    clear hs ht hv hsl
    go_enter Tryz.func3, Tryz.ntmps3
    go_wp2
    go_ret
    exact ⟨rfl, Below.refl _ _⟩
  by_cases hwn : (1048576 : Int) < (ws.length : Int)
  · rw [hS]
    clear hs ht hv hsl
    go_enter Tryz.func3, Tryz.ntmps3
    go_wp2
    go_ret
    exact ⟨rfl, Below.refl _ _⟩
  have hl : l.length ≤ 1048576 := by omega
  have hw20 : ws.length ≤ 1048576 := by omega
  obtain ⟨x, b, hpb, hcnt, hSp, hIm⟩ := decode_bothP l ws hl hwl
  rw [hS] at hSp hIm
  have HSp := Lib.hid hSp
  have HIm := Lib.hid hIm
  have HT := Lib.hid ht
  have HV := Lib.hid hv
  have HPB := Lib.hid hpb
  have HSl := Lib.hid (fun (z : World) (hz : Below w.heap.size w z) => show Sl 1 intC z z.heap.size A ws from hsl.on hz)
  have TI := Lib.hid (fun (z : World) (hz : Below w.heap.size w z) => toIntS_ok A c ws z hw20 (HSl.out z hz))
  have hml := hwl
  unfold maxLen at hml
  rw [hS]
  clear hSp hIm ht hv hpb hS hs hl hsl
  go_enter Tryz.func3, Tryz.ntmps3
  go_wp2_with fail
  refine (TI.out w (Below.refl _ _)).mono ?_
  rintro e wa ⟨rfl, hba, hra⟩
  have HBa := Lib.hid hba
  have hsa := hba.size
  have HSp1 := Lib.hid (HSp.out _ ws.length wa (Row.sl' intC_length hra))
  clear hba hra
  go_wp2_with fail
  refine HSp1.out.mono ?_
  rintro e w1 ⟨hb1, f, he, hx1⟩
  unfold fpV at he
  subst he
  obtain ⟨W1, hW1⟩ : ∃ z, w1.alloc (.cells #[.int .i64 f.kind, .int .i64 f.table, .slice f.es.A f.es.n f.es.c, .slice f.cs.A f.cs.n f.cs.c, .slice f.ks.A f.ks.n f.ks.c] 26) = z := ⟨_, rfl⟩
  have bW1 : Below w1.heap.size w1 W1 := by rw [← hW1]; exact balloc (Below.refl _ _) _
  obtain ⟨n1, hn1⟩ : ∃ n, w1.heap.size = n := ⟨_, rfl⟩
  have rW1 : Row W1 n1 26 [.int .i64 f.kind, .int .i64 f.table, .slice f.es.A f.es.n f.es.c, .slice f.cs.A f.cs.n f.cs.c, .slice f.ks.A f.ks.n f.ks.c] := by rw [← hW1, ← hn1]; exact Row.new _ _ _
  have zW1 : W1.heap.size = n1 + 1 := by rw [← hW1, ← hn1]; simp
  have HX1 := Lib.hid (show PlT (fun k => k < n1) W1 f x from (hx1.mono (T := fun k => k < n1) fun k hk _ => by omega).keep bW1.size fun k _ hl => bW1.block k hl)
  have HR1 := Lib.hid rW1
  have HW1 := Lib.hid hW1
  have HB1 := Lib.hid (bch HBa.out (bch hb1 bW1))
  have hwn1 : w.heap.size ≤ n1 := by have := hb1.size; omega
  have hzW1 := zW1
  have Hn1 := Lib.hid hn1
  clear hx1 rW1 hW1 hb1 bW1 zW1 hn1
  go_upto_region 6 with fail
  rw [HW1.out, Hn1.out]
  have lowS := HB1.out.size
  go_wp2_with fail
  refine (TI.out W1 HB1.out).mono ?_
  rintro e wb ⟨rfl, hbb, hrb⟩
  have hrbl := hrb.lt
  have HBb := Lib.hid (bch HB1.out hbb)
  have HX1b := Lib.hid (show PlT (fun k => k < n1) wb f x from HX1.out.keep hbb.size fun k _ hl => hbb.block k hl)
  have HR1b := Lib.hid (HR1.out.on hbb)
  have HRb := Lib.hid hrb
  have HImb := Lib.hid (HIm.out w.heap.size _ ws.length wb (Row.sl' intC_length hrb) (HT.out.on HBb.out) (HV.out.on HBb.out) (by have := HBb.out.size; omega))
  obtain ⟨nb, hnb⟩ : ∃ n, W1.heap.size = n := ⟨_, rfl⟩
  rw [hnb] at HImb HRb ⊢
  have hn1b : n1 < nb := by omega
  have hwb : nb < wb.heap.size := by omega
  clear hbb hrb hrbl
  go_wp2_with fail
  refine HImb.out.mono ?_
  rintro e w2 ⟨hb2, g, he, hx2⟩
  unfold fpV at he
  subst he
  obtain ⟨W2, hW2⟩ : ∃ z, w2.alloc (.cells #[.int .i64 g.kind, .int .i64 g.table, .slice g.es.A g.es.n g.es.c, .slice g.cs.A g.cs.n g.cs.c, .slice g.ks.A g.ks.n g.ks.c] 26) = z := ⟨_, rfl⟩
  have bW2 : Below w2.heap.size w2 W2 := by rw [← hW2]; exact balloc (Below.refl _ _) _
  obtain ⟨n2, hn2⟩ : ∃ n, w2.heap.size = n := ⟨_, rfl⟩
  have rW2 : Row W2 n2 26 [.int .i64 g.kind, .int .i64 g.table, .slice g.es.A g.es.n g.es.c, .slice g.cs.A g.cs.n g.cs.c, .slice g.ks.A g.ks.n g.ks.c] := by rw [← hW2, ← hn2]; exact Row.new _ _ _
  have zW2 : W2.heap.size = n2 + 1 := by rw [← hW2, ← hn2]; simp
  have hn12 : nb < n2 := by have := hb2.size; omega
  have HX2 := Lib.hid (show PlW 40 3 26 W2 (fun k => nb < k ∧ k < n2) g x from (hx2.mono (T := fun k => nb < k ∧ k < n2) fun k hk (h : wb.heap.size ≤ k) => ⟨by omega, by omega⟩).keep bW2.size fun k _ hl => bW2.block k hl)
  have HB2 := Lib.hid (bch HBb.out (bch hb2 bW2))
  have HX12 := Lib.hid (show PlT (fun k => k < n1) W2 f x from HX1b.out.keep (bch hb2 bW2).size fun k _ hl => (bch hb2 bW2).block k hl)
  have HR12 := Lib.hid (HR1b.out.on (bch hb2 bW2))
  have HRb2 := Lib.hid (HRb.out.on (bch hb2 bW2))
  have HR2 := Lib.hid rW2
  have HW2 := Lib.hid hW2
  have Hn2 := Lib.hid hn2
  have hzW2 := zW2
  clear hx2 rW2 hW2 hb2 bW2 zW2 hn2
  go_upto_region 8 with fail
  rw [HW2.out, Hn2.out]
  have c0 := HR12.out.cell 0
  have c1 := HR12.out.cell 1
  have c2 := HR12.out.cell 2
  have c3 := HR12.out.cell 3
  have c4 := HR12.out.cell 4
  have cl := HR12.out.lt
  have d0 := HR2.out.cell 0
  have d1 := HR2.out.cell 1
  have d2 := HR2.out.cell 2
  have d3 := HR2.out.cell 3
  have d4 := HR2.out.cell 4
  have dl := HR2.out.lt
  have HQ := Lib.hid (eqPlan_ok x g f W2 HX2.out.in_ HX12.out.in_)
  unfold fpV at HQ
  go_wp2_with fail
  refine HQ.out.mono ?_
  rintro e w3 ⟨rfl, hb3⟩
  have HB3 := Lib.hid hb3
  clear c0 c1 c2 c3 c4 cl d0 d1 d2 d3 d4 dl
  clear hb3
  go_wp2_with fail
  refine (TI.out w3 (bch HB2.out HB3.out)).mono ?_
  rintro e wc ⟨rfl, hbc, hrc⟩
  have HBc := Lib.hid (bch HB3.out hbc)
  have HEQ := Lib.hid (eqIntS_ok _ _ ws.length ws.length ws ws wc hwl hwl (Row.sl' intC_length (HRb2.out.on HBc.out)) (Row.sl' intC_length hrc))
  rw [show decide (ws = ws) = true by simp] at HEQ
  clear hbc hrc
  go_wp2_with fail
  refine HEQ.out.mono ?_
  rintro e wd ⟨rfl, hbd⟩
  have HBd := Lib.hid (bch HBc.out hbd)
  have HMI := Lib.hid (markIntS2_ok nb ws.length ws.length (ws.flatMap intC) 1 wd (by omega) (by omega) hw20 (HRb2.out.on HBd.out) (flatI_len ws))
  have hk1 : ¬ (1 + (ws.length : Int)) < 0 := by omega
  have hszd := HBd.out.size
  clear hbd
  go_wp2_with fail
  refine HMI.out.mono ?_
  rintro e we ⟨rfl, hoe⟩
  have HX2e := Lib.hid (show PlW 40 3 26 we (fun k => nb < k ∧ k < n2) g x from (HX2.out.keep HBd.out.size fun k _ hl => HBd.out.block k hl).keep hoe.size fun k hk hl => hoe.block k hl (by omega))
  have HX1e := Lib.hid (show PlT (fun k => k < n1) we f x from (HX12.out.keep HBd.out.size fun k _ hl => HBd.out.block k hl).keep hoe.size fun k hk hl => hoe.block k hl (by omega))
  have HR2e := Lib.hid ((HR2.out.on HBd.out).only hoe (by omega))
  have HR1e := Lib.hid ((HR12.out.on HBd.out).only hoe (by omega))
  have hBe := Only.from_ (bch HB2.out HBd.out) rfl hoe (fun k hk => by omega)
  have HBe := Lib.hid hBe
  have hsze := hoe.size
  clear hoe hBe
  have c0 := HR1e.out.cell 0
  have c1 := HR1e.out.cell 1
  have c2 := HR1e.out.cell 2
  have c3 := HR1e.out.cell 3
  have c4 := HR1e.out.cell 4
  have cl := HR1e.out.lt
  have d0 := HR2e.out.cell 0
  have d1 := HR2e.out.cell 1
  have d2 := HR2e.out.cell 2
  have d3 := HR2e.out.cell 3
  have d4 := HR2e.out.cell 4
  have dl := HR2e.out.lt
  have HQe := Lib.hid (eqPlan_ok x g f we HX2e.out.in_ HX1e.out.in_)
  unfold fpV at HQe
  go_wp2_with fail
  refine HQe.out.mono ?_
  rintro e w3' ⟨rfl, hb3'⟩
  have HB3' := Lib.hid hb3'
  clear c0 c1 c2 c3 c4 cl d0 d1 d2 d3 d4 dl
  clear hb3'
  have HR23 := Lib.hid (HR2e.out.on HB3'.out)
  have HX23 := Lib.hid (show PlW 40 3 26 w3' (fun k => nb < k ∧ k < n2) g x from HX2e.out.keep HB3'.out.size fun k _ hl => HB3'.out.block k hl)
  have d0 := HR23.out.cell 0
  have d1 := HR23.out.cell 1
  have d2 := HR23.out.cell 2
  have d3 := HR23.out.cell 3
  have d4 := HR23.out.cell 4
  have dl := HR23.out.lt
  have HM := Lib.hid (markPlan_ok x g (fun k => nb < k ∧ k < n2) 1 w3' HX23.out HPB.out (by omega) (by omega))
  unfold fpV at HM
  obtain ⟨mk, hmk⟩ : ∃ mk, (1 : Int) + (ptMk x : Int) = mk := ⟨_, rfl⟩
  have hmk0 : ¬ mk < 0 := by omega
  rw [hmk] at HM
  have Hmk := Lib.hid hmk
  clear hmk
  go_wp2_with fail
  refine HM.out.mono ?_
  rintro e w4 ⟨rfl, hx4, ho4⟩
  clear d0 d1 d2 d3 d4 dl
  have HX4 := Lib.hid (show PlIn w4 w4.heap.size g (rePT 1 x) from hx4.in_)
  have HR24 := Lib.hid (HR23.out.only ho4 (by omega))
  have HR14 := Lib.hid ((HR1e.out.on HB3'.out).only ho4 (by omega))
  have HX14 := Lib.hid (show PlT (fun k => k < n1) w4 f x from (HX1e.out.keep HB3'.out.size fun k _ hl => HB3'.out.block k hl).keep ho4.size fun k hk hl => ho4.block k hl (by omega))
  have hB4 := Only.from_ (bch HBe.out HB3'.out) rfl ho4 (fun k hk => by omega)
  have HB4 := Lib.hid hB4
  have hsz4 := hB4.size
  clear hx4 ho4 hB4
  have d0 := HR24.out.cell 0
  have d1 := HR24.out.cell 1
  have d2 := HR24.out.cell 2
  have d3 := HR24.out.cell 3
  have d4 := HR24.out.cell 4
  have dl := HR24.out.lt
  have HH := Lib.hid (fun (z : World) (hz : Below w4.heap.size w4 z) => heldPlan_ok x g 1 z (HX4.out.on hz) HPB.out (by omega) (by omega))
  rw [Hmk.out] at HH
  unfold fpV at HH
  go_wp2_with fail
  refine (HH.out w4 (Below.refl _ _)).mono ?_
  rintro e w5 ⟨rfl, hb5⟩
  clear d0 d1 d2 d3 d4 dl
  have HB5 := Lib.hid hb5
  have lowS5 := (bch HB4.out hb5).size
  clear hb5
  go_wp2_with fail
  refine (TI.out w5 (bch HB4.out HB5.out)).mono ?_
  rintro e wg ⟨rfl, hbg, hrg⟩
  have HBg := Lib.hid (bch HB5.out hbg)
  have HImg := Lib.hid (HIm.out w.heap.size _ ws.length wg (Row.sl' intC_length hrg) (HT.out.on (bch HB4.out HBg.out)) (HV.out.on (bch HB4.out HBg.out)) (bch HB4.out HBg.out).size)
  clear hbg hrg
  go_wp2_with fail
  refine HImg.out.mono ?_
  rintro e w6 ⟨hb6, k, he, hx6⟩
  unfold fpV at he
  subst he
  obtain ⟨W6, hW6⟩ : ∃ z, w6.alloc (.cells #[.int .i64 k.kind, .int .i64 k.table, .slice k.es.A k.es.n k.es.c, .slice k.cs.A k.cs.n k.cs.c, .slice k.ks.A k.ks.n k.ks.c] 26) = z := ⟨_, rfl⟩
  have bW6 : Below w6.heap.size w6 W6 := by rw [← hW6]; exact balloc (Below.refl _ _) _
  obtain ⟨n6, hn6⟩ : ∃ n, w6.heap.size = n := ⟨_, rfl⟩
  have rW6 : Row W6 n6 26 [.int .i64 k.kind, .int .i64 k.table, .slice k.es.A k.es.n k.es.c, .slice k.cs.A k.cs.n k.cs.c, .slice k.ks.A k.ks.n k.ks.c] := by rw [← hW6, ← hn6]; exact Row.new _ _ _
  have zW6 : W6.heap.size = n6 + 1 := by rw [← hW6, ← hn6]; simp
  have HB6 := Lib.hid (bch HBg.out (bch hb6 bW6))
  have HX6 := Lib.hid (show PlIn W6 W6.heap.size k x from hx6.in_.on bW6)
  have HX16 := Lib.hid (show PlIn W6 W6.heap.size f x from HX14.out.in_.on HB6.out)
  have HR16 := Lib.hid (HR14.out.on HB6.out)
  have HR26 := Lib.hid (HR24.out.on HB6.out)
  have HR6 := Lib.hid rW6
  have HW6 := Lib.hid hW6
  have Hn6 := Lib.hid hn6
  clear hx6 rW6 hW6 hb6 bW6 zW6 hn6
  go_upto_region 25 with fail
  rw [HW6.out, Hn6.out]
  have c0 := HR16.out.cell 0
  have c1 := HR16.out.cell 1
  have c2 := HR16.out.cell 2
  have c3 := HR16.out.cell 3
  have c4 := HR16.out.cell 4
  have cl := HR16.out.lt
  have e0 := HR6.out.cell 0
  have e1 := HR6.out.cell 1
  have e2 := HR6.out.cell 2
  have e3 := HR6.out.cell 3
  have e4 := HR6.out.cell 4
  have el := HR6.out.lt
  have HQ6 := Lib.hid (eqPlan_ok x k f W6 HX6.out HX16.out)
  unfold fpV at HQ6
  go_wp2_with fail
  refine HQ6.out.mono ?_
  rintro e w7 ⟨rfl, hb7⟩
  clear c0 c1 c2 c3 c4 cl e0 e1 e2 e3 e4 el
  have HB7 := Lib.hid (bch HB6.out hb7)
  have HR27 := Lib.hid (HR26.out.on hb7)
  clear hb7
  have d0 := HR27.out.cell 0
  have d1 := HR27.out.cell 1
  have d2 := HR27.out.cell 2
  have d3 := HR27.out.cell 3
  have d4 := HR27.out.cell 4
  have dl := HR27.out.lt
  go_wp2_with fail
  refine (HH.out w7 HB7.out).mono ?_
  rintro e w8 ⟨rfl, hb8⟩
  clear d0 d1 d2 d3 d4 dl
  go_wp2
  go_ret
  exact ⟨rfl, bch HB4.out (bch HB7.out hb8)⟩

namespace lawFnExactDecodePlan
open Go.ChangeShapes Go.WideShapes Go.ChangeAt
theorem own : ownKnob Tryz.prog.godebug = none := by kernel_rfl
theorem laidOut : laidOutB Tryz.prog = true := by kernel_rfl

/-- So many blocks has the settled world. -/
noncomputable def low : Nat := (World.holding Tryz.prog default ⟨#[], #[], []⟩).heap.size
abbrev synS : ByteArray := { data := #[105, 110, 118, 97, 108, 105, 100, 32, 115, 121, 110, 116, 97, 120] }
abbrev rngS : ByteArray := { data := #[118, 97, 108, 117, 101, 32, 111, 117, 116, 32, 111, 102, 32, 114, 97, 110, 103, 101] }
/-- One start that fits: the settled world with two blocks more (two errors), the three tables and the two errors as their initialisers lay them. -/
noncomputable def laidWorld (os : Os) : World :=
  let w0 := World.holding Tryz.prog os ⟨#[.cells #[.string synS] 176, .cells #[.string rngS] 176], #[], []⟩
  let put (h : Array Obj) (g : Nat) (cs : Array Value) : Array Obj := h.modify g fun
    | .cells _ t frozen => .cells cs t frozen
    | o => o
  let h1 := put w0.heap 3 (Lib.pow10Tab.map fun z => Value.int .u64 z).toArray
  let h2 := put h1 4 #[.int .u8 0, .int .u8 1, .int .u8 28, .int .u8 2, .int .u8 29, .int .u8 14, .int .u8 24, .int .u8 3, .int .u8 30, .int .u8 22, .int .u8 20, .int .u8 15, .int .u8 25, .int .u8 17, .int .u8 4, .int .u8 8, .int .u8 31, .int .u8 27, .int .u8 13, .int .u8 23, .int .u8 21, .int .u8 19, .int .u8 16, .int .u8 7, .int .u8 26, .int .u8 12, .int .u8 18, .int .u8 6, .int .u8 11, .int .u8 5, .int .u8 10, .int .u8 9]
  let h3 := put h2 5 #[.int .u8 0, .int .u8 1, .int .u8 56, .int .u8 2, .int .u8 57, .int .u8 49, .int .u8 28, .int .u8 3, .int .u8 61, .int .u8 58, .int .u8 42, .int .u8 50, .int .u8 38, .int .u8 29, .int .u8 17, .int .u8 4, .int .u8 62, .int .u8 47, .int .u8 59, .int .u8 36, .int .u8 45, .int .u8 43, .int .u8 51, .int .u8 22, .int .u8 53, .int .u8 39, .int .u8 33, .int .u8 30, .int .u8 24, .int .u8 18, .int .u8 12, .int .u8 5, .int .u8 63, .int .u8 55, .int .u8 48, .int .u8 27, .int .u8 60, .int .u8 41, .int .u8 37, .int .u8 16, .int .u8 46, .int .u8 35, .int .u8 44, .int .u8 21, .int .u8 52, .int .u8 32, .int .u8 23, .int .u8 11, .int .u8 54, .int .u8 26, .int .u8 40, .int .u8 15, .int .u8 34, .int .u8 20, .int .u8 31, .int .u8 10, .int .u8 25, .int .u8 14, .int .u8 19, .int .u8 9, .int .u8 13, .int .u8 8, .int .u8 7, .int .u8 6]
  let h4 := put h3 0 #[.iface 174 (.pointer (some ⟨low, 0, none⟩))]
  let h5 := put h4 1 #[.iface 174 (.pointer (some ⟨low + 1, 0, none⟩))]
  { w0 with heap := h5 }
theorem laidWorld_met (os : Os) (args : Array Value) : laidMet Tryz.prog Rows.fnExactDecodePlanRow.laid ((laidWorld os).forCall (fun _ _ => 0) ⟨#[], args, []⟩).memory :=
  laidMet_of_run3 8 (by kernel_rfl) (by kernel_rfl) (by kernel_rfl)
theorem gTab : Tryz.prog.globalNamed "internal/strconv.uint64pow10" = some 3 := by kernel_rfl
theorem gTabType : (Tryz.prog.globals[3]?).map (·.type) = some 168 := by kernel_rfl
theorem tab {W : World} (h : laidMet Tryz.prog Rows.fnExactDecodePlanRow.laid W) : T10 W.heap.size W := by
  have h1 := h.tail.tail
  exact Lib.tabBelow_of_tabIs (Lib.tabIs_of_head gTab gTabType Tryz.underlying168 Tryz.underlying140 (by kernel_rfl) (by kernel_rfl) h1)
theorem star : "*" ++ "errors.errorString" = "*errors.errorString" := by decide
theorem rowErr (u : TypeId) (h : Tryz.prog.typeName? 3 u = some "*errors.errorString") : u = 174 :=
  typeName_ptr_named (nm := "errors.errorString") (by rw [star]; kernel_rfl) (by kernel_rfl) (by decide) u (by rw [star]; exact h)
theorem gSyn : Tryz.prog.globalNamed "strconv.ErrSyntax" = some 0 := by kernel_rfl
theorem gRng : Tryz.prog.globalNamed "strconv.ErrRange" = some 1 := by kernel_rfl
theorem gSynType : (Tryz.prog.globals[0]?).map (·.type) = some 118 := by kernel_rfl
theorem gRngType : (Tryz.prog.globals[1]?).map (·.type) = some 118 := by kernel_rfl
theorem evb {W : World} (h : laidMet Tryz.prog Rows.fnExactDecodePlanRow.laid W) : EvB W.heap.size W := by
  have h1 := h.tail.tail.tail
  obtain ⟨a0, s0, hv0, _⟩ := laid_sentinel h1 gRng gRngType Tryz.underlying118 rowErr Tryz.underlying174 Tryz.underlying176 rfl rfl Tryz.underlying9 (by kernel_rfl) (by kernel_rfl)
  obtain ⟨a1, s1, hv1, _⟩ := laid_sentinel h1.tail gSyn gSynType Tryz.underlying118 rowErr Tryz.underlying174 Tryz.underlying176 rfl rfl Tryz.underlying9 (by kernel_rfl) (by kernel_rfl)
  have k0 : W.cell? ⟨1, 0, none⟩ = some (.iface 174 (.pointer (some a0))) := by simpa using World.var?_cell gRng hv0 0
  have k1 : W.cell? ⟨0, 0, none⟩ = some (.iface 174 (.pointer (some a1))) := by simpa using World.var?_cell gSyn hv1 0
  intro z hz
  exact ⟨⟨_, _, (hz.cell (World.block_lt_of_cell? _ _ k1)).trans k1⟩, _, _, (hz.cell (World.block_lt_of_cell? _ _ k0)).trans k0⟩

set_option maxRecDepth 100000 in
theorem lifted (os : Os) (started : os.Started) (H : Type) (enc : TypeId × Value → H) :
    ReturnsInHanded {} Tryz.checked os 3 .any (fun w args => (Rows.fnExactDecodePlanSpec.pre enc Tryz.prog Tryz.f3 Rows.fnExactDecodePlanRow.domain false w args ∧ laidMet Tryz.prog Rows.fnExactDecodePlanRow.laid w) ∧ sizedMet enc Tryz.prog Tryz.f3 (OpenSpec.ofChange Rows.fnExactDecodePlanSpec) false w args)
      (Rows.fnExactDecodePlanSpec.post enc Tryz.prog Tryz.f3 false true false false) := by
  refine returnsInHanded_of_change_and (C := Tryz.checked) (X := fun w _ => laidMet Tryz.prog Rows.fnExactDecodePlanRow.laid w) (fun _ _ _ hh h => h.of_heap hh) own started (by kernel_rfl) Tryz.func3
    (ChangeSpec.witness_at (enc := enc) (C := Tryz.checked) (os := os) (X := fun w _ => laidMet Tryz.prog Rows.fnExactDecodePlanRow.laid w) false (laidWorld os) #[.string ⟨#[]⟩, .slice none 0 0] 8 rfl (by kernel_rfl) (by kernel_rfl) (by kernel_rfl) (by kernel_rfl) (by kernel_rfl) (laidWorld_met os _)) ?_
  intro W base args ds gs before hval0 hW hcnd hsz0 hL _
  have hval : ∀ (j : Nat) t v, Tryz.f3.params[j]? = some t → args[j]? = some v → Value.okWide Tryz.prog W .any base t v := hval0
  have hW' := hW
  obtain ⟨p, q, hA0, hV, rfl, hfz, hnd⟩ := hW
  have hA : DataW.TrodAll enc Tryz.prog W 0 (fun _ => true) true Tryz.f3.params.toList args.toList ds p := hA0
  rw [Tryz.params3] at hA hval
  obtain ⟨v0, vs0, d0, ds0, p0, q0, hargs, rfl, rfl, h0, r0⟩ := trodAll_cons hA
  obtain ⟨v1, vs1, d1, ds1, p1, q1, rfl, rfl, rfl, h1, r1⟩ := trodAll_cons r0
  obtain ⟨rfl, rfl, rfl⟩ := trodAll_nil r1
  obtain rfl : args = #[v0, v1] := by cases args; simp_all
  obtain ⟨rfl, rfl⟩ := trodVars_none hV
  obtain ⟨a1, len1, c1, rfl⟩ := okWide_slice Tryz.underlying22 (hval 1 22 v1 rfl rfl)
  have k0 := h0
  have lt0 : ∀ x ∈ p0, x.block < W.heap.size := by obtain ⟨m, hm⟩ := k0; exact DataW.trod_lt m _ _ _ hm
  have k1 := h1
  have lt1 : ∀ x ∈ p1, x.block < W.heap.size := by obtain ⟨m, hm⟩ := k1; exact DataW.trod_lt m _ _ _ hm
  obtain ⟨f1, h1⟩ := h1
  obtain ⟨s0, rfl, rfl, rfl, ws0⟩ := Go.ChangeMaps.open_string Tryz.underlying9 (hval 0 9 v0 rfl rfl) h0
  obtain ⟨xs1, rfl, hc1, hm1, g1, s1⟩ := open_sl (sz := 1) (ec := intC) Tryz.underlying22 (by kernel_rfl) (by omega) intC_length (el_int Tryz.underlying3) h1
  clear hA0 hval0
  refine (FnExactDecodePlan_walk s0.data.toList a1 c1 xs1 W ws0 (Nat.le_trans hc1 hm1) s1 (tab hL) (evb hL)).mono fun e W' ⟨he, bel⟩ => ?_
  subst he
  exact ⟨_, rfl, _, _, _, [], _, [], hW', trodAll_mk1 (shut_bool Tryz.underlying4 _), (trodAll_cons_mk (Below.trod laidOut (by kernel_rfl) (of_decide_eq_true (by kernel_rfl)) k0 bel lt0) (trodAll_cons_mk (Below.trod laidOut (by kernel_rfl) (of_decide_eq_true (by kernel_rfl)) k1 bel lt1) trodAll_mk0)), rfl, bel.frame _, fun h => by cases h⟩

theorem over : Rows.fnExactDecodePlanRow.holds Tryz.pinned (OpenSpec.ofChange Rows.fnExactDecodePlanSpec) :=
  OpenClaim.holds_of_wide 3 Tryz.f3 rfl rfl rfl rfl rfl rfl rfl ⟨rfl, rfl, rfl, rfl, rfl⟩ rfl rfl rfl rfl rfl (by kernel_rfl) Tryz.func3 (by kernel_rfl)
    (of_decide_eq_true (by kernel_rfl)) (by unfold Func.isWrapper; first | (rw [if_pos (by decide +kernel)]; kernel_rfl) | (rw [if_neg (by decide +kernel)]; exact ⟨rfl, rfl⟩))
    (fun os started H enc _ => lifted os started H enc)

theorem proved : Rows.FnExactDecodePlanCardSaid :=
  Claim7.holds_tied_plain_at .later [] Rows.fnExactDecodePlanCard.laidKinds true Rows.fnExactDecodePlanCard.stood.harness true
    over (fun _ h => by cases h) (by kernel_rfl) (fun _ h => by cases h) fnExactDecodePlan_row_tie rfl ⟨rfl, rfl⟩ (by kernel_rfl) rfl
    (fun f fn hf hfn => by
      obtain rfl : f = 3 := Option.some.inj ((show Tryz.prog.funcNamed "loop.example/queryoptimizer/laws.FnExactDecodePlan" = some 3 by kernel_rfl).symm.trans hf) |>.symm
      obtain rfl : fn = Tryz.f3 := (Option.some.inj (Tryz.func3.symm.trans hfn)).symm
      exact ⟨by kernel_rfl, fun j t ht => by
        rw [Tryz.params3] at ht
        have h3 : t = 9 ∨ t = 22 := by
          rcases j with _ | _ | j
          · exact .inl (by simpa using ht.symm)
          · exact .inr (by simpa using ht.symm)
          · simp at ht
        rcases h3 with h3 | h3
        · subst h3
          exact (show Tryz.prog.wantsStandIn 9 = false by kernel_rfl)
        · subst h3
          exact (show Tryz.prog.wantsStandIn 22 = false by kernel_rfl)⟩)
    (by kernel_rfl)
end lawFnExactDecodePlan
#print axioms lawFnExactDecodePlan.proved
end Go.Proofs.YtmhlpjfijpomkaaGreatDoor
