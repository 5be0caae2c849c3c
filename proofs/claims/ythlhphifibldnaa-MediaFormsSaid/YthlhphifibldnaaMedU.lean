/-
  Sign (3) of chapter 25 and of its reference, walked.
-/
import Derived.Test.YthlhphifibldnaaCodecV
import Derived.Test.YthlhphifibldnaaSealK
import Derived.Test.YthlhphifibldnaaMat
import Derived.Test.YthlhphifibldnaaMedN
import Derived.Test.YthlhphifibldnaaMedS
import Derived.Handy
import Derived.Deep.RegionWith
import Derived.Deep.RegionHeld3
namespace Go.Proofs.Ythlhphifibldnaa
open Go.RowKit

set_option maxRecDepth 100000 in
set_option maxHeartbeats 4000000 in
theorem rsign_any (key : Nat) (hk : key < 18446744073709551616) (m : Med) (w : World) (h : RangeM m) : Calls Try.prog 21 #[.int .u64 (key : Int), .agg #[.int .i64 m.ser, .int .i64 m.cnt, .int .i64 m.prd, .int .i64 m.fst, .int .i64 m.lft, .int .i64 m.tdy, .int .i64 m.lif, .int .i64 m.at_, .int .u64 m.tag]] w fun e w' => e = .returned (.agg #[.int .i64 m.ser, .int .i64 m.cnt, .int .i64 m.prd, .int .i64 m.fst, .int .i64 m.lft, .int .i64 m.tdy, .int .i64 m.lif, .int .i64 m.at_, .int .u64 ((tagM key m : Nat) : Int)]) ∧ Below w.heap.size w w' := by
  have HTag : Hid (∀ W : World, Calls Try.prog 28 #[.int .u64 (key : Int), .agg #[.int .i64 m.ser, .int .i64 m.cnt, .int .i64 m.prd, .int .i64 m.fst, .int .i64 m.lft, .int .i64 m.tdy, .int .i64 m.lif, .int .i64 m.at_, .int .u64 m.tag]] W fun e w' => e = .returned (.int .u64 ((tagM key m : Nat) : Int)) ∧ Below W.heap.size W w') := fun W => rmtag_any key hk m W h
  obtain ⟨T, hT⟩ : ∃ T, tagM key m = T := ⟨_, rfl⟩
  rw [hT] at HTag ⊢
  clear hT h
  obtain ⟨ser, cnt, prd, fst, lft, tdy, lif, at_, tag⟩ := m
  have HBt : Hid (∀ W : World, Blk (W.alloc (.cells #[.int .i64 ser, .int .i64 cnt, .int .i64 prd, .int .i64 fst, .int .i64 lft, .int .i64 tdy, .int .i64 lif, .int .i64 at_, .int .u64 tag] 24)) W.heap.size 24 #[.int .i64 ser, .int .i64 cnt, .int .i64 prd, .int .i64 fst, .int .i64 lft, .int .i64 tdy, .int .i64 lif, .int .i64 at_, .int .u64 tag]) := fun W => Blk.new W _ _
  have HBu : Hid (∀ W : World, Blk (W.alloc (.cells #[.int .i64 0, .int .i64 0, .int .i64 0, .int .i64 0, .int .i64 0, .int .i64 0, .int .i64 0, .int .i64 0, .int .u64 0] 24)) W.heap.size 24 #[.int .i64 0, .int .i64 0, .int .i64 0, .int .i64 0, .int .i64 0, .int .i64 0, .int .i64 0, .int .i64 0, .int .u64 0]) := fun W => Blk.new W _ _
  go_enter Try.func21, Try.ntmps21
  go_wp2_with fail
  obtain ⟨wa, hwa⟩ : ∃ W, w.alloc (.cells #[.int .i64 ser, .int .i64 cnt, .int .i64 prd, .int .i64 fst, .int .i64 lft, .int .i64 tdy, .int .i64 lif, .int .i64 at_, .int .u64 tag] 24) = W := ⟨_, rfl⟩
  have hsa : w.heap.size + 1 = wa.heap.size := by rw [← hwa]; simp
  have hba : Below w.heap.size w wa := by rw [← hwa]; exact (Below.refl w.heap.size w).alloc (Nat.le_refl _) _
  have hxa : Blk wa w.heap.size 24 #[.int .i64 ser, .int .i64 cnt, .int .i64 prd, .int .i64 fst, .int .i64 lft, .int .i64 tdy, .int .i64 lif, .int .i64 at_, .int .u64 tag] := by rw [← hwa]; exact HBt.out w
  rw [hwa]
  obtain ⟨w0, hw0⟩ : ∃ W, wa.alloc (.cells #[.int .i64 0, .int .i64 0, .int .i64 0, .int .i64 0, .int .i64 0, .int .i64 0, .int .i64 0, .int .i64 0, .int .u64 0] 24) = W := ⟨_, rfl⟩
  have hs1 : w.heap.size + 1 < w0.heap.size := by rw [← hw0]; simp; omega
  have hs0 : w.heap.size < w0.heap.size := by omega
  have HB0 : Hid (Below w.heap.size w w0) := by rw [← hw0]; exact hide (hba.alloc (by omega) _)
  have HBx : Hid (Blk w0 w.heap.size 24 #[.int .i64 ser, .int .i64 cnt, .int .i64 prd, .int .i64 fst, .int .i64 lft, .int .i64 tdy, .int .i64 lif, .int .i64 at_, .int .u64 tag]) := by rw [← hw0]; exact hide (hxa.alloc _)
  have HBy : Hid (Blk w0 (w.heap.size + 1) 24 #[.int .i64 0, .int .i64 0, .int .i64 0, .int .i64 0, .int .i64 0, .int .i64 0, .int .i64 0, .int .i64 0, .int .u64 0]) := by rw [← hw0, hsa]; exact HBu.out wa
  rw [hw0]
  clear hw0 hwa hba hxa
  try rw [← hsa]
  clear hsa
  have c0 : w0.cell? ⟨w.heap.size, 0, none⟩ = some (.int .i64 ser) := HBx.out.cell 0
  have c1 : w0.cell? ⟨w.heap.size, 1, none⟩ = some (.int .i64 cnt) := HBx.out.cell 1
  have c2 : w0.cell? ⟨w.heap.size, 2, none⟩ = some (.int .i64 prd) := HBx.out.cell 2
  have c3 : w0.cell? ⟨w.heap.size, 3, none⟩ = some (.int .i64 fst) := HBx.out.cell 3
  have c4 : w0.cell? ⟨w.heap.size, 4, none⟩ = some (.int .i64 lft) := HBx.out.cell 4
  have c5 : w0.cell? ⟨w.heap.size, 5, none⟩ = some (.int .i64 tdy) := HBx.out.cell 5
  have c6 : w0.cell? ⟨w.heap.size, 6, none⟩ = some (.int .i64 lif) := HBx.out.cell 6
  have c7 : w0.cell? ⟨w.heap.size, 7, none⟩ = some (.int .i64 at_) := HBx.out.cell 7
  have c8 : w0.cell? ⟨w.heap.size, 8, none⟩ = some (.int .u64 tag) := HBx.out.cell 8
  go_wp2_with fail
  with_reducible refine (HTag.out _).mono ?_
  rintro e w2 ⟨rfl, hb2⟩
  have HBx2 := Lib.hid (HBx.out.below hb2 hs0)
  have HBy2 := Lib.hid (HBy.out.below hb2 hs1)
  have HB2 := Lib.hid (HB0.out.trans (hb2.mono HB0.out.size))
  clear hb2
  have c0 : w2.cell? ⟨w.heap.size, 0, none⟩ = some (.int .i64 ser) := HBx2.out.cell 0
  have c1 : w2.cell? ⟨w.heap.size, 1, none⟩ = some (.int .i64 cnt) := HBx2.out.cell 1
  have c2 : w2.cell? ⟨w.heap.size, 2, none⟩ = some (.int .i64 prd) := HBx2.out.cell 2
  have c3 : w2.cell? ⟨w.heap.size, 3, none⟩ = some (.int .i64 fst) := HBx2.out.cell 3
  have c4 : w2.cell? ⟨w.heap.size, 4, none⟩ = some (.int .i64 lft) := HBx2.out.cell 4
  have c5 : w2.cell? ⟨w.heap.size, 5, none⟩ = some (.int .i64 tdy) := HBx2.out.cell 5
  have c6 : w2.cell? ⟨w.heap.size, 6, none⟩ = some (.int .i64 lif) := HBx2.out.cell 6
  have c7 : w2.cell? ⟨w.heap.size, 7, none⟩ = some (.int .i64 at_) := HBx2.out.cell 7
  have c8 : w2.cell? ⟨w.heap.size, 8, none⟩ = some (.int .u64 tag) := HBx2.out.cell 8
  have z0 : w2.cell? ⟨w.heap.size + 1, 0, none⟩ = some (.int .i64 0) := HBy2.out.cell 0
  have z1 : w2.cell? ⟨w.heap.size + 1, 1, none⟩ = some (.int .i64 0) := HBy2.out.cell 1
  have z2 : w2.cell? ⟨w.heap.size + 1, 2, none⟩ = some (.int .i64 0) := HBy2.out.cell 2
  have z3 : w2.cell? ⟨w.heap.size + 1, 3, none⟩ = some (.int .i64 0) := HBy2.out.cell 3
  have z4 : w2.cell? ⟨w.heap.size + 1, 4, none⟩ = some (.int .i64 0) := HBy2.out.cell 4
  have z5 : w2.cell? ⟨w.heap.size + 1, 5, none⟩ = some (.int .i64 0) := HBy2.out.cell 5
  have z6 : w2.cell? ⟨w.heap.size + 1, 6, none⟩ = some (.int .i64 0) := HBy2.out.cell 6
  have z7 : w2.cell? ⟨w.heap.size + 1, 7, none⟩ = some (.int .i64 0) := HBy2.out.cell 7
  have z8 : w2.cell? ⟨w.heap.size + 1, 8, none⟩ = some (.int .u64 0) := HBy2.out.cell 8
  have f8 : w2.frozen? ⟨w.heap.size, 8, none⟩ = false := HBx2.out.frozen 8
  have g0 : w2.frozen? ⟨w.heap.size + 1, 0, none⟩ = false := HBy2.out.frozen 0
  have g1 : w2.frozen? ⟨w.heap.size + 1, 1, none⟩ = false := HBy2.out.frozen 1
  have g2 : w2.frozen? ⟨w.heap.size + 1, 2, none⟩ = false := HBy2.out.frozen 2
  have g3 : w2.frozen? ⟨w.heap.size + 1, 3, none⟩ = false := HBy2.out.frozen 3
  have g4 : w2.frozen? ⟨w.heap.size + 1, 4, none⟩ = false := HBy2.out.frozen 4
  have g5 : w2.frozen? ⟨w.heap.size + 1, 5, none⟩ = false := HBy2.out.frozen 5
  have g6 : w2.frozen? ⟨w.heap.size + 1, 6, none⟩ = false := HBy2.out.frozen 6
  have g7 : w2.frozen? ⟨w.heap.size + 1, 7, none⟩ = false := HBy2.out.frozen 7
  have g8 : w2.frozen? ⟨w.heap.size + 1, 8, none⟩ = false := HBy2.out.frozen 8
  go_wp2_with fail
  have HF := (HBy2.out.far (p := ⟨w.heap.size, 8, none⟩) (by simp) (.int .u64 (T : Int)))
  have HG := blk_med9 HF (.int .i64 ser) (.int .i64 cnt) (.int .i64 prd) (.int .i64 fst) (.int .i64 lft) (.int .i64 tdy) (.int .i64 lif) (.int .i64 at_) (.int .u64 (T : Int))
  refine bodyPost_ret (v := .agg #[.int .i64 ser, .int .i64 cnt, .int .i64 prd, .int .i64 fst, .int .i64 lft, .int .i64 tdy, .int .i64 lif, .int .i64 at_, .int .u64 (T : Int)]) (results_cell_row rfl _ _ (w.heap.size + 1) 24 _ (0, 0) _ rfl HG Try.underlying24 rfl (by kernel_rfl)) rfl ⟨rfl, ?_⟩
  repeat (with_reducible first | exact HB2.out | refine below_drewN ?_ _ | refine Below.setCell ?_ (by first | (simp; done) | (simp; omega)) _)

end Go.Proofs.Ythlhphifibldnaa
