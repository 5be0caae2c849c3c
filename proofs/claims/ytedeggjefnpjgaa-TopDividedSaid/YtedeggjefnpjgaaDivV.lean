/-
  uplink.Ack, walked.
-/
import Derived.Test.YtedeggjefnpjgaaDivU
namespace Go.Proofs.Ytedeggjefnpjgaa
open Go.RowKit

/-- the outbox has the rides that are not acknowledged -/
def AckR (g nx : Int) (l : List Rd) (w : World) (e : Ending) (w' : World) : Prop := ∃ v, e = .returned (.agg #[.int .i64 g, .int .i64 nx, v]) ∧ OwnRd w' 0 v l ∧ Below w.heap.size w w'
set_option maxRecDepth 100000 in
set_option maxHeartbeats 4000000 in
theorem ack_any (g nx u : Int) (A : Option Addr) (n c : Nat) (l : List Rd) (w : World) (hr : Strs Rd.cells 7 w w.heap.size A n l) (hl : l.length = n) (hn : n ≤ 1000000) :
    Calls Try.prog 20 #[.agg #[.int .i64 g, .int .i64 nx, .slice A n c], .int .i64 u] w (AckR g nx (l.filter fun r => !decide (r.seq ≤ u)) w) := by
  have HC : Hid (∀ W, Below w.heap.size w W → Calls Try.prog 34 #[.slice A n c] W fun e w' => ∃ v, e = .returned v ∧ OwnRd w' W.heap.size v l ∧ Below W.heap.size W w') := fun W h => clone_rd A n c W.heap.size l W (hr.now h) hl (by omega) (Nat.le_refl _)
  have HL := Lib.hid hl
  have HFin : Hid (∀ v w', OwnRd w' 0 v (l.filter fun r => !decide (r.seq ≤ u)) → Below w.heap.size w w' → AckR g nx (l.filter fun r => !decide (r.seq ≤ u)) w (.returned (.agg #[.int .i64 g, .int .i64 nx, v])) w') := fun v w' h1 h2 => ⟨v, rfl, h1, h2⟩
  generalize AckR g nx (l.filter fun r => !decide (r.seq ≤ u)) w = RR at *
  clear hr hl
  go_enter Try.func20, Try.ntmps20
  go_upto_region 1 with (fail)
  have hwz : (w.alloc (Obj.cells #[Value.int .i64 g, Value.int .i64 nx, Value.slice A n c] 30)).heap.size = w.heap.size + 1 := by simp
  obtain ⟨w0, hw0⟩ : ∃ W, w.alloc (Obj.cells #[Value.int .i64 g, Value.int .i64 nx, Value.slice A n c] 30) = W := ⟨_, rfl⟩
  rw [hw0] at hwz ⊢
  have HX0 : Hid (Blk w0 w.heap.size 30 #[.int .i64 g, .int .i64 nx, .slice A n c]) := hide (by rw [← hw0]; exact Blk.new w _ _)
  have HB0 : Hid (Below w.heap.size w w0) := hide (by rw [← hw0]; exact below_new w _)
  have hwz' : (w0.alloc (Obj.cells #[Value.int .i64 u] 3)).heap.size = w.heap.size + 2 := by simp [hwz]
  obtain ⟨wa, hwa⟩ : ∃ W, w0.alloc (Obj.cells #[Value.int .i64 u] 3) = W := ⟨_, rfl⟩
  rw [hwa] at hwz' ⊢
  have HTa : Hid (Blk wa (w.heap.size + 1) 3 #[.int .i64 u]) := hide (by rw [← hwa, ← hwz]; exact Blk.new w0 _ _)
  have hba : Below w0.heap.size w0 wa := by rw [← hwa]; exact below_new w0 _
  have HXa := Lib.hid (HX0.out.below hba (by omega))
  have HBa := Lib.hid (HB0.out.trans (hba.mono HB0.out.size))
  obtain ⟨w1, hw1⟩ : ∃ W, wa.alloc (Obj.cells #[Value.int .i64 0, Value.int .i64 0, Value.slice none 0 0] 30) = W := ⟨_, rfl⟩
  rw [hw1]
  have HY1 : Hid (Blk w1 (w.heap.size + 2) 30 #[.int .i64 0, .int .i64 0, .slice none 0 0]) := hide (by rw [← hw1, ← hwz']; exact Blk.new wa _ _)
  have hb1 : Below wa.heap.size wa w1 := by rw [← hw1]; exact below_new wa _
  have HX1 := Lib.hid (HXa.out.below hb1 (by omega))
  have HT1 := Lib.hid (HTa.out.below hb1 (by omega))
  have HB1 := Lib.hid (HBa.out.trans (hb1.mono HBa.out.size))
  have hs1 : w.heap.size + 3 ≤ w1.heap.size := by have := HY1.out.lt; omega
  clear hw0 hwa hw1 hba hb1 hwz hwz' HX0 HB0 HXa HTa HBa
  have x2 : w1.cell? ⟨w.heap.size, 2, none⟩ = some (.slice A n c) := HX1.out.cell 2
  go_wp2_with fail
  with_reducible refine (HC.out w1 HB1.out).mono ?_
  rintro e w2 ⟨v2, rfl, ho2, hb2⟩
  have HB2 := Lib.hid (HB1.out.trans (hb2.mono HB1.out.size))
  have HX2 := Lib.hid (HX1.out.below hb2 (by omega))
  have HT2 := Lib.hid (HT1.out.below hb2 (by omega))
  have HY2 := Lib.hid (HY1.out.below hb2 (by omega))
  have hs2 : w.heap.size + 3 ≤ w2.heap.size := Nat.le_trans hs1 hb2.size
  have HO2 := Lib.hid (OwnRd.mono ho2 (show w.heap.size + 3 ≤ w1.heap.size from hs1))
  obtain ⟨Ac, nc, cc, rfl, HNc, _, _, _⟩ := (OwnRd.strV ho2).nam
  obtain rfl : n = nc := by rw [← HL.out, HNc.out]
  have HD := Lib.hid (dfunc_any 37 (.pointer (some ⟨w.heap.size + 1, 0, none⟩)) (fun r => decide (r.seq ≤ u)) (w.heap.size + 3) Ac n cc l w2 HO2.out HL.out (by omega) hs2 enters_ack1 (fun r W hW => ack1_any (w.heap.size + 1) u r W ((HT2.out.below hW (by omega)).cell 0)))
  clear ho2 hb2 HX1 HT1 HY1 HB1 x2 HC
  go_wp2_with fail
  with_reducible refine HD.out.mono ?_
  rintro e w3 ⟨v3, rfl, ho3, hb3⟩
  have HB3 : Hid (Below w.heap.size w w3) := hide (HB2.out.trans (hb3.mono (by omega)))
  have HX3 := Lib.hid (HX2.out.below hb3 (by omega))
  have HY3 := Lib.hid (HY2.out.below hb3 (by omega))
  have HO3 := Lib.hid ho3
  obtain ⟨A3, n3, c3, rfl, _, _, _, _⟩ := (OwnRd.strV ho3).nam
  clear ho3 hb3 HX2 HY2 HD HT2
  go_wp2_with
    (first
     | (refine wpList_store_field 28 (.tmp 10) (.tmp 9) rfl rfl w.heap.size 2 (.slice A3 n3 c3) rfl rfl 30 _ HX3.out (by kernel_rfl) (by simp) rfl rfl ?_
        intro w4 hx4 hon4
        have HX4 : Hid (Blk w4 w.heap.size 30 #[.int .i64 g, .int .i64 nx, .slice A3 n3 c3]) := hide hx4
        have HO4 : Hid (OwnRd w4 (w.heap.size + 3) (.slice A3 n3 c3) _) := hide (hon4.own HO3.out (row_blk HO3.out HX3.out (by decide)))
        have HY4 := Lib.hid (hon4.blk HY3.out (by omega))
        have HB4 : Hid (Below w.heap.size w w4) := hide (hon4.below HB3.out (by omega))
        clear hx4 hon4)
     | (refine wpList_load_blk rfl 30 (.tmp 2) rfl w.heap.size rfl _ _ HX4.out _ Try.underlying30 rfl (by kernel_rfl) ?_)
     | (refine wpList_store_blk rfl 30 (.tmp 4) (.tmp 11) rfl (w.heap.size + 2) #[.int .i64 g, .int .i64 nx, .slice A3 n3 c3] rfl rfl _ _ HY4.out (by kernel_rfl) rfl (by simp [Value.oneCell']) ?_
        intro w5 hx5 hon5
        have HX5 := Lib.hid hx5
        have HS5 := Lib.hid (OwnRd.to0 (base := w.heap.size + 3) (hon5.own HO4.out (row_blk HO4.out HY4.out (by decide))))
        have HB5 : Hid (Below w.heap.size w w5) := hide (hon5.below HB4.out (by omega))
        clear hx5 hon5))
  refine bodyPost_ret (results_cell_row rfl _ _ (w.heap.size + 2) 30 _ (0, 0) _ rfl HX5.out Try.underlying30 rfl (by kernel_rfl)) rfl ?_
  exact HFin.out _ _ HS5.out HB5.out
end Go.Proofs.Ytedeggjefnpjgaa
