/-
  New of chapter 25 and of its reference, and the comparison of bytes, walked.
-/
import Derived.Test.YthlhphifibldnaaCodecV
import Derived.Test.YthlhphifibldnaaMedP
import Derived.Test.YthlhphifibldnaaMedT
import Derived.Test.YthlhphifibldnaaMedU
import Derived.Test.YthlhphifibldnaaStr
namespace Go.Proofs.Ythlhphifibldnaa
open Go.RowKit

set_option maxHeartbeats 400000 in
theorem equal_any (b : Bool) (A A' : Option Addr) (n c n' c' B B' : Nat) (l l' : List UInt8) (w : World) (hr : Bytes w B A n l) (hr' : Bytes w B' A' n' l') (hb : decide (l = l') = b) :
    Calls Try.prog 36 #[.slice A n c, .slice A' n' c'] w fun e w' => e = .returned (.bool b) ∧ w = w' := by
  have q1 := run_str (P := Try.prog) w Try.underlying35 Try.underlying5 Try.underlying9 hr c
  have q2 := run_str (P := Try.prog) w Try.underlying35 Try.underlying5 Try.underlying9 hr' c'
  have HB := Lib.hid hb
  clear hr hr' hb
  go_enter Try.func36, Try.ntmps36
  go_wp2_with fail
  go_ret
  exact ⟨ret_b (by rw [← HB.out, Bool.eq_iff_iff]; simp), rfl⟩

/-- the medium that New makes, before it is signed -/
def newM (s p u : Int) : Med := ⟨s, 0, p, -1, u, -1, 0, -1, 0⟩
theorem newM_range {s p u : Int} (h : 1 ≤ s ∧ s ≤ 9999 ∧ 1 ≤ p ∧ p ≤ 9999 ∧ 0 ≤ u ∧ u ≤ 100) : RangeM (newM s p u) := by
  obtain ⟨h1, h2, h3, h4, h5, h6⟩ := h
  simp only [RangeM, newM]
  omega

set_option maxRecDepth 100000 in
set_option maxHeartbeats 2000000 in
theorem new_bad (key s p u : Int) (hk : 0 ≤ key ∧ key < 18446744073709551616) (w : World) (h : ¬ (1 ≤ s ∧ s ≤ 9999 ∧ 1 ≤ p ∧ p ≤ 9999 ∧ 0 ≤ u ∧ u ≤ 100)) :
    Calls Try.prog 13 #[.int .u64 key, .int .i64 s, .int .i64 p, .int .i64 u] w fun e w' => e = .returned (.tuple #[.agg #[.int .i64 0, .int .i64 0, .int .i64 0, .int .i64 0, .int .i64 0, .int .i64 0, .int .i64 0, .int .i64 0, .int .u64 0], .int .i64 2]) ∧ Below w.heap.size w w' := by
  have hw : s < 1 ∨ (1 ≤ s ∧ 9999 < s) ∨ (1 ≤ s ∧ s ≤ 9999 ∧ p < 1) ∨ (1 ≤ s ∧ s ≤ 9999 ∧ 1 ≤ p ∧ 9999 < p) ∨ (1 ≤ s ∧ s ≤ 9999 ∧ 1 ≤ p ∧ p ≤ 9999 ∧ u < 0) ∨ (1 ≤ s ∧ s ≤ 9999 ∧ 1 ≤ p ∧ p ≤ 9999 ∧ 0 ≤ u ∧ 100 < u) := by omega
  clear h
  rcases hw with h | ⟨h1, h⟩ | ⟨h1, h2, h⟩ | ⟨h1, h2, h3, h⟩ | ⟨h1, h2, h3, h4, h⟩ | ⟨h1, h2, h3, h4, h5, h⟩
  all_goals
    go_enter Try.func13, Try.ntmps13
    go_wp2_with
      (refine wpList_store_blk rfl 24 (.tmp 8) (.tmp 32) rfl w.heap.size #[.int .i64 0, .int .i64 0, .int .i64 0, .int .i64 0, .int .i64 0, .int .i64 0, .int .i64 0, .int .i64 0, .int .u64 0] rfl rfl _ _ (Blk.new w 24 #[.int .i64 0, .int .i64 0, .int .i64 0, .int .i64 0, .int .i64 0, .int .i64 0, .int .i64 0, .int .i64 0, .int .u64 0]) (by kernel_rfl) rfl (by decide +kernel) ?_
       intro w5 HBz5 hon5
       have HZ5 := Lib.hid HBz5
       have HB5 := Lib.hid (hon5.below (below_new w _) (Nat.le_refl _))
       clear HBz5 hon5)
  all_goals
    refine bodyPost_ret (v := .tuple #[.agg #[.int .i64 0, .int .i64 0, .int .i64 0, .int .i64 0, .int .i64 0, .int .i64 0, .int .i64 0, .int .i64 0, .int .u64 0], .int .i64 2]) (results_cell_row_tmp rfl _ _ w.heap.size 24 _ _ _ rfl rfl HZ5.out Try.underlying24 rfl (by kernel_rfl)) rfl ?_
    exact ⟨rfl, HB5.out⟩
set_option maxRecDepth 100000 in
set_option maxHeartbeats 2000000 in
theorem new_ok (key : Nat) (s p u : Int) (hk : key < 18446744073709551616) (w : World) (h : 1 ≤ s ∧ s ≤ 9999 ∧ 1 ≤ p ∧ p ≤ 9999 ∧ 0 ≤ u ∧ u ≤ 100) (T : Nat) (hT : tagM key (newM s p u) = T) :
    Calls Try.prog 13 #[.int .u64 (key : Int), .int .i64 s, .int .i64 p, .int .i64 u] w fun e w' => e = .returned (.tuple #[.agg #[.int .i64 s, .int .i64 0, .int .i64 p, .int .i64 (-1), .int .i64 u, .int .i64 (-1), .int .i64 0, .int .i64 (-1), .int .u64 (T : Int)], .int .i64 0]) ∧ Below w.heap.size w w' := by
  have HS : Hid (∀ W : World, Calls Try.prog 17 #[.int .u64 (key : Int), .agg #[.int .i64 s, .int .i64 0, .int .i64 p, .int .i64 (-1), .int .i64 u, .int .i64 (-1), .int .i64 0, .int .i64 (-1), .int .u64 0]] W fun e w' => e = .returned (.agg #[.int .i64 s, .int .i64 0, .int .i64 p, .int .i64 (-1), .int .i64 u, .int .i64 (-1), .int .i64 0, .int .i64 (-1), .int .u64 (T : Int)]) ∧ Below W.heap.size W w') := by
    intro W
    have h2 := sign_any key hk (newM s p u) W (newM_range h)
    rw [hT] at h2
    exact h2
  clear hT
  obtain ⟨h1, h2, h3, h4, h5, h6⟩ := h
  go_enter Try.func13, Try.ntmps13
  go_wp2_with fail
  have HBw0 := (Blk.new w 24 #[.int .i64 0, .int .i64 0, .int .i64 0, .int .i64 0, .int .i64 0, .int .i64 0, .int .i64 0, .int .i64 0, .int .u64 0])
  have HLw0 := (below_new w (.cells #[.int .i64 0, .int .i64 0, .int .i64 0, .int .i64 0, .int .i64 0, .int .i64 0, .int .i64 0, .int .i64 0, .int .u64 0] 24))
  have hsw0 : (w.alloc (.cells #[.int .i64 0, .int .i64 0, .int .i64 0, .int .i64 0, .int .i64 0, .int .i64 0, .int .i64 0, .int .i64 0, .int .u64 0] 24)).heap.size = w.heap.size + 1 := by simp
  generalize w.alloc (.cells #[.int .i64 0, .int .i64 0, .int .i64 0, .int .i64 0, .int .i64 0, .int .i64 0, .int .i64 0, .int .i64 0, .int .u64 0] 24) = w0 at HBw0 HLw0 hsw0 ⊢
  replace HBw0 := Lib.hid HBw0
  replace HLw0 := Lib.hid HLw0
  have hlw0 : w.heap.size < w0.heap.size := by omega
  replace hsw0 := Lib.hid hsw0
  with_reducible refine (HS.out _).mono ?_
  rintro e w2 ⟨rfl, hb2⟩
  have HBx2 := Lib.hid (HBw0.out.below hb2 hlw0)
  have HB2 := Lib.hid (HLw0.out.trans (hb2.mono HLw0.out.size))
  clear hb2
  go_wp2_with
    (refine wpList_store_blk rfl 24 (.tmp 8) (.tmp 38) rfl w.heap.size #[.int .i64 s, .int .i64 0, .int .i64 p, .int .i64 (-1), .int .i64 u, .int .i64 (-1), .int .i64 0, .int .i64 (-1), .int .u64 (T : Int)] rfl rfl _ _ HBx2.out (by kernel_rfl) rfl (by simp [Value.oneCell']) ?_
     intro w5 HBz5 hon5
     have HZ5 := Lib.hid HBz5
     have HB5 := Lib.hid (hon5.below HB2.out (Nat.le_refl _))
     clear HBz5 hon5)
  refine bodyPost_ret (v := .tuple #[.agg #[.int .i64 s, .int .i64 0, .int .i64 p, .int .i64 (-1), .int .i64 u, .int .i64 (-1), .int .i64 0, .int .i64 (-1), .int .u64 (T : Int)], .int .i64 0]) (results_cell_row_tmp rfl _ _ w.heap.size 24 _ _ _ rfl rfl HZ5.out Try.underlying24 rfl (by kernel_rfl)) rfl ?_
  exact ⟨rfl, HB5.out⟩
set_option maxRecDepth 100000 in
set_option maxHeartbeats 2000000 in
theorem rnew_bad (key s p u : Int) (hk : 0 ≤ key ∧ key < 18446744073709551616) (w : World) (h : ¬ (1 ≤ s ∧ s ≤ 9999 ∧ 1 ≤ p ∧ p ≤ 9999 ∧ 0 ≤ u ∧ u ≤ 100)) :
    Calls Try.prog 14 #[.int .u64 key, .int .i64 s, .int .i64 p, .int .i64 u] w fun e w' => e = .returned (.tuple #[.agg #[.int .i64 0, .int .i64 0, .int .i64 0, .int .i64 0, .int .i64 0, .int .i64 0, .int .i64 0, .int .i64 0, .int .u64 0], .int .i64 2]) ∧ Below w.heap.size w w' := by
  have hw : s < 1 ∨ (1 ≤ s ∧ 9999 < s) ∨ (1 ≤ s ∧ s ≤ 9999 ∧ p < 1) ∨ (1 ≤ s ∧ s ≤ 9999 ∧ 1 ≤ p ∧ 9999 < p) ∨ (1 ≤ s ∧ s ≤ 9999 ∧ 1 ≤ p ∧ p ≤ 9999 ∧ u < 0) ∨ (1 ≤ s ∧ s ≤ 9999 ∧ 1 ≤ p ∧ p ≤ 9999 ∧ 0 ≤ u ∧ 100 < u) := by omega
  clear h
  rcases hw with h | ⟨h1, h⟩ | ⟨h1, h2, h⟩ | ⟨h1, h2, h3, h⟩ | ⟨h1, h2, h3, h4, h⟩ | ⟨h1, h2, h3, h4, h5, h⟩
  all_goals
    go_enter Try.func14, Try.ntmps14
    go_wp2_with
      (refine wpList_store_blk rfl 24 (.tmp 8) (.tmp 32) rfl w.heap.size #[.int .i64 0, .int .i64 0, .int .i64 0, .int .i64 0, .int .i64 0, .int .i64 0, .int .i64 0, .int .i64 0, .int .u64 0] rfl rfl _ _ (Blk.new w 24 #[.int .i64 0, .int .i64 0, .int .i64 0, .int .i64 0, .int .i64 0, .int .i64 0, .int .i64 0, .int .i64 0, .int .u64 0]) (by kernel_rfl) rfl (by decide +kernel) ?_
       intro w5 HBz5 hon5
       have HZ5 := Lib.hid HBz5
       have HB5 := Lib.hid (hon5.below (below_new w _) (Nat.le_refl _))
       clear HBz5 hon5)
  all_goals
    refine bodyPost_ret (v := .tuple #[.agg #[.int .i64 0, .int .i64 0, .int .i64 0, .int .i64 0, .int .i64 0, .int .i64 0, .int .i64 0, .int .i64 0, .int .u64 0], .int .i64 2]) (results_cell_row_tmp rfl _ _ w.heap.size 24 _ _ _ rfl rfl HZ5.out Try.underlying24 rfl (by kernel_rfl)) rfl ?_
    exact ⟨rfl, HB5.out⟩
set_option maxRecDepth 100000 in
set_option maxHeartbeats 2000000 in
theorem rnew_ok (key : Nat) (s p u : Int) (hk : key < 18446744073709551616) (w : World) (h : 1 ≤ s ∧ s ≤ 9999 ∧ 1 ≤ p ∧ p ≤ 9999 ∧ 0 ≤ u ∧ u ≤ 100) (T : Nat) (hT : tagM key (newM s p u) = T) :
    Calls Try.prog 14 #[.int .u64 (key : Int), .int .i64 s, .int .i64 p, .int .i64 u] w fun e w' => e = .returned (.tuple #[.agg #[.int .i64 s, .int .i64 0, .int .i64 p, .int .i64 (-1), .int .i64 u, .int .i64 (-1), .int .i64 0, .int .i64 (-1), .int .u64 (T : Int)], .int .i64 0]) ∧ Below w.heap.size w w' := by
  have HS : Hid (∀ W : World, Calls Try.prog 21 #[.int .u64 (key : Int), .agg #[.int .i64 s, .int .i64 0, .int .i64 p, .int .i64 (-1), .int .i64 u, .int .i64 (-1), .int .i64 0, .int .i64 (-1), .int .u64 0]] W fun e w' => e = .returned (.agg #[.int .i64 s, .int .i64 0, .int .i64 p, .int .i64 (-1), .int .i64 u, .int .i64 (-1), .int .i64 0, .int .i64 (-1), .int .u64 (T : Int)]) ∧ Below W.heap.size W w') := by
    intro W
    have h2 := rsign_any key hk (newM s p u) W (newM_range h)
    rw [hT] at h2
    exact h2
  clear hT
  obtain ⟨h1, h2, h3, h4, h5, h6⟩ := h
  go_enter Try.func14, Try.ntmps14
  go_wp2_with fail
  have HBw0 := (Blk.new w 24 #[.int .i64 0, .int .i64 0, .int .i64 0, .int .i64 0, .int .i64 0, .int .i64 0, .int .i64 0, .int .i64 0, .int .u64 0])
  have HLw0 := (below_new w (.cells #[.int .i64 0, .int .i64 0, .int .i64 0, .int .i64 0, .int .i64 0, .int .i64 0, .int .i64 0, .int .i64 0, .int .u64 0] 24))
  have hsw0 : (w.alloc (.cells #[.int .i64 0, .int .i64 0, .int .i64 0, .int .i64 0, .int .i64 0, .int .i64 0, .int .i64 0, .int .i64 0, .int .u64 0] 24)).heap.size = w.heap.size + 1 := by simp
  generalize w.alloc (.cells #[.int .i64 0, .int .i64 0, .int .i64 0, .int .i64 0, .int .i64 0, .int .i64 0, .int .i64 0, .int .i64 0, .int .u64 0] 24) = w0 at HBw0 HLw0 hsw0 ⊢
  replace HBw0 := Lib.hid HBw0
  replace HLw0 := Lib.hid HLw0
  have hlw0 : w.heap.size < w0.heap.size := by omega
  replace hsw0 := Lib.hid hsw0
  with_reducible refine (HS.out _).mono ?_
  rintro e w2 ⟨rfl, hb2⟩
  have HBx2 := Lib.hid (HBw0.out.below hb2 hlw0)
  have HB2 := Lib.hid (HLw0.out.trans (hb2.mono HLw0.out.size))
  clear hb2
  go_wp2_with
    (refine wpList_store_blk rfl 24 (.tmp 8) (.tmp 38) rfl w.heap.size #[.int .i64 s, .int .i64 0, .int .i64 p, .int .i64 (-1), .int .i64 u, .int .i64 (-1), .int .i64 0, .int .i64 (-1), .int .u64 (T : Int)] rfl rfl _ _ HBx2.out (by kernel_rfl) rfl (by simp [Value.oneCell']) ?_
     intro w5 HBz5 hon5
     have HZ5 := Lib.hid HBz5
     have HB5 := Lib.hid (hon5.below HB2.out (Nat.le_refl _))
     clear HBz5 hon5)
  refine bodyPost_ret (v := .tuple #[.agg #[.int .i64 s, .int .i64 0, .int .i64 p, .int .i64 (-1), .int .i64 u, .int .i64 (-1), .int .i64 0, .int .i64 (-1), .int .u64 (T : Int)], .int .i64 0]) (results_cell_row_tmp rfl _ _ w.heap.size 24 _ _ _ rfl rfl HZ5.out Try.underlying24 rfl (by kernel_rfl)) rfl ?_
  exact ⟨rfl, HB5.out⟩
end Go.Proofs.Ythlhphifibldnaa
