/-
  The mountain of the law of chapter 55, walked; what Egress answers there.
-/
import Derived.Test.YtihmboibpjfohaaCenQ
import Derived.Test.YtihmboibpjfohaaLitM
namespace Go.Proofs.Ytihmboibpjfohaa
open Go.RowKit

def mNd : List Nd := [⟨1, 1000⟩, ⟨2, 1500⟩, ⟨3, 2000⟩]
def mRn : List Rn := [⟨1, 1, 3, 2, 1, 1, 100⟩, ⟨2, 1, 2, 1, 4, 1, 100⟩]
set_option maxRecDepth 100000 in
set_option maxHeartbeats 4000000 in
theorem mountain_any (w : World) : Calls Try.prog 28 #[] w fun e w' => ∃ vn vr vb, e = .returned (.agg #[vn, .slice none 0 0, vr, vb]) ∧ StrV Nd.cells 2 w' w'.heap.size vn mNd ∧
    StrV Rn.cells 7 w' w'.heap.size vr mRn ∧ RowV w' w'.heap.size vb [1] ∧ Below w.heap.size w w' := by
  go_enter Try.func28, Try.ntmps28
  go_wp2_with
    (refine wpList_store_blk rfl 44 (.tmp 0) (.tmp 9) rfl w.heap.size _ rfl rfl 44 #[.slice none 0 0, .slice none 0 0, .slice none 0 0, .slice none 0 0] (by exact ((((Blk.new w 44 #[.slice none 0 0, .slice none 0 0, .slice none 0 0, .slice none 0 0]).alloc _).alloc _).alloc _)) (by kernel_rfl) rfl (by simp [Value.oneCell']) ?_
     intro w2 hx2 hon2
     have HX2 := Lib.hid hx2
     have HO2 := Lib.hid hon2
     clear hx2 hon2)
  refine bodyPost_ret (results_cell_row rfl _ _ w.heap.size 44 _ (0, 0) _ rfl HX2.out Try.underlying44 rfl (by kernel_rfl)) rfl ?_
  refine ⟨_, _, _, rfl, ?_, ?_, ?_, ?_⟩
  · exact strV_only HO2.out (by simp) (((lit_str Nd.cells 2 _ _ _ mNd 3 _ rfl rfl rfl (by decide) (by simp)).alloc' _).alloc' _)
  · exact strV_only HO2.out (by simp; try omega) ((lit_str Rn.cells 7 _ _ _ mRn 2 _ rfl rfl rfl (by decide) (by simp)).alloc' _)
  · exact rowV_only HO2.out (by simp; try omega) (lit_row _ _ _ [1] 1 _ rfl rfl (by decide) (by simp))
  · refine HO2.out.below (below_alloc' (below_alloc' (below_alloc' (below_new w _) ?_ _) ?_ _) ?_ _) (Nat.le_refl _) <;> (simp; try omega)

theorem eg_one : EgV mNd mRn [1] [1, 2] 3 500 := by
  unfold EgV
  rw [if_pos (by decide)]
  refine ⟨[500, 500, 500], fun v => decide (v = 3 ∨ v = 2), ⟨by decide, fun i e x he hx => ?_, fun v h1 h2 => ?_⟩, by decide, by decide, by decide, fun i e x he hx => ?_⟩
  · match i, he, hx with
    | 0, he, hx => cases he; cases hx; decide
    | 1, he, hx => cases he; cases hx; decide
    | 2, he, hx => cases he; cases hx; decide
  · show netN [⟨0, 3, 2, 2000⟩, ⟨1, 2, 1, 500⟩, ⟨2, 1, 0, 1000000⟩] [500, 500, 500] v = 0
    simp only [netN]
    (repeat' split) <;> omega
  · match i, he, hx with
    | 0, he, hx => cases he; cases hx; decide
    | 1, he, hx => cases he; cases hx; decide
    | 2, he, hx => cases he; cases hx; decide
theorem eg_two : EgV mNd mRn [1] [1] 3 0 := by
  unfold EgV
  rw [if_pos (by decide)]
  refine ⟨[0, 0], fun v => decide (v = 3 ∨ v = 2), ⟨by decide, fun i e x he hx => ?_, fun v h1 h2 => ?_⟩, by decide, by decide, by decide, fun i e x he hx => ?_⟩
  · match i, he, hx with
    | 0, he, hx => cases he; cases hx; decide
    | 1, he, hx => cases he; cases hx; decide
  · show netN [⟨0, 3, 2, 2000⟩, ⟨1, 1, 0, 1000000⟩] [0, 0] v = 0
    simp only [netN]
    (repeat' split) <;> omega
  · match i, he, hx with
    | 0, he, hx => cases he; cases hx; decide
    | 1, he, hx => cases he; cases hx; decide
theorem eg_three : EgV mNd mRn [1] [] 1 1000000 := by
  unfold EgV
  rw [if_pos (by decide)]
  refine ⟨[1000000], fun v => decide (v = 1), ⟨by decide, fun i e x he hx => ?_, fun v h1 h2 => ?_⟩, by decide, by decide, by decide, fun i e x he hx => ?_⟩
  · match i, he, hx with
    | 0, he, hx => cases he; cases hx; decide
  · show netN [⟨0, 1, 0, 1000000⟩] [1000000] v = 0
    simp only [netN]
    (repeat' split) <;> omega
  · match i, he, hx with
    | 0, he, hx => cases he; cases hx; decide
theorem eg_ok : EgOK mNd mRn [1] := by
  refine ⟨by decide, by decide, by decide, by decide, fun i h => ?_⟩
  have := hasN_iff.1 h
  simp [mNd] at this
  omega
theorem empty_one : ∀ M, EgV mNd mRn [1] [1, 2] 3 M → emptyV 100 M = 720 := fun M h => by
  rw [← eg_one.unique h]
  decide
end Go.Proofs.Ytihmboibpjfohaa
