/-
  Small of chapter 10, walked.
-/
import Derived.Test.YticoeibccdplaaaSwpW
namespace Go.Proofs.Yticoeibccdplaaa
open Go.RowKit

set_option maxRecDepth 100000 in
set_option maxHeartbeats 4000000 in
theorem small_any (w : World) : Calls Try.prog 35 #[] w fun e w' => ∃ vn vl vr vb, e = .returned (.agg #[vn, vl, vr, vb]) ∧ StrV Nd.cells 2 w' w'.heap.size vn sNd ∧ StrV Lf.cells 8 w' w'.heap.size vl sLf ∧ StrV Rn.cells 7 w' w'.heap.size vr sRn ∧ RowV w' w'.heap.size vb [1] ∧ Below w.heap.size w w' := by
  go_enter Try.func35, Try.ntmps35
  go_wp2_with
    (refine wpList_store_blk rfl 27 (.tmp 0) (.tmp 11) rfl w.heap.size _ rfl rfl 27 #[.slice none 0 0, .slice none 0 0, .slice none 0 0, .slice none 0 0] (by exact ((((Blk.new w 27 #[.slice none 0 0, .slice none 0 0, .slice none 0 0, .slice none 0 0]).alloc _).alloc _).alloc _).alloc _) (by kernel_rfl) rfl (by simp [Value.oneCell']) ?_
     intro w2 hx2 hon2
     have HX2 := Lib.hid hx2
     have HO2 := Lib.hid hon2
     clear hx2 hon2)
  refine bodyPost_ret (results_cell_row rfl _ _ w.heap.size 27 _ (0, 0) _ rfl HX2.out Try.underlying27 rfl (by kernel_rfl)) rfl ?_
  refine ⟨_, _, _, _, rfl, ?_, ?_, ?_, ?_, ?_⟩
  · exact strV_only HO2.out (by simp) ((((lit_str Nd.cells 2 _ _ _ sNd 3 _ rfl rfl rfl (by decide) (by simp)).alloc' _).alloc' _).alloc' _)
  · exact strV_only HO2.out (by simp; try omega) (((lit_str Lf.cells 8 _ _ _ sLf 1 _ rfl rfl rfl (by decide) (by simp)).alloc' _).alloc' _)
  · exact strV_only HO2.out (by simp; try omega) ((lit_str Rn.cells 7 _ _ _ sRn 2 _ rfl rfl rfl (by decide) (by simp)).alloc' _)
  · exact rowV_only HO2.out (by simp; try omega) (lit_row _ _ _ [1] 1 _ rfl rfl (by decide) (by simp))
  · refine HO2.out.below (below_alloc' (below_alloc' (below_alloc' (below_alloc' (below_new w _) ?_ _) ?_ _) ?_ _) ?_ _) (Nat.le_refl _) <;> (simp; try omega)
end Go.Proofs.Yticoeibccdplaaa
