/-
  Right of chapter 25 and of its reference, walked.
-/
import Derived.Test.YthlhphifibldnaaCodecV
import Derived.Test.YthlhphifibldnaaSealK
import Derived.Test.YthlhphifibldnaaMedN
import Derived.Deep.Light
namespace Go.Proofs.Ythlhphifibldnaa
open Go.RowKit

def IsErr (m : Med) (w : World) (e : Ending) (w' : World) : Prop := ∃ r : Int, e = .returned (.int .i64 r) ∧ RightE m r ∧ Below w.heap.size w w'
theorem isErr (m : Med) (w w' : World) (r : Int) (h : RightE m r) (hb : Below w.heap.size w w') : IsErr m w (.returned (.int .i64 r)) w' := ⟨r, rfl, h, hb⟩

set_option maxRecDepth 100000 in
set_option maxHeartbeats 1000000 in
theorem mright_any (m : Med) (w : World) : Calls Try.prog 11 #[.agg #[.int .i64 m.ser, .int .i64 m.cnt, .int .i64 m.prd, .int .i64 m.fst, .int .i64 m.lft, .int .i64 m.tdy, .int .i64 m.lif, .int .i64 m.at_, .int .u64 m.tag]] w (IsErr m w) := by
  obtain ⟨ser, cnt, prd, fst, lft, tdy, lif, at_, tag⟩ := m
  go_enter Try.func11, Try.ntmps11
  go_wp2
  all_goals
    go_ret
    refine isErr ⟨ser, cnt, prd, fst, lft, tdy, lif, at_, tag⟩ _ _ _ ?_ ((Below.refl _ _).alloc (Nat.le_refl _) _)
    go_light
    try simp only [beq_iff_eq, bne_iff_ne, beq_eq_false_iff_ne, bne_eq_false_iff_eq, ne_eq] at *
    first
    | (refine RightE.r2 ?_; rintro ⟨a1, a2, a3, a4, a5, a6, a7, a8, a9, a10, a11, a12, a13, a14, a15, a16⟩; simp only at a1 a2 a3 a4 a5 a6 a7 a8 a9 a10 a11 a12 a13 a14 a15 a16; omega)
    | (refine RightE.r10 ?_ ?_
       · simp only [RangeM]; omega
       · rintro ⟨a1, a2, a3⟩; simp only at a1 a2 a3; omega)
    | (refine RightE.r0 ?_ ?_
       · simp only [RangeM]; omega
       · simp only [StateM]; omega)
end Go.Proofs.Ythlhphifibldnaa
