/-
  Right of the reference of chapter 25, walked (2).
-/
import Derived.Test.YthlhphifibldnaaCodecV
import Derived.Test.YthlhphifibldnaaSealK
import Derived.Test.YthlhphifibldnaaMedN
import Derived.Deep.Light
import Derived.Test.YthlhphifibldnaaMedQ
namespace Go.Proofs.Ythlhphifibldnaa
open Go.RowKit

set_option maxRecDepth 100000 in
set_option maxHeartbeats 4000000 in
theorem rright_no (m : Med) (w : World) (h : ¬ RangeM m) : Calls Try.prog 12 #[.agg #[.int .i64 m.ser, .int .i64 m.cnt, .int .i64 m.prd, .int .i64 m.fst, .int .i64 m.lft, .int .i64 m.tdy, .int .i64 m.lif, .int .i64 m.at_, .int .u64 m.tag]] w fun e w' => e = .returned (.int .i64 2) ∧ Below w.heap.size w w' := by
  obtain ⟨ser, cnt, prd, fst, lft, tdy, lif, at_, tag⟩ := m
  have HN := Lib.hid h
  clear h
  rcases (show ser < 1 ∨ 1 ≤ ser by omega) with h1 | h1
  · go_enter Try.func12, Try.ntmps12
    go_wp2
    go_ret
    exact ⟨rfl, (Below.refl _ _).alloc (Nat.le_refl _) _⟩
  rcases (show 9999 < ser ∨ ser ≤ 9999 by omega) with h2 | h2
  · go_enter Try.func12, Try.ntmps12
    go_wp2
    go_ret
    exact ⟨rfl, (Below.refl _ _).alloc (Nat.le_refl _) _⟩
  rcases (show prd < 1 ∨ 1 ≤ prd by omega) with h3 | h3
  · go_enter Try.func12, Try.ntmps12
    go_wp2
    go_ret
    exact ⟨rfl, (Below.refl _ _).alloc (Nat.le_refl _) _⟩
  rcases (show 9999 < prd ∨ prd ≤ 9999 by omega) with h4 | h4
  · go_enter Try.func12, Try.ntmps12
    go_wp2
    go_ret
    exact ⟨rfl, (Below.refl _ _).alloc (Nat.le_refl _) _⟩
  rcases (show cnt < 0 ∨ 0 ≤ cnt by omega) with h5 | h5
  · go_enter Try.func12, Try.ntmps12
    go_wp2
    go_ret
    exact ⟨rfl, (Below.refl _ _).alloc (Nat.le_refl _) _⟩
  rcases (show 1000000 < cnt ∨ cnt ≤ 1000000 by omega) with h6 | h6
  · go_enter Try.func12, Try.ntmps12
    go_wp2
    go_ret
    exact ⟨rfl, (Below.refl _ _).alloc (Nat.le_refl _) _⟩
  rcases (show fst < -1 ∨ -1 ≤ fst by omega) with h7 | h7
  · go_enter Try.func12, Try.ntmps12
    go_wp2
    go_ret
    exact ⟨rfl, (Below.refl _ _).alloc (Nat.le_refl _) _⟩
  rcases (show 20000000 < fst ∨ fst ≤ 20000000 by omega) with h8 | h8
  · go_enter Try.func12, Try.ntmps12
    go_wp2
    go_ret
    exact ⟨rfl, (Below.refl _ _).alloc (Nat.le_refl _) _⟩
  exact rright_no2 ⟨ser, cnt, prd, fst, lft, tdy, lif, at_, tag⟩ w h1 h2 h3 h4 h5 h6 h7 h8 HN.out
set_option maxRecDepth 100000 in
set_option maxHeartbeats 4000000 in
theorem rright_yes (m : Med) (w : World) (h : RangeM m) : Calls Try.prog 12 #[.agg #[.int .i64 m.ser, .int .i64 m.cnt, .int .i64 m.prd, .int .i64 m.fst, .int .i64 m.lft, .int .i64 m.tdy, .int .i64 m.lif, .int .i64 m.at_, .int .u64 m.tag]] w (IsErr m w) := by
  obtain ⟨ser, cnt, prd, fst, lft, tdy, lif, at_, tag⟩ := m
  have HRM := Lib.hid h
  obtain ⟨h1, h2, h3, h4, h5, h6, h7, h8, h9, h10, h11, h12, h13, h14, h15, h16⟩ := h
  simp only at h1 h2 h3 h4 h5 h6 h7 h8 h9 h10 h11 h12 h13 h14 h15 h16
  go_enter Try.func12, Try.ntmps12
  go_wp2
  all_goals
    go_ret
    refine isErr ⟨ser, cnt, prd, fst, lft, tdy, lif, at_, tag⟩ _ _ _ ?_ ((Below.refl _ _).alloc (Nat.le_refl _) _)
    go_light
    try simp only [beq_iff_eq, bne_iff_ne, beq_eq_false_iff_ne, bne_eq_false_iff_eq, ne_eq] at *
    first
    | (refine RightE.r10 HRM.out ?_; rintro ⟨a1, a2, a3⟩; simp only at a1 a2 a3; omega)
    | (refine RightE.r0 HRM.out ?_; simp only [StateM]; omega)
theorem rright_any (m : Med) (w : World) : Calls Try.prog 12 #[.agg #[.int .i64 m.ser, .int .i64 m.cnt, .int .i64 m.prd, .int .i64 m.fst, .int .i64 m.lft, .int .i64 m.tdy, .int .i64 m.lif, .int .i64 m.at_, .int .u64 m.tag]] w (IsErr m w) := by
  by_cases h : RangeM m
  · exact rright_yes m w h
  · exact (rright_no m w h).mono fun e w' ⟨he, hb⟩ => ⟨2, he, RightE.r2 h, hb⟩
end Go.Proofs.Ythlhphifibldnaa
