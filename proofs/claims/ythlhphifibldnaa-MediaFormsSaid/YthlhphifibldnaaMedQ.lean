/-
  Right of the reference of chapter 25, walked.
-/
import Derived.Test.YthlhphifibldnaaCodecV
import Derived.Test.YthlhphifibldnaaSealK
import Derived.Test.YthlhphifibldnaaMedN
import Derived.Deep.Light
import Derived.Test.YthlhphifibldnaaMedR
namespace Go.Proofs.Ythlhphifibldnaa
open Go.RowKit

set_option maxRecDepth 100000 in
set_option maxHeartbeats 4000000 in
theorem rright_no2 (m : Med) (w : World) (h1 : 1 ≤ m.ser) (h2 : m.ser ≤ 9999) (h3 : 1 ≤ m.prd) (h4 : m.prd ≤ 9999) (h5 : 0 ≤ m.cnt) (h6 : m.cnt ≤ 1000000) (h7 : -1 ≤ m.fst) (h8 : m.fst ≤ 20000000) (h : ¬ RangeM m) : Calls Try.prog 12 #[.agg #[.int .i64 m.ser, .int .i64 m.cnt, .int .i64 m.prd, .int .i64 m.fst, .int .i64 m.lft, .int .i64 m.tdy, .int .i64 m.lif, .int .i64 m.at_, .int .u64 m.tag]] w fun e w' => e = .returned (.int .i64 2) ∧ Below w.heap.size w w' := by
  obtain ⟨ser, cnt, prd, fst, lft, tdy, lif, at_, tag⟩ := m
  have HN := Lib.hid h
  clear h
  simp only at h1 h2 h3 h4 h5 h6 h7 h8
  rcases (show at_ < -1 ∨ -1 ≤ at_ by omega) with h9 | h9
  · go_enter Try.func12, Try.ntmps12
    go_wp2
    go_ret
    exact ⟨rfl, (Below.refl _ _).alloc (Nat.le_refl _) _⟩
  rcases (show 20000000 < at_ ∨ at_ ≤ 20000000 by omega) with h10 | h10
  · go_enter Try.func12, Try.ntmps12
    go_wp2
    go_ret
    exact ⟨rfl, (Below.refl _ _).alloc (Nat.le_refl _) _⟩
  rcases (show lft < 0 ∨ 0 ≤ lft by omega) with h11 | h11
  · go_enter Try.func12, Try.ntmps12
    go_wp2
    go_ret
    exact ⟨rfl, (Below.refl _ _).alloc (Nat.le_refl _) _⟩
  rcases (show 100 < lft ∨ lft ≤ 100 by omega) with h12 | h12
  · go_enter Try.func12, Try.ntmps12
    go_wp2
    go_ret
    exact ⟨rfl, (Below.refl _ _).alloc (Nat.le_refl _) _⟩
  rcases (show tdy < -1 ∨ -1 ≤ tdy by omega) with h13 | h13
  · go_enter Try.func12, Try.ntmps12
    go_wp2
    go_ret
    exact ⟨rfl, (Below.refl _ _).alloc (Nat.le_refl _) _⟩
  rcases (show 231 < tdy ∨ tdy ≤ 231 by omega) with h14 | h14
  · go_enter Try.func12, Try.ntmps12
    go_wp2
    go_ret
    exact ⟨rfl, (Below.refl _ _).alloc (Nat.le_refl _) _⟩
  rcases (show lif < 0 ∨ 0 ≤ lif by omega) with h15 | h15
  · go_enter Try.func12, Try.ntmps12
    go_wp2
    go_ret
    exact ⟨rfl, (Below.refl _ _).alloc (Nat.le_refl _) _⟩
  rcases (show 9999 < lif ∨ lif ≤ 9999 by omega) with h16 | h16
  · go_enter Try.func12, Try.ntmps12
    go_wp2
    go_ret
    exact ⟨rfl, (Below.refl _ _).alloc (Nat.le_refl _) _⟩
  exact (HN.out ⟨h1, h2, h3, h4, h5, h6, h7, h8, h9, h10, h11, h12, h13, h14, h15, h16⟩).elim
end Go.Proofs.Ythlhphifibldnaa
