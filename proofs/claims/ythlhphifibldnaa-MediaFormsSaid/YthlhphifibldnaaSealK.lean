/-
  Keys of chapter 4, walked.
-/
import Derived.Test.YthlhphifibldnaaSealB
namespace Go.Proofs.Ythlhphifibldnaa
open Go.RowKit

theorem u64_lo (z : Int) : 0 ≤ IntKind.u64.wrap z := by rw [IntKind.wrap_u64]; omega
theorem u64_hi (z : Int) : IntKind.u64.wrap z < 18446744073709551616 := by rw [IntKind.wrap_u64]; omega
theorem key_mod (m i c y : Nat) (hy : i * c = y) : (((m : Int) + (i : Int) * (c : Int) % 18446744073709551616) % 18446744073709551616).toNat = (m + y) % 18446744073709551616 := by
  subst hy
  rw [← Int.natCast_mul]
  omega
theorem key_form (m : Nat) (id : Int) : mixN (IntKind.u64.wrap ((m : Int) + IntKind.u64.wrap (IntKind.u64.wrap id * 11400714819323198485))).toNat = keyN m id := by
  unfold keyN
  refine congrArg mixN ?_
  simp only [IntKind.wrap_u64]
  have h : (id % 18446744073709551616) = (((id % 18446744073709551616).toNat : Nat) : Int) := by omega
  rw [h, Int.toNat_natCast]
  exact key_mod m _ 11400714819323198485 _ rfl

set_option maxHeartbeats 400000 in
theorem key_any (m : Nat) (id : Int) (w : World) :
    Calls Try.prog 30 #[.int .u64 (m : Int), .int .i64 id] w fun e w' => e = .returned (.int .u64 ((keyN m id : Nat) : Int)) ∧ w = w' := by
  go_enter Try.func30, Try.ntmps30
  go_wp2_with fail
  refine (mix_any _ (u64_lo _) (u64_hi _) _).mono ?_
  rintro e w' ⟨rfl, rfl⟩
  go_wp2
  go_ret
  exact ⟨ret_int (by rw [key_form]), rfl⟩

set_option maxHeartbeats 400000 in
theorem rkey_any (m : Nat) (id : Int) (w : World) :
    Calls Try.prog 43 #[.int .u64 (m : Int), .int .i64 id] w fun e w' => e = .returned (.int .u64 ((keyN m id : Nat) : Int)) ∧ w = w' := by
  go_enter Try.func43, Try.ntmps43
  go_wp2_with fail
  refine (rmix_any _ (u64_lo _) (u64_hi _) _).mono ?_
  rintro e w' ⟨rfl, rfl⟩
  go_wp2
  go_ret
  exact ⟨ret_int (by rw [key_form]), rfl⟩

end Go.Proofs.Ythlhphifibldnaa
