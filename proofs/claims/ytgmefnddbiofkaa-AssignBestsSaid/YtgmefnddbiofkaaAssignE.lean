/-
  The table of the reference of chapter 8, walked.
-/
import Derived.Test.YtgmefnddbiofkaaAssignA
import Derived.Test.YtgmefnddbiofkaaBitsN
namespace Go.Proofs.Ytgmefnddbiofkaa
open Go.RowKit

set_option maxHeartbeats 400000 in
theorem taken_any (C s : Nat) (hC : C ≤ 8) (hs : s < 2 ^ C) (w : World) :
    Calls Try.prog 27 #[.int .i64 (s : Int)] w fun e w' => e = .returned (.int .i64 (popC C s : Int)) ∧ w = w' := by
  have h256 : 2 ^ C ≤ 256 := Nat.pow_le_pow_right (show 0 < 2 by omega) hC
  have HS := Lib.hid hs
  have hs256 : s < 256 := by omega
  obtain ⟨T, hT⟩ : ∃ T, T = popC C s := ⟨_, rfl⟩
  have hT8 : T ≤ 8 := by rw [hT]; exact Nat.le_trans (popC_le C s) hC
  have HT := Lib.hid hT
  rw [← hT]
  clear hs h256 hT
  go_enter Try.func27, Try.ntmps27
  go_wp2_with fail
  go_loop [0, 3] (fun x n => ∃ y m : Nat, y < 256 ∧ y < 2 ^ C ∧ x = .int .i64 (y : Int) ∧ n = .int .i64 (m : Int) ∧ m + popC C y = T) (fun x _ => (intOf x).toNat)
  case atStart => exact ⟨s, 0, hs256, HS.out, rfl, rfl, by rw [HT.out]; omega⟩
  case round =>
    obtain ⟨y, m, hy, hyC, rfl, rfl, hm⟩ := hrel
    have HY := Lib.hid hyC
    have hm8 : m ≤ 8 := by omega
    by_cases h0 : 0 < y
    · have HP : Hid (m + y % 2 + popC C (y / 2) = T) := by
        have h := popC_step C y hyC
        exact hide (by omega)
      clear hm hyC
      go_wp2_with fail
      go_round
      case rel => exact ⟨y / 2, m + y % 2, by omega, by have := HY.out; omega, by go_num, by go_num, HP.out⟩
      case measure => simp [intOf]; omega
    · obtain rfl : y = 0 := by omega
      have HP : Hid (m = T) := by
        rw [popC_zero] at hm
        exact hm
      clear hm hyC
      go_wp2_with fail
      go_ret
      exact ⟨ret_int (by rw [HP.out]), rfl⟩
end Go.Proofs.Ytgmefnddbiofkaa
