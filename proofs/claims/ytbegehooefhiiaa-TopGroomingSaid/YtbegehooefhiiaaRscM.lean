/-
  slices.Max, walked.
-/
import Derived.Test.YtbegehooefhiiaaHasR
import Derived.Test.YtbegehooefhiiaaRscN
namespace Go.Proofs.Ytbegehooefhiiaa
open Go.RowKit

set_option maxRecDepth 100000 in
set_option maxHeartbeats 1000000 in
theorem max_any (A : Option Addr) (n c B : Nat) (l : List Int) (w : World) (hr : Ints w B A n l) (h1 : 1 ≤ n) (hn : n ≤ 1000) :
    Calls Try.prog 28 #[.slice A n c] w fun e w' => e = .returned (.int .i64 (mx l)) ∧ w = w' := by
  have HR := Lib.hid hr
  have HL := Lib.hid hr.ilen
  have HM1 := Lib.hid (mx_one l (by rw [hr.ilen]; exact h1))
  have HMs : Hid (∀ k, 1 ≤ k → k < n → mx (l.take (k + 1)) = if mx (l.take k) < l.getD k 0 then l.getD k 0 else mx (l.take k)) := hide (fun k hk1 hk => mx_succ l k hk1 (by rw [hr.ilen]; exact hk))
  have HMe : Hid (mx (l.take n) = mx l) := hide (by rw [List.take_of_length_le (by rw [hr.ilen]; exact Nat.le_refl _)])
  obtain ⟨ad0, e0, _, hc0⟩ := hr.int (show 0 < n by omega)
  subst e0
  clear hr
  generalize mx l = M at *
  generalize l.getD 0 0 = x0 at *
  have hc0' : w.cell? ad0 = some (.int .i64 x0) := hc0
  clear hc0
  go_enter Try.func28, Try.ntmps28
  go_wp2_with fail
  go_loop [3, 4] (fun m i => ∃ (k : Nat) (x : Int), 1 ≤ k ∧ k ≤ n ∧ i = .int .i64 k ∧ m = .int .i64 x ∧ mx (l.take k) = x) (fun _ i => n - (intOf i).toNat)
  case atStart => exact ⟨1, x0, by omega, by omega, rfl, rfl, HM1.out⟩
  case round =>
    obtain ⟨k, x, hk1, hk, rfl, rfl, hx⟩ := hrel
    have HX := Lib.hid hx
    clear hx
    by_cases hlt : k < n
    · obtain ⟨ad, e, _, hc⟩ := HR.out.int hlt
      cases e
      have HS := Lib.hid (HMs.out k hk1 hlt)
      rw [HX.out] at HS
      generalize l.getD k 0 = y at *
      by_cases hxy : x < y
      · go_wp2
        go_round
        case rel => exact ⟨k + 1, y, by omega, by omega, by go_num, by go_num, by rw [HS.out, if_pos hxy]⟩
        case measure => simp [intOf]; omega
      · go_wp2
        go_round
        case rel => exact ⟨k + 1, x, by omega, by omega, by go_num, by go_num, by rw [HS.out, if_neg hxy]⟩
        case measure => simp [intOf]; omega
    · obtain rfl : k = n := by omega
      have HF : Hid (x = M) := hide (by rw [← HX.out, HMe.out])
      go_wp2
      go_ret
      exact ⟨ret_i HF.out, rfl⟩
end Go.Proofs.Ytbegehooefhiiaa
