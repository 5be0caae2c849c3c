/-
  Searches of lists of numbers, walked.
-/
import Derived.Test.YtbegehooefhiiaaChecked
import Derived.Test.YtbegehooefhiiaaHasN
import Derived.Test.YtbegehooefhiiaaStV
import Derived.BigQuiet
import Derived.Deep.Light
import Derived.IntWalk
namespace Go.Proofs.Ytbegehooefhiiaa
open Go.RowKit

theorem ret_i {k : IntKind} {a b : Int} (h : a = b) : Ending.returned (.int k a) = .returned (.int k b) := by rw [h]
theorem ret_bo {a b : Bool} (h : a = b) : Ending.returned (.bool a) = .returned (.bool b) := by rw [h]
set_option maxRecDepth 100000 in
set_option maxHeartbeats 1000000 in
theorem index_any (A : Option Addr) (n c B : Nat) (l : List Int) (x : Int) (w : World) (hr : Ints w B A n l) (hn : n ≤ maxLen) :
    Calls Try.prog 29 #[.slice A n c, .int .i64 x] w fun e w' => e = .returned (.int .i64 (indI l x)) ∧ w = w' := by
  unfold maxLen at hn
  have HR := Lib.hid hr
  have HL := Lib.hid hr.ilen
  clear hr
  go_enter Try.func29, Try.ntmps29
  go_wp2_with fail
  go_loop [8] (fun i => ∃ k : Nat, k ≤ n ∧ i = .int .i64 k ∧ indI l x = idxF (fun y => y == x) (l.drop k) k) (fun i => n - (intOf i).toNat)
  case atStart => exact ⟨0, by omega, rfl, rfl⟩
  case round =>
    obtain ⟨k, hk, rfl, hno⟩ := hrel
    have HNo := Lib.hid hno
    clear hno
    by_cases hlt : k < n
    · obtain ⟨ad, rfl, _, hc⟩ := HR.out.int hlt
      have HY : Hid ((l.getD k 0 == x) = true → indI l x = (k : Int)) := fun h => HNo.out.trans (idxF_yes (by rw [HL.out]; exact hlt) h)
      have HN : Hid ((l.getD k 0 == x) = false → indI l x = idxF (fun y => y == x) (l.drop (k + 1)) (k + 1)) := fun h => HNo.out.trans (idxF_no (by rw [HL.out]; exact hlt) h)
      generalize l.getD k 0 = y at *
      by_cases hxy : x = y
      · have HF := Lib.hid (HY.out (by rw [hxy]; exact beq_self_eq_true _))
        have d1 : (x == y) = true := beq_iff_eq.2 hxy
        clear hxy
        go_wp2_with fail
        go_ret
        exact ⟨ret_i HF.out.symm, rfl⟩
      · have d1 : (x == y) = false := beq_eq_false_iff_ne.2 hxy
        have HF := Lib.hid (HN.out (beq_eq_false_iff_ne.2 (Ne.symm hxy)))
        clear hxy
        go_wp2_with fail
        go_round
        case rel => exact ⟨k + 1, by omega, by go_num, HF.out⟩
        case measure => simp [intOf]; omega
    · obtain rfl : k = n := by omega
      have HF : Hid (indI l x = -1) := by have h := HNo.out; rw [List.drop_of_length_le (by rw [HL.out]; exact Nat.le_refl _)] at h; exact hide h
      go_wp2_with fail
      go_ret
      exact ⟨ret_i HF.out.symm, rfl⟩
set_option maxRecDepth 100000 in
set_option maxHeartbeats 1000000 in
theorem contains_any (A : Option Addr) (n c B : Nat) (l : List Int) (x : Int) (b : Bool) (w : World) (hr : Ints w B A n l) (hn : n ≤ maxLen) (hb : l.contains x = b) :
    Calls Try.prog 22 #[.slice A n c, .int .i64 x] w fun e w' => e = .returned (.bool b) ∧ w = w' := by
  have HB : Hid (decide (0 ≤ indI l x) = b) := hide (by rw [← hb]; exact (contains_ind l x 0).symm)
  have HC := Lib.hid (index_any A n c B l x w hr hn)
  clear hb hr
  generalize indI l x = r at *
  go_enter Try.func22, Try.ntmps22
  go_wp2_with fail
  with_reducible refine HC.out.mono ?_
  rintro e w' ⟨rfl, rfl⟩
  go_wp2_with fail
  go_ret
  exact ⟨ret_bo HB.out, rfl⟩
end Go.Proofs.Ytbegehooefhiiaa
