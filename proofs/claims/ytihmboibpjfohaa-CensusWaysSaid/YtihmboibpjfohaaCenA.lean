/-
  Chapter 55: the ranges of a crossing, by how much it changes the number; of the program and of its reference, walked.
-/
import Derived.Test.YtihmboibpjfohaaChecked
import Derived.Test.YtihmboibpjfohaaCenN
import Derived.Test.YtihmboibpjfohaaStV
import Derived.Test.YtihmboibpjfohaaStrO
import Derived.Test.YtihmboibpjfohaaRegC
namespace Go.Proofs.Ytihmboibpjfohaa
open Go.RowKit

theorem ret_int {k : IntKind} {a b : Int} (h : a = b) : Ending.returned (.int k a) = .returned (.int k b) := by rw [h]
theorem ret_b {a b : Bool} (h : a = b) : Ending.returned (.bool a) = .returned (.bool b) := by rw [h]
abbrev Cr.cells (r : Cr) : List Value := [.int .i64 r.kind, .int .i64 r.plc, .int .i64 r.num, .int .i64 r.att]
theorem inC_iff (kd pl nm at_ : Int) (b : Bool) (h : b = inC ⟨kd, pl, nm, at_⟩) : b = decide (1 ≤ kd ∧ kd ≤ 3 ∧ 1 ≤ pl ∧ pl ≤ 9999 ∧ 1 ≤ nm ∧ nm ≤ 1000 ∧ 0 ≤ at_ ∧ at_ ≤ 20000000) := h

set_option maxRecDepth 100000 in
theorem inRange_any (kd pl nm at_ : Int) (w : World) :
    Calls Try.prog 30 #[.agg #[.int .i64 kd, .int .i64 pl, .int .i64 nm, .int .i64 at_]] w fun e w' => e = .returned (.bool (inC ⟨kd, pl, nm, at_⟩)) ∧ Below w.heap.size w w' := by
  obtain ⟨ok, hok⟩ : ∃ x, inC ⟨kd, pl, nm, at_⟩ = x := ⟨_, rfl⟩
  have HOk := Lib.hid (inC_iff _ _ _ _ _ hok.symm)
  rw [hok]
  clear hok
  go_enter Try.func30, Try.ntmps30
  go_wp2_with fail
  all_goals (go_ret; refine ⟨ret_b ?_, below_new _ _⟩; rw [HOk.out]; clear HOk; simp [*] <;> omega)

theorem change_any (kd pl nm at_ : Int) (w : World) (hn : -1000 ≤ nm ∧ nm ≤ 1000) :
    Calls Try.prog 31 #[.agg #[.int .i64 kd, .int .i64 pl, .int .i64 nm, .int .i64 at_]] w fun e w' => e = .returned (.int .i64 (chC ⟨kd, pl, nm, at_⟩)) ∧ Below w.heap.size w w' := by
  have HC : Hid (chC ⟨kd, pl, nm, at_⟩ = if kd = 1 then nm else -nm) := hide rfl
  generalize chC ⟨kd, pl, nm, at_⟩ = ch at *
  go_enter Try.func31, Try.ntmps31
  by_cases g1 : kd = 1
  · have d1 : (kd == 1) = true := beq_iff_eq.2 g1
    go_wp2_with fail
    go_ret
    exact ⟨ret_int (by rw [HC.out, if_pos g1]), below_new _ _⟩
  · have d1 : (kd == 1) = false := beq_eq_false_iff_ne.2 g1
    go_wp2_with fail
    go_ret
    exact ⟨ret_int (by rw [HC.out, if_neg g1]), below_new _ _⟩
theorem rchange_any (kd pl nm at_ : Int) (w : World) (hn : -1000 ≤ nm ∧ nm ≤ 1000) :
    Calls Try.prog 32 #[.agg #[.int .i64 kd, .int .i64 pl, .int .i64 nm, .int .i64 at_]] w fun e w' => e = .returned (.int .i64 (chC ⟨kd, pl, nm, at_⟩)) ∧ Below w.heap.size w w' := by
  have HC : Hid (chC ⟨kd, pl, nm, at_⟩ = if kd = 1 then nm else -nm) := hide rfl
  generalize chC ⟨kd, pl, nm, at_⟩ = ch at *
  go_enter Try.func32, Try.ntmps32
  by_cases g1 : kd = 1
  · have d1 : (kd == 1) = true := beq_iff_eq.2 g1
    go_wp2_with fail
    go_ret
    exact ⟨ret_int (by rw [HC.out, if_pos g1]), below_new _ _⟩
  · have d1 : (kd == 1) = false := beq_eq_false_iff_ne.2 g1
    go_wp2_with fail
    go_ret
    exact ⟨ret_int (by rw [HC.out, if_neg g1]), below_new _ _⟩
end Go.Proofs.Ytihmboibpjfohaa
