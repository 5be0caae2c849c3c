/-
  Chapter 29: the closure that recovers, in scan of the program, walked.
-/
import Derived.Test.YtdmkkpnjakdnnaaJouH
import Derived.Test.YtdmkkpnjakdnnaaRegP
import Derived.Defers
import Derived.Recover
namespace Go.Proofs.Ytdmkkpnjakdnnaa
open Go.RowKit

theorem catch_panicking (p1 p2 p3 : Addr) (w : World) :
    CallsD Try.prog 40 #[.pointer (some p1), .pointer (some p2), .pointer (some p3)] (.panicking [{ v := .iface 59 (.agg #[]), recovered := false }]) w fun e u' w' =>
      e = .returned (.tuple #[]) ∧ u' = .panicking [{ v := .iface 59 (.agg #[]), recovered := true }] ∧ Below w.heap.size w w' := by
  refine callsD_of_wpS Try.func40 rfl fun c₀ cs hu => ?_
  simp only [Try.ntmps40, List.size_toArray, List.length_cons, List.length_nil, Nat.reduceAdd, Nat.reduceSub, Array.replicate_succ, Array.replicate_zero, List.push_toArray, List.append_toArray, List.nil_append, List.cons_append]
  apply wpS_seq
  apply wpS_region
  simp [wpOpsS, go_sem, recoverD, hu, Exit.thenS]
  refine wpS_of_wp ?_
  have hta : ∀ W : World, (Instr.typeAssert (.iface 59 (.agg #[])) 20 59 true).run Try.prog W = .ok (.tuple #[.agg #[], .bool true]) W := fun W => by show _ = _; kernel_rfl
  go_wp2_with fail
  exact ⟨rfl, .panicking [{ v := .iface 59 (.agg #[]), recovered := true }], rfl, .tuple #[], results_none rfl _ _ _, rfl, rfl, below_new w _⟩
theorem catch_idle (p1 p2 p3 : Addr) (w : World) :
    CallsD Try.prog 40 #[.pointer (some p1), .pointer (some p2), .pointer (some p3)] .returning w fun e u' w' =>
      e = .returned (.tuple #[]) ∧ u' = .returning ∧ w' = w := by
  refine callsD_of_wpS Try.func40 rfl fun c₀ cs hu => ?_
  simp only [Try.ntmps40, List.size_toArray, List.length_cons, List.length_nil, Nat.reduceAdd, Nat.reduceSub, Array.replicate_succ, Array.replicate_zero, List.push_toArray, List.append_toArray, List.nil_append, List.cons_append]
  apply wpS_seq
  apply wpS_region
  simp [wpOpsS, go_sem, recoverD, hu, Exit.thenS]
  refine wpS_of_wp ?_
  go_wp2_with fail
  exact ⟨rfl, .returning, by cases c₀; simp_all, .tuple #[], results_none rfl _ _ _, rfl, rfl, rfl⟩
end Go.Proofs.Ytdmkkpnjakdnnaa
