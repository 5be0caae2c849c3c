/-
  An operation of a drawn region that yields its value in the world at hand: over any program.
-/
import Derived.Test.YtihmboibpjfohaaRegC
namespace Go.Proofs.Ytihmboibpjfohaa
open Go.RowKit

theorem op_yield {P : Program} {ops : Array Oper} {Q : Exit → Act → World → Prop} {a : Act} {w : World} {K : Act → World → Prop} (i : Nat) (d : Option Tmp) (op : Op) (v : Value) (hi : opFacts ops a i = some (d, op, true))
    (hrun : ∀ o : Oper, o.op = op → (execOp a.eval o).run P w = .ok (.value v) w) (h : K (a.put d v) w) : wpOp P ops Q i K a w := by
  refine op_go i d op hi fun o hd hop K' hK => ?_
  unfold Oper.wp
  rw [hrun o hop, Oper.upon_value, hd]
  exact hK _ _ h
end Go.Proofs.Ytihmboibpjfohaa
