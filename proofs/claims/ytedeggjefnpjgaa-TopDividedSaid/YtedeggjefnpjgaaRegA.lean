/-
  In a region that draws its order: a struct is loaded out of a slice. Over any program.
-/
import Derived.Test.YtedeggjefnpjgaaReg
namespace Go.Proofs.Ytedeggjefnpjgaa
open Go.RowKit

theorem run_load_at {P : Program} {w : World} (ty : TypeId) (p : Addr) (cs : List Value) (hc : ∀ j u, cs[j]? = some u → w.cell? (p.add j) = some u) (d : TypeDesc)
    (hu : P.underlying ty = some d) (hd : (match d with | .struct _ | .array _ _ => true | _ => false) = true) (hi : (P.info? ty).map (·.size) = some cs.length) :
    (loadVar ty p).run P w = .ok (.agg cs.toArray) w := by
  cases hq : P.info? ty with
  | none => rw [hq] at hi; cases hi
  | some i =>
    have hs : i.size = cs.length := by simpa [hq] using hi
    have hl : (loadCells p cs.length).run P w = .ok cs.toArray w := run_loadCells_list (P := P) w p cs hc
    have hagg : (isAgg ty).run P w = .ok true w := by
      unfold isAgg
      rw [Sem.run_bind, run_underlying hu w]
      cases d <;> simp_all
    simp [loadVar, Sem.run_bind, hagg, sizeOf, typeInfo, hq, hs, hl]
section
variable {P : Program} {ops : Array Oper} {Q : Exit → Act → World → Prop} {md : Region.Mode} {S : World → Prop} {fuel : Nat} {listed : Array Bool} {a : Act} {w : World}
theorem held_load_at (i : Nat) (d : Option Tmp) (ty : TypeId) (x : Operand) (hi : opFacts ops a i = some (d, .load ty x, true)) (hs : Region.noSelect ops = true) (hf : Region.free md ops listed i = true)
    (hr : (Region.ready md ops listed).contains i = true) (p : Addr) (cs : List Value) (hQ : ∀ c a w, Q (.panic c) (a.put d (.agg cs.toArray)) w → Q (.panic c) a w) (hx : a.eval x = .pointer (some p))
    (hc : ∀ w, S w → ∀ j u, cs[j]? = some u → w.cell? (p.add j) = some u) (dsc : TypeDesc) (hu : P.underlying ty = some dsc) (hd : (match dsc with | .struct _ | .array _ _ => true | _ => false) = true) (hn : (P.info? ty).map (·.size) = some cs.length) (hS : S w)
    (h : wpAnyH P md ops Q S fuel (listed.setIfInBounds i true) (a.put d (.agg cs.toArray)) w) : wpAnyH P md ops Q S (fuel + 1) listed a w := by
  refine held_run i d (.load ty x) (.agg cs.toArray) hi hs hf hr hQ (fun o ho w hw => ?_) hS h
  unfold execOp
  simp only [ho, hx, Instr.loadAt, Instr.sureAddr, Sem.run_bind, Sem.run_pure, Result.andThen_ok, run_load_at ty p cs (hc w hw) dsc hu hd hn]
end
end Go.Proofs.Ytedeggjefnpjgaa
