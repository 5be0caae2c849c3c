/-
  In a region that draws its order: a call that may panic. Over any program.
-/
import Derived.Test.YtedeggjefnpjgaaRegC
import Derived.Defers
namespace Go.Proofs.Ytedeggjefnpjgaa
open Go.RowKit

section
variable {P : Program} {ops : Array Oper} {Q : Exit → Act → World → Prop} {md : Region.Mode} {S : World → Prop} {fuel : Nat} {listed : Array Bool} {a : Act} {w : World} {K : Act → World → Prop}
theorem op_callp (i : Nat) (d : Option Tmp) (f : FuncId) (args : List Operand) (ts : Array TypeId) (vals : Array Value) (hv : (args.map a.eval).toArray = vals) (hi : opFacts ops a i = some (d, .call { callee := .value (.func f), args := args.toArray, argTypes := ts }, true)) {fn : Func} (hfn : P.funcs[f]? = some fn) (hb : fn.body.isNone = false) (hnm : (fn.name == "runtime.NumGoroutine") = false)
    (h : Calls P f vals w fun e w' => (∃ v, e = .returned v ∧ K (a.put d v) w') ∨ ∃ c, e = .panicked c ∧ Q (.panic c) a w') : wpOp P ops Q i K a w := by
  refine op_go i d _ hi fun o hd hop K' hK => ?_
  unfold Oper.wp execOp
  simp only [hop]
  subst hv
  have hc : (callFunc f (args.map a.eval).toArray).run P w = .ok (.enter f (args.map a.eval).toArray) w := by
    have hb' : fn.body ≠ none := fun h => by rw [h] at hb; cases hb
    have hnm' : fn.name ≠ "runtime.NumGoroutine" := fun h => by rw [h] at hnm; cases hnm
    unfold callFunc
    simp [Sem.run_bind, hfn, hb', hnm']
  go_simp
  refine h.mono fun e w' hx => ?_
  rcases hx with ⟨v, he, hn⟩ | ⟨c, he, hn⟩
  · subst he
    subst hd
    exact hK _ _ hn
  · subst he
    exact hn
end
/-- what a function that defers leaves hangs on its results alone -/
theorem leaves_congr {P : Program} {fn : Func} {t t' : Array Value} {R : Ending → World → Prop} (h : (results fn t) = (results fn t')) : ∀ {ds : List Deferred} {u : FrameMode} {w : World}, Leaves P fn t R ds u w → Leaves P fn t' R ds u w
  | [], .returning, w, ⟨v, h1, h2⟩ => ⟨v, by rw [← h]; exact h1, h2⟩
  | [], .panicking chain, w, hl => hl
  | [], .run, w, hl => hl
  | d :: ds, u, w, ⟨hu, fv, cap, f, args, h1, h2, h3⟩ => ⟨hu, fv, cap, f, args, h1, h2, h3.mono fun e u' w' he => by
      cases e with
      | returned v => exact leaves_congr h he
      | panicked c => exact leaves_congr h he
      | outgrown => exact he⟩
theorem results_put {fn : Func} {p1 p2 p3 : Tmp} {t1 t2 t3 : TypeId} (h : fn.results = #[.cell p1 t1, .cell p2 t2, .cell p3 t3]) (a : Act) (d : Option Tmp) (v : Value) (hd : ∀ k, d = some k → k ≠ p1 ∧ k ≠ p2 ∧ k ≠ p3) : results fn (a.put d v).tmps = results fn a.tmps := by
  have key : ∀ p, (∀ k, d = some k → k ≠ p) → (a.put d v).tmps.getD p undef = a.tmps.getD p undef := by
    intro p hp
    unfold Act.put
    cases d with
    | none => rfl
    | some k =>
      have := hp k rfl
      simp [Array.getD_eq_getD_getElem?, Array.getElem?_setIfInBounds, this]
  have e1 := key p1 fun k hk => (hd k hk).1
  have e2 := key p2 fun k hk => (hd k hk).2.1
  have e3 := key p3 fun k hk => (hd k hk).2.2
  simp only [Array.getD_eq_getD_getElem?] at e1 e2 e3
  simp [results, h, e1, e2, e3]
end Go.Proofs.Ytedeggjefnpjgaa
