/-
  A region that draws its order, operation by operation, where a guard is false: over any program.
-/
import Derived.Test.YtedeggjefnpjgaaBase
import Derived.Test.YtedeggjefnpjgaaStr
import Derived.OrdersHeld
import Derived.Deep.RegionHeld
namespace Go.Proofs.Ytedeggjefnpjgaa
open Go.RowKit

section
variable {P : Program} {ops : Array Oper} {Q : Exit → Act → World → Prop} {md : Region.Mode} {S : World → Prop} {fuel : Nat} {listed : Array Bool} {a : Act} {w : World}
/-- what an operation of a region is: its slot, what it does, and whether its guard lets it -/
abbrev opFacts (ops : Array Oper) (a : Act) (i : Nat) : Option (Option Tmp × Op × Bool) := (ops[i]?).map fun o => (o.dst, o.op, Region.wanted o (yielded ops a.tmps))
theorem opFacts_some {i : Nat} {d : Option Tmp} {op : Op} {b : Bool} (h : opFacts ops a i = some (d, op, b)) : ∃ o, ops[i]? = some o ∧ o.dst = d ∧ o.op = op ∧ Region.wanted o (yielded ops a.tmps) = b := by
  unfold opFacts at h
  cases hi : ops[i]? with
  | none => rw [hi] at h; cases h
  | some o =>
    rw [hi] at h
    simp only [Option.map_some, Option.some.injEq, Prod.mk.injEq] at h
    exact ⟨o, rfl, h.1, h.2.1, h.2.2⟩
/-- an operation that its guard passes over -/
theorem held_skip (i : Nat) (d : Option Tmp) (hi : (ops[i]?).map (fun o => (o.dst, Region.wanted o (yielded ops a.tmps))) = some (d, false)) (hs : Region.noSelect ops = true) (hf : Region.free md ops listed i = true)
    (hr : (Region.ready md ops listed).contains i = true) (hQ : ∀ c a w, Q (.panic c) (a.put d undef) w → Q (.panic c) a w) (hS : S w)
    (h : wpAnyH P md ops Q S fuel (listed.setIfInBounds i true) (a.put d undef) w) : wpAnyH P md ops Q S (fuel + 1) listed a w := by
  cases ho : ops[i]? with
  | none => rw [ho] at hi; cases hi
  | some o =>
    rw [ho] at hi
    simp only [Option.map_some, Option.some.injEq, Prod.mk.injEq] at hi
    obtain ⟨rfl, hw⟩ := hi
    exact wpAnyH_take ho hs hf hr hQ (Or.inr ⟨hw, rfl⟩) hS h
/-- an operation that only yields a value -/
theorem held_run (i : Nat) (d : Option Tmp) (op : Op) (v : Value) (hi : opFacts ops a i = some (d, op, true)) (hs : Region.noSelect ops = true) (hf : Region.free md ops listed i = true)
    (hr : (Region.ready md ops listed).contains i = true) (hQ : ∀ c a w, Q (.panic c) (a.put d v) w → Q (.panic c) a w)
    (hrun : ∀ o : Oper, o.op = op → ∀ w, S w → (execOp a.eval o).run P w = .ok (.value v) w) (hS : S w)
    (h : wpAnyH P md ops Q S fuel (listed.setIfInBounds i true) (a.put d v) w) : wpAnyH P md ops Q S (fuel + 1) listed a w := by
  obtain ⟨o, ho, rfl, hop, hw⟩ := opFacts_some hi
  exact wpAnyH_take ho hs hf hr hQ (Or.inl ⟨hw, hrun o hop⟩) hS h
/-- a call of a Go function that nothing else may come beside -/
theorem held_call (i : Nat) (d : Option Tmp) (f : FuncId) (args : List Operand) (ts : Array TypeId) (vals : Array Value) (hv : (args.map a.eval).toArray = vals) (hi : opFacts ops a i = some (d, .call { callee := .value (.func f), args := args.toArray, argTypes := ts }, true)) (hr : Region.ready md ops listed = [i]) {fn : Func} (hfn : P.funcs[f]? = some fn) (hb : fn.body.isNone = false) (hnm : (fn.name == "runtime.NumGoroutine") = false)
    (h : Calls P f vals w fun e w' => ∃ v, e = .returned v ∧ S w' ∧ wpAnyH P md ops Q S fuel (listed.setIfInBounds i true) (a.put d v) w') : wpAnyH P md ops Q S (fuel + 1) listed a w := by
  obtain ⟨o, ho, rfl, hop, hw⟩ := opFacts_some hi
  refine wpAnyH_all hr (by simp) fun j hj => ?_
  simp only [List.mem_cons, List.not_mem_nil, or_false] at hj
  subst hj
  refine wpOp_step ho fun K' hK => ?_
  rw [if_pos hw]
  unfold Oper.wp execOp
  simp only [hop]
  subst hv
  have hc : (callFunc f (args.map a.eval).toArray).run P w = .ok (.enter f (args.map a.eval).toArray) w := by
    have hb' : fn.body ≠ none := fun h => by rw [h] at hb; cases hb
    have hnm' : fn.name ≠ "runtime.NumGoroutine" := fun h => by rw [h] at hnm; cases hnm
    unfold callFunc
    simp [Sem.run_bind, hfn, hb', hnm']
  go_simp
  refine h.mono fun e w' ⟨v, he, hS, hn⟩ => ?_
  subst he
  exact hK _ _ ⟨hS, hn⟩
/-- a struct is loaded whole -/
theorem held_load (i : Nat) (d : Option Tmp) (ty : TypeId) (x : Operand) (hi : opFacts ops a i = some (d, .load ty x, true)) (hs : Region.noSelect ops = true) (hf : Region.free md ops listed i = true)
    (hr : (Region.ready md ops listed).contains i = true) (g : Nat) (t : TypeId) (cs : Array Value) (hQ : ∀ c a w, Q (.panic c) (a.put d (.agg cs)) w → Q (.panic c) a w) (hx : a.eval x = .pointer (some ⟨g, 0, none⟩))
    (hB : ∀ w, S w → Blk w g t cs) (dsc : TypeDesc) (hu : P.underlying ty = some dsc) (hd : (match dsc with | .struct _ | .array _ _ => true | _ => false) = true) (hn : (P.info? ty).map (·.size) = some cs.size) (hS : S w)
    (h : wpAnyH P md ops Q S fuel (listed.setIfInBounds i true) (a.put d (.agg cs)) w) : wpAnyH P md ops Q S (fuel + 1) listed a w := by
  refine held_run i d (.load ty x) (.agg cs) hi hs hf hr hQ (fun o ho w hw => ?_) hS h
  unfold execOp
  simp only [ho, hx, Instr.loadAt, Instr.sureAddr, Sem.run_bind, Sem.run_pure, Result.andThen_ok, run_loadVar_row w g t ty cs (0, 0) dsc (hB w hw) hu hd hn]
/-- one cell is stored, and nothing else may come beside -/
theorem held_store (i : Nat) (ty : TypeId) (x y : Operand) (hi : opFacts ops a i = some (none, .store ty x y, true)) (hr : Region.ready md ops listed = [i]) (g k : Nat) (v : Value) (hx : a.eval x = .pointer (some ⟨g, k, none⟩)) (hy : a.eval y = v)
    (t : TypeId) (old : Array Value) (hB : Blk w g t old) (hn : (P.info? ty).map (·.size) = some 1) (hlt : k < old.size) (h1 : v.oneCell' = true) (hc : v.cells = #[v])
    (h : ∀ w', Blk w' g t (old.setIfInBounds k v) → Only g w w' → S w' ∧ wpAnyH P md ops Q S fuel (listed.setIfInBounds i true) (a.put none undef) w') : wpAnyH P md ops Q S (fuel + 1) listed a w := by
  obtain ⟨o, ho, hd, hop, hw⟩ := opFacts_some hi
  refine wpAnyH_all hr (by simp) fun j hj => ?_
  simp only [List.mem_cons, List.not_mem_nil, or_false] at hj
  subst hj
  refine wpOp_step ho fun K' hK => ?_
  rw [if_pos hw]
  cases hq : P.info? ty with
  | none => rw [hq] at hn; cases hn
  | some inf =>
    have hs : inf.size = 1 := by rw [hq] at hn; simpa using hn
    have hadd : (⟨g, k, none⟩ : Addr).add 0 = ⟨g, k, none⟩ := by unfold Addr.add; simp
    have hcell : w.cell? ⟨g, k, none⟩ = some old[k] := by rw [hB.cell k]; exact Array.getElem?_eq_getElem hlt
    have hrun : (storeVar ty ⟨g, k, none⟩ v).run P w = .ok () (w.setCell ⟨g, k, none⟩ v) := by
      simp [storeVar, sizeOf, typeInfo, hq, hs, hc, storeCells, hadd, run_store P w _ v _ h1, hcell, hB.frozen k]
    unfold Oper.wp execOp
    simp only [hop, hx, hy, Instr.storeAt, Instr.sureAddr, Sem.run_bind, Sem.run_pure, Result.andThen_ok, hrun]
    rw [Oper.upon_skip, hd]
    exact hK _ _ (h _ (hB.set_ k v) ⟨rfl, rfl, rfl, by simp, fun k' hk' => Below.heap_setCell w _ _ k' hk'⟩)
end
end Go.Proofs.Ytedeggjefnpjgaa
