/-
  An operation of a drawn region that yields its value in the world at hand: over any program.
-/
import Derived.Test.YtedeggjefnpjgaaRegC
import Derived.Test.YtedeggjefnpjgaaMatOwn
namespace Go.Proofs.Ytedeggjefnpjgaa
open Go.RowKit

theorem op_yield {P : Program} {ops : Array Oper} {Q : Exit → Act → World → Prop} {a : Act} {w : World} {K : Act → World → Prop} (i : Nat) (d : Option Tmp) (op : Op) (v : Value) (hi : opFacts ops a i = some (d, op, true))
    (hrun : ∀ o : Oper, o.op = op → (execOp a.eval o).run P w = .ok (.value v) w) (h : K (a.put d v) w) : wpOp P ops Q i K a w := by
  refine op_go i d op hi fun o hd hop K' hK => ?_
  unfold Oper.wp
  rw [hrun o hop, Oper.upon_value, hd]
  exact hK _ _ h
theorem op_store_own {P : Program} {ops : Array Oper} {Q : Exit → Act → World → Prop} {a : Act} {w : World} {K : Act → World → Prop} (i : Nat) (ty : TypeId) (x y : Operand) (hi : opFacts ops a i = some (none, .store ty x y, true)) {base : Nat} {e : TypeId} {g n cap : Nat} {xs : List Value}
    (hown : w.ownsRow base e 1 (.slice (some ⟨g, 0, none⟩) n cap) n xs) (k : Nat) (hk : k < n) (v : Value) (hx : a.eval x = .pointer (some ⟨g, k, none⟩)) (hy : a.eval y = v) (hn : (P.info? ty).map (·.size) = some 1) (h1 : v.oneCell' = true) (hc : v.cells = #[v])
    (h : ∀ w', w'.ownsRow base e 1 (.slice (some ⟨g, 0, none⟩) n cap) n (xs.set k v) → Only g w w' → K (a.put none undef) w') : wpOp P ops Q i K a w := by
  refine op_go i none _ hi fun o hd hop K' hK => ?_
  cases hq : P.info? ty with
  | none => rw [hq] at hn; cases hn
  | some inf =>
    have hs : inf.size = 1 := by rw [hq] at hn; simpa using hn
    have hadd : (⟨g, k, none⟩ : Addr).add 0 = ⟨g, k, none⟩ := by unfold Addr.add; simp
    have hl : k < xs.length := by rw [hown.1]; omega
    have hcell : w.cell? ⟨g, k, none⟩ = some xs[k] := by
      have h0 := hown.cells (g := g) rfl k xs[k] (List.getElem?_eq_getElem hl)
      rwa [show (⟨g, 0, none⟩ : Addr).add k = ⟨g, k, none⟩ by unfold Addr.add; split <;> simp_all] at h0
    have hrun : (storeVar ty ⟨g, k, none⟩ v).run P w = .ok () (w.setCell ⟨g, k, none⟩ v) := by
      simp [storeVar, sizeOf, typeInfo, hq, hs, hc, storeCells, hadd, run_store P w _ v _ h1, hcell, hown.frozenAt k]
    unfold Oper.wp execOp
    simp only [hop, hx, hy, Instr.storeAt, Instr.sureAddr, Sem.run_bind, Sem.run_pure, Result.andThen_ok, hrun]
    rw [Oper.upon_skip, hd]
    exact hK _ _ (h _ (hown.stored k v).1 ⟨rfl, rfl, rfl, by simp, fun k hk => Below.heap_setCell w _ _ k hk⟩)
end Go.Proofs.Ytedeggjefnpjgaa
