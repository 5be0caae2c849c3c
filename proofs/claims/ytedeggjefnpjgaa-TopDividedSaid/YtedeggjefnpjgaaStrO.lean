/-
  Stores into rows of the call's own, over any program; the new world is a variable of its own.
-/
import Derived.Test.YtedeggjefnpjgaaStr
namespace Go.Proofs.Ytedeggjefnpjgaa
open Go.RowKit

/-- an element of a row of the call's own is stored -/
theorem wpList_store_own {P : Program} {w : World} {ops : Array Oper} {rest : List Oper} {o : Oper} {a : Act} {Q : Exit → Act → World → Prop} (ty : TypeId) (x y : Operand) (ho : o.op = .store ty x y) (hw : Region.wanted o (yielded ops a.tmps) = true) {base : Nat} {e : TypeId} {g n cap : Nat} {xs : List Value}
    (hown : w.ownsRow base e 1 (.slice (some ⟨g, 0, none⟩) n cap) n xs) (i : Nat) (hi : i < n) (v : Value) (hx : a.eval x = .pointer (some ⟨g, i, none⟩)) (hy : a.eval y = v) (hn : (P.info? ty).map (·.size) = some 1) (h1 : v.oneCell' = true) (hc : v.cells = #[v])
    (h : ∀ w', w'.ownsRow base e 1 (.slice (some ⟨g, 0, none⟩) n cap) n (xs.set i v) → Only g w w' → wpList P ops Q rest (a.put o.dst undef) w') : wpList P ops Q (o :: rest) a w := by
  refine wpList_want hw fun K hK => ?_
  cases hq : P.info? ty with
  | none => rw [hq] at hn; cases hn
  | some inf =>
    have hs : inf.size = 1 := by rw [hq] at hn; simpa using hn
    have hadd : (⟨g, i, none⟩ : Addr).add 0 = ⟨g, i, none⟩ := by unfold Addr.add; simp
    have hl : i < xs.length := by rw [hown.1]; omega
    have hcell : w.cell? ⟨g, i, none⟩ = some xs[i] := by
      have h0 := hown.cells (g := g) rfl i xs[i] (List.getElem?_eq_getElem hl)
      rwa [show (⟨g, 0, none⟩ : Addr).add i = ⟨g, i, none⟩ by unfold Addr.add; split <;> simp_all] at h0
    have hrun : (storeVar ty ⟨g, i, none⟩ v).run P w = .ok () (w.setCell ⟨g, i, none⟩ v) := by
      simp [storeVar, sizeOf, typeInfo, hq, hs, hc, storeCells, hadd, run_store P w _ v _ h1, hcell, hown.frozenAt i]
    unfold Oper.wp execOp
    simp only [ho, hx, hy, Instr.storeAt, Instr.sureAddr, Sem.run_bind, Sem.run_pure, Result.andThen_ok, hrun]
    exact hK _ _ (h _ (hown.stored i v).1 ⟨rfl, rfl, rfl, by simp, fun k hk => Below.heap_setCell w _ _ k hk⟩)
/-- a row of ints of the call's own, of known form -/
abbrev OwnG (te : TypeId) (w : World) (base g n cap : Nat) (l : List Int) : Prop := w.ownsRow base te 1 (.slice (some ⟨g, 0, none⟩) n cap) n (l.map (Value.int .i64))
theorem OwnG.cell {te : TypeId} {w : World} {base g n cap : Nat} {l : List Int} (h : OwnG te w base g n cap l) {i : Nat} (hi : i < n) : w.cell? ⟨g, i, none⟩ = some (.int .i64 (l.getD i 0)) := by
  have hl : i < l.length := by have := h.1; simp at this; omega
  have h0 := World.ownsRow.cells (g := g) h rfl i (.int .i64 (l.getD i 0)) (by simp [List.getElem?_eq_getElem hl])
  rwa [show (⟨g, 0, none⟩ : Addr).add i = ⟨g, i, none⟩ by unfold Addr.add; split <;> simp_all] at h0
theorem OwnG.set_ {te : TypeId} {w : World} {base g n cap : Nat} {l : List Int} {i : Nat} {v : Int} (h : w.ownsRow base te 1 (.slice (some ⟨g, 0, none⟩) n cap) n ((l.map (Value.int .i64)).set i (.int .i64 v))) : OwnG te w base g n cap (l.set i v) := by
  unfold OwnG
  rw [List.map_set]
  exact h
section
variable {w w1 w2 : World} {g : Nat}
theorem grown_below (hb : Below w.heap.size w w1) : w.grownBy w1 (some g) := ⟨hb.os, hb.tape, hb.output, hb.size, fun k hk _ => hb.block k hk⟩
theorem grown_step (hg : w.grownBy w1 (some g)) (ho : Only g w1 w2) : w.grownBy w2 (some g) :=
  ⟨ho.os.trans hg.os, ho.tape.trans hg.tape, ho.output.trans hg.output, Nat.le_trans hg.size (Nat.le_of_eq ho.size.symm), fun k hk hne => (ho.block k (fun e => hne (by rw [e]))).trans (hg.block k hk hne)⟩
theorem below_grown {base : Nat} (hg : w.grownBy w1 (some g)) (hb : base ≤ w.heap.size) (h : base ≤ g) : Below base w w1 :=
  ⟨hg.os, hg.tape, hg.output, hg.size, fun k hk => hg.block k (by omega) (fun e => by injection e with e; omega)⟩
end
end Go.Proofs.Ytedeggjefnpjgaa
