/-
  Rows of structs changed in place: a part is moved, the end is cleared.
-/
import Derived.Test.YtedeggjefnpjgaaDkD
import Derived.Laws.IdiomCopy
import Derived.Laws.CopyRow
import Derived.ArgAppend
import Derived.Deep.RegionLaw
import Derived.Shelf.RegionOpenPlain
namespace Go.Proofs.Ytedeggjefnpjgaa
open Go.RowKit

/-- the list with vs laid over it from o on -/
def putL (l : List Value) (o : Nat) (vs : List Value) : List Value := l.take o ++ vs ++ l.drop (o + vs.length)
theorem putL_len {l vs : List Value} {o : Nat} (h : o + vs.length ≤ l.length) : (putL l o vs).length = l.length := by
  simp only [putL, List.length_append, List.length_take, List.length_drop]
  omega
theorem putL_front {l vs : List Value} {o k : Nat} (h : o ≤ l.length) (hk : k ≤ o) : (putL l o vs).take k = l.take k := by
  unfold putL
  rw [List.append_assoc, List.take_append_of_le_length (by simp; omega), List.take_take, Nat.min_eq_left hk]
theorem putL_mid {l vs : List Value} {o k : Nat} (h : o ≤ l.length) (hk : k = o + vs.length) : (putL l o vs).take k = l.take o ++ vs := by
  unfold putL
  rw [hk, List.take_append_of_le_length (by simp; omega)]
  exact List.take_of_length_le (by simp; omega)
theorem putL_nil (l : List Value) (o : Nat) : putL l o [] = l := by simp [putL]
section
variable {P : Program} {w : World}
theorem setCells_row {g o : Nat} {te : TypeId} {cur : Array Value} {vs : List Value} (P : Program) (hB : Blk w g te cur) (ho : o + vs.length ≤ cur.size) (h1 : ∀ v ∈ vs, v.oneCell' = true) : w.setCells g o vs = w.setRow g (putL cur.toList o vs).toArray := by
  have a := run_storeCells_cells (P := P) g o vs 0 w (fun j hj => by
    rw [hB.cell (o + 0 + j)]
    simp; omega) (fun j hj => hB.frozen _) h1
  have b := run_storeCells_at P g o te vs 0 cur w hB (by omega) h1
  rw [a] at b
  simpa [putL] using b
theorem Blk.setRow {g : Nat} {te : TypeId} {cur cs : Array Value} (hB : Blk w g te cur) : Blk (w.setRow g cs) g te cs := setRow_heap w g cur cs te (0, 0) hB
theorem Only.trans {g : Nat} {w1 w2 : World} (h : Only g w w1) (k : Only g w1 w2) : Only g w w2 := ⟨k.os.trans h.os, k.tape.trans h.tape, k.output.trans h.output, k.size.trans h.size, fun j hj => (k.block j hj).trans (h.block j hj)⟩
theorem Only.drew {g : Nat} : Only g w w.drew := ⟨rfl, rfl, rfl, rfl, fun _ _ => rfl⟩
theorem Only.rfl' (g : Nat) (w : World) : Only g w w := ⟨rfl, rfl, rfl, rfl, fun _ _ => rfl⟩
theorem run_clear_blk {t e ty te : TypeId} {z : Value} {s : Nat} (ht : P.underlying t = some (.slice e)) (hv0 : (P.info? e).map (·.zero) = some (some z)) (hz : z.cells.size = s) (h1 : ∀ u ∈ z.cells.toList, u.oneCell' = true) {g : Nat} (o n c : Nat) {cur : Array Value} (hB : Blk w g te cur) (hfit : o + n * s ≤ cur.size) :
    (Builtin.clear_ #[t] ty #[.slice (some ⟨g, o, none⟩) n c]).run P w = .ok (.tuple #[]) (w.setRow g (putL cur.toList o (Builtin.zeroCells z.cells n).toList).toArray) := by
  have hv : ∀ w, (zeroValue e).run P w = .ok z w := fun w => by
    cases hq : P.info? e with
    | none => rw [hq] at hv0; cases hv0
    | some i =>
      rw [hq] at hv0
      have hz0 : i.zero = some z := by simpa using hv0
      simp [zeroValue, typeInfo, hq, hz0]
  cases n with
  | zero =>
    have e0 : (Builtin.zeroCells z.cells 0).toList = [] := by simp [Builtin.zeroCells]
    rw [e0, putL_nil, Array.toArray_toList, setRow_self w g cur te (0, 0) hB]
    simp [Builtin.clear_, run_underlying ht]
  | succ n =>
    have hl : (Builtin.zeroCells z.cells (n + 1)).toList.length = (n + 1) * s := by rw [Array.length_toList, size_zeroCells, hz]
    have h1' : ∀ v ∈ (Builtin.zeroCells z.cells (n + 1)).toList, v.oneCell' = true := by
      intro v hv'
      simp only [Builtin.zeroCells, Array.toList_map, List.mem_map] at hv'
      obtain ⟨i, _, rfl⟩ := hv'
      have hs0 : 0 < z.cells.size ∨ z.cells.size = 0 := by omega
      rcases hs0 with hs0 | hs0
      · have hi : i % z.cells.size < z.cells.size := Nat.mod_lt _ hs0
        rw [getElem!_pos z.cells _ hi]
        exact h1 _ (Array.getElem_mem_toList hi)
      · rw [getElem!_neg z.cells _ (by omega)]
        rfl
    have hst := run_storeCells_at P g o te (Builtin.zeroCells z.cells (n + 1)).toList 0 cur w hB (by rw [hl]; omega) h1'
    rw [Nat.add_zero] at hst
    simp only [Builtin.clear_, putL]
    simp [run_underlying ht, hv, hst]
theorem wp_run1 (w : World) {o : Oper} {a : Act} {K : Act → World → Prop} {Q : Exit → Act → World → Prop} (x : Operand) (t : TypeId) (ho : o.op = .call { callee := .builtin .clear, args := #[x], argTypes := #[t] }) (v : Value) (hx : a.eval x = v) {v' : Value} {w' : World}
    (hr : (Builtin.clear_ #[t] o.type #[v]).run P w = .ok v' w') (h : K (a.put o.dst v') w') : o.wp P a w K Q := by
  unfold Oper.wp execOp
  simp only [ho, resolve, invoke, builtin, Sem.run_bind, Sem.run_pure, Result.andThen_ok, List.map_toArray, List.map_cons, List.map_nil, hx, hr]
  exact h
theorem wpList_clear {ops : Array Oper} {rest : List Oper} {o : Oper} {a : Act} {Q : Exit → Act → World → Prop} (hgd : o.guard = none) (x : Operand) (t : TypeId) (ho : o.op = .call { callee := .builtin .clear, args := #[x], argTypes := #[t] }) (v : Value) (hx : a.eval x = v) {v' : Value} {w' : World}
    (hr : (Builtin.clear_ #[t] o.type #[v]).run P w = .ok v' w') (h : wpList P ops Q rest (a.put o.dst v') w') : wpList P ops Q (o :: rest) a w :=
  wpList_plain hgd fun _ hK => wp_run1 w x t ho v hx hr (hK _ _ h)
end
end Go.Proofs.Ytedeggjefnpjgaa
