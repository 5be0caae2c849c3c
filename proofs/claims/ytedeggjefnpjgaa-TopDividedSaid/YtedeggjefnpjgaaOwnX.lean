/-
  Slices of structs of the call's own, over any program.
  A whole struct is stored into an element of a slice of the call's own, over any program.
-/
import Derived.Test.YtedeggjefnpjgaaStV
import Derived.Test.YtedeggjefnpjgaaStrO
import Derived.Test.YtedeggjefnpjgaaMatOwn
import Derived.Test.YtedeggjefnpjgaaRegC
import Derived.Laws.CopyRow
namespace Go.Proofs.Ytedeggjefnpjgaa

section
open Go.RowKit

/-- a slice of structs of the call's own: elements of type e of s cells, the cells of each by f -/
def OwnT (e : TypeId) {α : Type} (f : α → List Value) (s : Nat) (w : World) (base : Nat) (v : Value) (l : List α) : Prop := w.ownsRow base e s v l.length (l.map f).flatten
section
variable {e : TypeId} {α : Type} {f : α → List Value} {s n : Nat} {w w' : World} {base base' : Nat} {v : Value} {l : List α}
theorem OwnT.nil (e : TypeId) (f : α → List Value) (s : Nat) (w : World) (base : Nat) : OwnT e f s w base (.slice none 0 0) [] := World.ownsRow_nil _ _ _ _
theorem OwnT.nam (h : OwnT e f s w base v l) : ∃ A n c, v = .slice A n c ∧ Hid (l.length = n) ∧ n ≤ c ∧ c ≤ maxLen ∧ Strs f s w w.heap.size A n l := by
  obtain ⟨A, c, rfl, h1, h2, h3⟩ := own_open h
  exact ⟨A, _, c, rfl, hide rfl, h1, h2, h3⟩
theorem OwnT.strV (h : OwnT e f s w base v l) : StrV f s w w.heap.size v l := by
  obtain ⟨A, c, rfl, h1, h2, h3⟩ := own_open h
  exact ⟨A, c, rfl, h1, h2, h3⟩
theorem OwnT.row (h : OwnT e f s w base v l) (hn : l.length = n) : w.ownsRow base e s v n (l.map f).flatten := by
  subst hn
  exact h
theorem OwnT.mk' (h : w.ownsRow base e s v n (l.map f).flatten) (hn : l.length = n) : OwnT e f s w base v l := by
  subst hn
  exact h
theorem OwnT.mono (h : OwnT e f s w base v l) (hB : base' ≤ base) : OwnT e f s w base' v l := own_mono h hB
theorem OwnT.below (h : OwnT e f s w base v l) (hb : Below w.heap.size w w') : OwnT e f s w' base v l := own_below h hb (Nat.le_refl _)
theorem OwnT.snoc {r : α} {xs : List Value} (h : w.ownsRow base e s v n xs) (hn : n = l.length + 1) (hx : xs = (l.map f).flatten ++ f r) : OwnT e f s w base v (l ++ [r]) := by
  subst hn hx
  unfold OwnT
  simpa using h
theorem OwnT.one (h : OwnT e f s w base v l) : v.oneCell' = true := own_one h
end
theorem grown_alloc' {w w' : World} {o : Obj} {row : Option Nat} (h : (w.alloc o).grownBy w' row) : w.grownBy w' row :=
  ⟨h.os, h.tape, h.output, by have := h.size; simp at this; omega, fun k hk hne => (h.block k (by simp; omega) hne).trans (Below.heap_alloc w o k hk)⟩
end

section
open Go.RowKit

theorem flat_len {α : Type} {f : α → List Value} {s : Nat} (hf : ∀ x, (f x).length = s) : ∀ (l : List α), (l.map f).flatten.length = l.length * s
  | [] => by simp
  | x :: l => by
    rw [List.map_cons, List.flatten_cons, List.length_append, hf, flat_len hf l, List.length_cons, Nat.succ_mul]
    omega
theorem flat_set {α : Type} {f : α → List Value} {s : Nat} (hf : ∀ x, (f x).length = s) (x : α) : ∀ (l : List α) (k : Nat), k < l.length → (l.map f).flatten.take (k * s) ++ f x ++ (l.map f).flatten.drop (k * s + s) = ((l.set k x).map f).flatten
  | a :: l, 0, _ => by
    rw [Nat.zero_mul, List.take_zero, List.nil_append, Nat.zero_add, List.map_cons, List.flatten_cons, List.set_cons_zero, List.map_cons, List.flatten_cons]
    rw [List.drop_append_of_le_length (by rw [hf]; exact Nat.le_refl _), List.drop_of_length_le (by rw [hf]; exact Nat.le_refl _), List.nil_append]
  | a :: l, k + 1, h => by
    have ih := flat_set hf x l k (by simpa using h)
    rw [List.set_cons_succ, List.map_cons, List.flatten_cons, List.map_cons, List.flatten_cons, ← ih]
    have e1 : (k + 1) * s = (f a).length + k * s := by rw [hf, Nat.succ_mul]; omega
    rw [e1, Nat.add_assoc, List.take_length_add_append, List.drop_length_add_append]
    simp [List.append_assoc]
  | [], k, h => by cases h
theorem wpList_store_ownT {P : Program} {w : World} {ops : Array Oper} {rest : List Oper} {o : Oper} {a : Act} {Q : Exit → Act → World → Prop} {α : Type} {f : α → List Value} {s : Nat} (ty : TypeId) (x y : Operand) (ho : o.op = .store ty x y) (hw : Region.wanted o (yielded ops a.tmps) = true) {base : Nat} {e : TypeId} {ad : Addr} {n c : Nat} {l : List α}
    (hown : OwnT e f s w base (.slice (some ad) n c) l) (hl : l.length = n) (k : Nat) (hk : k < n) (r : α) (cs : Array Value) (hx : a.eval x = .pointer (some (ad.add (k * s)))) (hy : a.eval y = .agg cs) (hcs : cs.toList = f r) (hf : ∀ x, (f x).length = s) (hi : (P.info? ty).map (·.size) = some s) (h1 : ∀ u ∈ f r, u.oneCell' = true)
    (h : ∀ w', OwnT e f s w' base (.slice (some ad) n c) (l.set k r) → Only ad.block w w' → wpList P ops Q rest (a.put o.dst undef) w') : wpList P ops Q (o :: rest) a w := by
  refine wpList_want hw fun K hK => ?_
  obtain ⟨hlen, hn | ⟨g, cap, cur, hv, hbg, hg, hnc, hcm, hcs2, htake⟩⟩ := hown.row hl
  · obtain ⟨h0, _⟩ := hn; cases h0
  · injection hv with hv1 hv2 hv3
    injection hv1 with hv1
    subst hv1 hv3
    cases hq : P.info? ty with
    | none => rw [hq] at hi; cases hi
    | some inf =>
      have hs : inf.size = s := by rw [hq] at hi; simpa using hi
      have hadd : (⟨g, 0, none⟩ : Addr).add (k * s) = ⟨g, k * s, none⟩ := by unfold Addr.add; split <;> simp_all
      have hcl : cs.size = s := by rw [← Array.length_toList, hcs, hf]
      have hks : k * s + s ≤ n * s := by
        have := Nat.mul_le_mul_right s (show k + 1 ≤ n by omega)
        rw [Nat.succ_mul] at this
        exact this
      have hns : n * s ≤ c * s := Nat.mul_le_mul_right s hnc
      have hrun0 := run_storeCells_at P g (k * s) e (f r) 0 cur w hg (by rw [hf, Nat.add_zero, hcs2]; omega) h1
      rw [Nat.add_zero, hf] at hrun0
      have hrun : (storeVar ty ⟨g, k * s, none⟩ (.agg cs)).run P w = .ok () (w.setRow g (cur.toList.take (k * s) ++ f r ++ cur.toList.drop (k * s + s)).toArray) := by
        unfold storeVar
        simp only [Value.cells, sizeOf, typeInfo, hcs]
        simp [hq, hs, hcl, hrun0]
      unfold Oper.wp execOp
      rw [hadd] at hx
      simp only [ho, hx, hy, Instr.storeAt, Instr.sureAddr, Sem.run_bind, Sem.run_pure, Result.andThen_ok, hrun]
      refine hK _ _ (h _ (OwnT.mk' ⟨?_, .inr ⟨g, c, _, rfl, hbg, setRow_heap w g cur _ e _ hg, hnc, hcm, ?_, ?_⟩⟩ (by rw [List.length_set]; exact hl)) (Only.setRow w g _))
      · rw [flat_len hf, List.length_set, hl]
      · simp only [List.size_toArray, List.length_append, List.length_take, List.length_drop, Array.length_toList, hf, hcs2]
        omega
      · rw [← flat_set hf r l k (by omega), ← htake]
        apply List.ext_getElem?
        intro j
        simp only [List.getElem?_take, List.getElem?_append, List.length_take, List.length_append, Array.length_toList, List.getElem?_drop, hf, hcs2]
        have m1 : min (k * s) (c * s) = k * s := by omega
        have m2 : min (k * s) (min (n * s) (c * s)) = k * s := by omega
        simp only [m1]
        by_cases hj : j < n * s
        · simp only [hj, if_true]
          by_cases hj1 : j < k * s
          · have : j < k * s + s := by omega
            simp only [this, hj1, if_true]
            try rw [m2]
            simp [hj1, this]
          · by_cases hj2 : j < k * s + s
            · simp only [hj1, hj2, if_true, if_false]
              try rw [m2]
              simp [hj1, hj2]
            · simp only [hj1, hj2, if_false]
              try rw [m2]
              simp only [hj2, if_false]
              have : k * s + s + (j - (k * s + s)) < n * s := by omega
              simp [this]
        · have a1 : ¬ j < k * s + s := by omega
          simp only [hj, if_false]
          try rw [m2]
          simp only [a1, if_false]
          have : ¬ k * s + s + (j - (k * s + s)) < n * s := by omega
          simp [this]
end
end Go.Proofs.Ytedeggjefnpjgaa
