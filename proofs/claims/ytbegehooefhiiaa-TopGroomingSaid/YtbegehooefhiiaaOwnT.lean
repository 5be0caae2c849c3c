/-
  Slices of structs of the call's own, over any program.
-/
import Derived.Test.YtbegehooefhiiaaStV
import Derived.Test.YtbegehooefhiiaaStrO
import Derived.Test.YtbegehooefhiiaaMatOwn
import Derived.Test.YtbegehooefhiiaaRegC
namespace Go.Proofs.Ytbegehooefhiiaa
open Go.RowKit

/-- a slice of structs of the call's own: elements of type e of s cells, the cells of each by f -/
def OwnT (e : TypeId) {α : Type} (f : α → List Value) (s : Nat) (w : World) (base : Nat) (v : Value) (l : List α) : Prop := w.ownsRow base e s v l.length (l.map f).flatten
section
variable {e : TypeId} {α : Type} {f : α → List Value} {s n : Nat} {w w' : World} {base base' : Nat} {v : Value} {l : List α}
theorem OwnT.nil (e : TypeId) (f : α → List Value) (s : Nat) (w : World) (base : Nat) : OwnT e f s w base (.slice none 0 0) [] := World.ownsRow_nil _ _ _ _
theorem OwnT.nam (h : OwnT e f s w base v l) : ∃ A n c, v = .slice A n c ∧ Hid (l.length = n) ∧ n ≤ c ∧ c ≤ maxLen ∧ Strs f s w w.heap.size A n l := by
  obtain ⟨A, c, rfl, h1, h2, h3⟩ := own_open h
  exact ⟨A, _, c, rfl, hide rfl, h1, h2, h3⟩
theorem OwnT.strV (h : OwnT e f s w base v l) : StrV f s w w.heap.size v l := by
  obtain ⟨A, c, rfl, h1, h2, h3⟩ := own_open h
  exact ⟨A, c, rfl, h1, h2, h3⟩
theorem OwnT.row (h : OwnT e f s w base v l) (hn : l.length = n) : w.ownsRow base e s v n (l.map f).flatten := by
  subst hn
  exact h
theorem OwnT.mk' (h : w.ownsRow base e s v n (l.map f).flatten) (hn : l.length = n) : OwnT e f s w base v l := by
  subst hn
  exact h
theorem OwnT.mono (h : OwnT e f s w base v l) (hB : base' ≤ base) : OwnT e f s w base' v l := own_mono h hB
theorem OwnT.below (h : OwnT e f s w base v l) (hb : Below w.heap.size w w') : OwnT e f s w' base v l := own_below h hb (Nat.le_refl _)
theorem OwnT.snoc {r : α} {xs : List Value} (h : w.ownsRow base e s v n xs) (hn : n = l.length + 1) (hx : xs = (l.map f).flatten ++ f r) : OwnT e f s w base v (l ++ [r]) := by
  subst hn hx
  unfold OwnT
  simpa using h
theorem OwnT.one (h : OwnT e f s w base v l) : v.oneCell' = true := own_one h
end
theorem grown_alloc' {w w' : World} {o : Obj} {row : Option Nat} (h : (w.alloc o).grownBy w' row) : w.grownBy w' row :=
  ⟨h.os, h.tape, h.output, by have := h.size; simp at this; omega, fun k hk hne => (h.block k (by simp; omega) hne).trans (Below.heap_alloc w o k hk)⟩
end Go.Proofs.Ytbegehooefhiiaa
