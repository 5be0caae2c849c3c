/-
  Edges in memory: slices of the call's own.
-/
import Derived.Test.YtihmboibpjfohaaChecked
import Derived.Test.YtihmboibpjfohaaGraN
import Derived.Test.YtihmboibpjfohaaStV
import Derived.Test.YtihmboibpjfohaaStrO
namespace Go.Proofs.Ytihmboibpjfohaa
open Go.RowKit

abbrev Ed.cells (e : Ed) : List Value := [.int .i64 e.eid, .int .i64 e.fr, .int .i64 e.tt, .int .i64 e.cst]
abbrev ed0 : Ed := ⟨0, 0, 0, 0⟩
theorem ei_edge : EInfo Try.prog 66 68 4 32 := EInfo.mk' Try.underlying66 (z := .agg #[.int .i64 0, .int .i64 0, .int .i64 0, .int .i64 0]) (by kernel_rfl) rfl (by omega)
/-- a slice of edges of the call's own -/
def OwnE (w : World) (base : Nat) (v : Value) (l : List Ed) : Prop := w.ownsRow base 68 4 v l.length (l.map Ed.cells).flatten
theorem OwnE.nil (w : World) (base : Nat) : OwnE w base (.slice none 0 0) [] := World.ownsRow_nil _ _ _ _
theorem OwnE.strV {w : World} {base : Nat} {v : Value} {l : List Ed} (h : OwnE w base v l) : StrV Ed.cells 4 w w.heap.size v l := by
  obtain ⟨A, c, rfl, h1, h2, h3⟩ := own_open h
  exact ⟨A, c, rfl, h1, h2, h3⟩
theorem OwnE.snoc {w : World} {base n : Nat} {v : Value} {l : List Ed} {r : Ed} {xs : List Value} (h : w.ownsRow base 68 4 v n xs) (hn : n = l.length + 1) (hx : xs = (l.map Ed.cells).flatten ++ Ed.cells r) : OwnE w base v (l ++ [r]) := by
  subst hn hx
  unfold OwnE
  simpa using h
theorem OwnE.nam {w : World} {base : Nat} {v : Value} {l : List Ed} (h : OwnE w base v l) : ∃ A n c, v = .slice A n c ∧ Hid (l.length = n) ∧ n ≤ c ∧ c ≤ maxLen ∧ Strs Ed.cells 4 w w.heap.size A n l := by
  obtain ⟨A, c, rfl, h1, h2, h3⟩ := own_open h
  exact ⟨A, _, c, rfl, hide rfl, h1, h2, h3⟩
theorem OwnE.row {w : World} {base n : Nat} {v : Value} {l : List Ed} (h : OwnE w base v l) (hn : l.length = n) : w.ownsRow base 68 4 v n (l.map Ed.cells).flatten := by
  subst hn
  exact h
theorem OwnE.mono {w : World} {base base' : Nat} {v : Value} {l : List Ed} (h : OwnE w base v l) (hB : base' ≤ base) : OwnE w base' v l := by
  refine ⟨h.1, ?_⟩
  rcases h.2 with h0 | ⟨g, cap, cur, h1, h2, h3⟩
  · exact .inl h0
  · exact .inr ⟨g, cap, cur, h1, by omega, h3⟩
theorem OwnE.mk' {w : World} {base n : Nat} {v : Value} {l : List Ed} (h : w.ownsRow base 68 4 v n (l.map Ed.cells).flatten) (hn : l.length = n) : OwnE w base v l := by
  subst hn
  exact h
end Go.Proofs.Ytihmboibpjfohaa
