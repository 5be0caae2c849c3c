/-
  Rows of ints of the call's own.
-/
import Derived.Test.YtegijfmdjaehjaaChecked
import Derived.Test.YtegijfmdjaehjaaMat
namespace Go.Proofs.Ytegijfmdjaehjaa
open Go.RowKit

theorem ei_ints : EInfo Try.prog 30 3 1 8 := EInfo.mk' Try.underlying30 (z := .int .i64 0) (by kernel_rfl) rfl (by omega)
/-- a row of ints of the call's own -/
def OwnI (w : World) (base : Nat) (v : Value) (l : List Int) : Prop := w.ownsRow base 3 1 v l.length (l.map (Value.int .i64))
theorem OwnI.open_ {w : World} {base : Nat} {v : Value} {l : List Int} (h : OwnI w base v l) : ∃ A c, v = .slice A l.length c ∧ l.length ≤ c ∧ c ≤ maxLen ∧ Ints w w.heap.size A l.length l := own_open h
theorem OwnI.nam {w : World} {base : Nat} {v : Value} {l : List Int} (h : OwnI w base v l) : ∃ A n c, v = .slice A n c ∧ Hid (l.length = n) ∧ n ≤ c ∧ c ≤ maxLen ∧ Ints w w.heap.size A n l := by
  obtain ⟨A, c, h1, h2, h3, h4⟩ := h.open_
  exact ⟨A, _, c, h1, hide rfl, h2, h3, h4⟩
theorem OwnI.nil (w : World) (base : Nat) : OwnI w base (.slice none 0 0) [] := World.ownsRow_nil _ _ _ _
theorem OwnI.mk' {w : World} {base n : Nat} {v : Value} {l : List Int} {xs : List Value} (h : w.ownsRow base 3 1 v n xs) (hn : n = l.length) (hx : xs = l.map (Value.int .i64)) : OwnI w base v l := by
  subst hn
  subst hx
  exact h
theorem OwnI.row {w : World} {base n : Nat} {v : Value} {l : List Int} (h : OwnI w base v l) (hn : l.length = n) : w.ownsRow base 3 1 v n (l.map (Value.int .i64)) := by
  subst hn
  exact h
theorem OwnI.mono {w : World} {base base' : Nat} {v : Value} {l : List Int} (h : OwnI w base v l) (hB : base' ≤ base) : OwnI w base' v l := by
  refine ⟨h.1, ?_⟩
  rcases h.2 with h0 | ⟨g, cap, cur, h1, h2, h3⟩
  · exact .inl h0
  · exact .inr ⟨g, cap, cur, h1, by omega, h3⟩
theorem i64_bd {z : Int} (h : (Lit.int .i64 z).wf = true) : -9223372036854775808 ≤ z ∧ z ≤ 9223372036854775807 := by
  have h2 : IntKind.i64.min ≤ z ∧ z ≤ IntKind.i64.max := by simpa [Lit.wf] using h
  exact h2
end Go.Proofs.Ytegijfmdjaehjaa
