/-
  Words for a matrix that the call itself builds, row by row, over any program.
-/
import Derived.Test.YtedeggjefnpjgaaMat
import Derived.Test.YtedeggjefnpjgaaBlk
namespace Go.Proofs.Ytedeggjefnpjgaa
open Go.RowKit

theorem own_mono {w : World} {base base' : Nat} {e : TypeId} {size n : Nat} {v : Value} {xs : List Value} (h : w.ownsRow base e size v n xs) (hB : base' ≤ base) : w.ownsRow base' e size v n xs := by
  refine ⟨h.1, ?_⟩
  rcases h.2 with h0 | ⟨g, cap, cur, h1, h2, h3⟩
  · exact .inl h0
  · exact .inr ⟨g, cap, cur, h1, by omega, h3⟩
/-- rows of different element types never share a block -/
theorem own_ne {w : World} {base base' : Nat} {e e' : TypeId} {size size' n n' : Nat} {v v' : Value} {xs xs' : List Value} (h : w.ownsRow base e size v n xs) (h' : w.ownsRow base' e' size' v' n' xs') (hne : e ≠ e') : v.ownBlock = none ∨ v.ownBlock ≠ v'.ownBlock := by
  rcases h.2 with ⟨rfl, _⟩ | ⟨g, cap, cur, rfl, _, hg, _⟩
  · exact .inl rfl
  · right
    rcases h'.2 with ⟨rfl, _⟩ | ⟨g', cap', cur', rfl, _, hg', _⟩
    · simp [Value.ownBlock]
    · intro e0
      simp only [Value.ownBlock, Option.some.injEq] at e0
      subst e0
      rw [hg] at hg'
      injection hg' with hg'
      injection hg' with _ ht
      exact hne ht

/-- each value owns a row of numbers -/
def OwnR (w : World) (base : Nat) (te : TypeId) : List Value → List (List Int) → Prop
  | [], [] => True
  | v :: vs, r :: rs => w.ownsRow base te 1 v r.length (r.map (Value.int .i64)) ∧ OwnR w base te vs rs
  | _, _ => False
section
variable {w w' : World} {base : Nat} {te : TypeId}
theorem OwnR.map_ {w w' : World} {base' : Nat} (hf : ∀ (v : Value) (r : List Int), w.ownsRow base te 1 v r.length (r.map (Value.int .i64)) → w'.ownsRow base' te 1 v r.length (r.map (Value.int .i64))) : ∀ {vs : List Value} {rs : List (List Int)}, OwnR w base te vs rs → OwnR w' base' te vs rs
  | [], [], _ => trivial
  | _ :: _, _ :: _, h => ⟨hf _ _ h.1, OwnR.map_ hf h.2⟩
  | [], _ :: _, h => h.elim
  | _ :: _, [], h => h.elim
theorem OwnR.below {B : Nat} {vs : List Value} {rs : List (List Int)} (h : OwnR w base te vs rs) (hb : Below B w w') (hB : w.heap.size ≤ B) : OwnR w' base te vs rs := h.map_ fun _ _ h => own_below h hb hB
theorem OwnR.alloc {vs : List Value} {rs : List (List Int)} (h : OwnR w base te vs rs) (o : Obj) : OwnR (w.alloc o) base te vs rs := h.map_ fun _ _ h => h.alloc o
theorem OwnR.drewN {vs : List Value} {rs : List (List Int)} (h : OwnR w base te vs rs) (n : Nat) : OwnR (w.drewN n) base te vs rs := h.below (below_drewN (Below.refl _ _) n) (Nat.le_refl _)
theorem OwnR.other {vs : List Value} {rs : List (List Int)} (h : OwnR w base te vs rs) {base' : Nat} {e : TypeId} {size n : Nat} {v : Value} {xs : List Value} (ho : w.ownsRow base' e size v n xs) (hne : te ≠ e) (hg : w.grownBy w' v.ownBlock) : OwnR w' base te vs rs :=
  h.map_ fun _ _ h => h.kept hg (own_ne h ho hne)
theorem OwnR.snoc : ∀ {vs : List Value} {rs : List (List Int)} {v : Value} {r : List Int}, OwnR w base te vs rs → w.ownsRow base te 1 v r.length (r.map (Value.int .i64)) → OwnR w base te (vs ++ [v]) (rs ++ [r])
  | [], [], _, _, _, h => ⟨h, trivial⟩
  | _ :: _, _ :: _, _, _, h, h' => ⟨h.1, OwnR.snoc h.2 h'⟩
  | [], _ :: _, _, _, h, _ => h.elim
  | _ :: _, [], _, _, h, _ => h.elim
theorem OwnR.rowsV : ∀ {vs : List Value} {rs : List (List Int)}, OwnR w base te vs rs → RowsV w w.heap.size vs rs
  | [], [], _ => trivial
  | v :: vs, r :: rs, h => by
    refine ⟨?_, OwnR.rowsV h.2⟩
    obtain ⟨A, c, rfl, h1, h2, h3⟩ := own_open h.1
    exact ⟨A, c, rfl, h1, h2, h3⟩
  | [], _ :: _, h => h.elim
  | _ :: _, [], h => h.elim
theorem OwnR.oneCell : ∀ {vs : List Value} {rs : List (List Int)}, OwnR w base te vs rs → ∀ u ∈ vs, u.oneCell' = true
  | [], _, _, u, hu => by cases hu
  | v :: vs, r :: rs, h, u, hu => by
    rcases List.mem_cons.1 hu with rfl | hu
    · obtain ⟨A, c, rfl, _⟩ := own_open h.1
      rfl
    · exact OwnR.oneCell h.2 u hu
  | _ :: _, [], h, _, _ => h.elim
theorem Mat.of_rows {A : Option Addr} {n c : Nat} {vs : List Value} {rs : List (List Int)} {base' : Nat} {e : TypeId} (ho : w.ownsRow base' e 1 (.slice A n c) n vs) (h : RowsV w w.heap.size vs rs) : Mat w w.heap.size A n rs := by
  obtain ⟨h1, h2⟩ := h.at_
  have hl := ho.1
  exact ⟨vs, Reads.of_own ho, by omega, h2⟩
end
end Go.Proofs.Ytedeggjefnpjgaa
