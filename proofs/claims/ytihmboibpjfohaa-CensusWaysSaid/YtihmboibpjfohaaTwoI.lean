/-
  Rows of ints of the call's own.
  Two rows of ints of the call's own side by side.
-/
import Derived.Test.YtihmboibpjfohaaChecked
import Derived.Test.YtihmboibpjfohaaMat
import Derived.Test.YtihmboibpjfohaaBlk
import Derived.Test.YtihmboibpjfohaaStr
namespace Go.Proofs.Ytihmboibpjfohaa

section
open Go.RowKit

theorem ei_ints : EInfo Try.prog 42 3 1 8 := EInfo.mk' Try.underlying42 (z := .int .i64 0) (by kernel_rfl) rfl (by omega)
/-- a row of ints of the call's own -/
def OwnI (w : World) (base : Nat) (v : Value) (l : List Int) : Prop := w.ownsRow base 3 1 v l.length (l.map (Value.int .i64))
theorem OwnI.open_ {w : World} {base : Nat} {v : Value} {l : List Int} (h : OwnI w base v l) : ∃ A c, v = .slice A l.length c ∧ l.length ≤ c ∧ c ≤ maxLen ∧ Ints w w.heap.size A l.length l := own_open h
theorem OwnI.nam {w : World} {base : Nat} {v : Value} {l : List Int} (h : OwnI w base v l) : ∃ A n c, v = .slice A n c ∧ Hid (l.length = n) ∧ n ≤ c ∧ c ≤ maxLen ∧ Ints w w.heap.size A n l := by
  obtain ⟨A, c, h1, h2, h3, h4⟩ := h.open_
  exact ⟨A, _, c, h1, hide rfl, h2, h3, h4⟩
theorem OwnI.nil (w : World) (base : Nat) : OwnI w base (.slice none 0 0) [] := World.ownsRow_nil _ _ _ _
theorem OwnI.mk' {w : World} {base n : Nat} {v : Value} {l : List Int} {xs : List Value} (h : w.ownsRow base 3 1 v n xs) (hn : n = l.length) (hx : xs = l.map (Value.int .i64)) : OwnI w base v l := by
  subst hn
  subst hx
  exact h
theorem OwnI.row {w : World} {base n : Nat} {v : Value} {l : List Int} (h : OwnI w base v l) (hn : l.length = n) : w.ownsRow base 3 1 v n (l.map (Value.int .i64)) := by
  subst hn
  exact h
theorem OwnI.mono {w : World} {base base' : Nat} {v : Value} {l : List Int} (h : OwnI w base v l) (hB : base' ≤ base) : OwnI w base' v l := by
  refine ⟨h.1, ?_⟩
  rcases h.2 with h0 | ⟨g, cap, cur, h1, h2, h3⟩
  · exact .inl h0
  · exact .inr ⟨g, cap, cur, h1, by omega, h3⟩
theorem i64_bd {z : Int} (h : (Lit.int .i64 z).wf = true) : -9223372036854775808 ≤ z ∧ z ≤ 9223372036854775807 := by
  have h2 : IntKind.i64.min ≤ z ∧ z ≤ IntKind.i64.max := by simpa [Lit.wf] using h
  exact h2
end

section
open Go.RowKit

/-- two values are no rows of one block -/
def NE (u v : Value) : Prop := u.ownBlock = none ∨ v.ownBlock = none ∨ u.ownBlock ≠ v.ownBlock
theorem NE.symm {u v : Value} (h : NE u v) : NE v u := by
  rcases h with h | h | h
  · exact .inr (.inl h)
  · exact .inl h
  · exact .inr (.inr fun e => h e.symm)
theorem NE.left {u v : Value} (h : NE u v) : u.ownBlock = none ∨ u.ownBlock ≠ v.ownBlock := by
  rcases h with h | h | h
  · exact .inl h
  · rw [h]
    by_cases hu : u.ownBlock = none
    · exact .inl hu
    · exact .inr hu
  · exact .inr h
theorem NE.app {u u' v : Value} {g : Nat} (h : NE u v) (hu : u'.ownBlock = u.ownBlock ∨ u'.ownBlock = some g) (hv : ∀ k, v.ownBlock = some k → k < g) : NE u' v := by
  rcases hu with hu | hu
  · unfold NE at h ⊢
    rw [hu]
    exact h
  · by_cases hn : v.ownBlock = none
    · exact .inr (.inl hn)
    · refine .inr (.inr fun e => ?_)
      have := hv g (by rw [← e, hu])
      omega
theorem OwnI.of_blk {w : World} {base g : Nat} {x : Int} (h : Blk w g 3 #[.int .i64 x]) (hb : base ≤ g) : OwnI w base (.slice (some ⟨g, 0, none⟩) 1 1) [x] :=
  ⟨rfl, .inr ⟨g, 1, #[.int .i64 x], rfl, hb, h, Nat.le_refl _, by simp [maxLen], rfl, rfl⟩⟩
theorem OwnI.below {w w' : World} {base B : Nat} {v : Value} {l : List Int} (h : OwnI w base v l) (hb : Below B w w') (hB : w.heap.size ≤ B) : OwnI w' base v l := own_below h hb hB
theorem OwnI.push {w w' : World} {base n : Nat} {v : Value} {l : List Int} {x : Int} (h : w'.ownsRow base 3 1 v (n + 1) (l.map (Value.int .i64) ++ [.int .i64 x])) (hn : l.length = n) : OwnI w' base v (l ++ [x]) := by
  subst hn
  unfold OwnI
  rw [List.length_append, List.map_append]
  exact h
structure TwoI (w : World) (lo : Nat) (vs vv : Value) (seen via : List Int) : Prop where
  a : OwnI w lo vs seen
  b : OwnI w lo vv via
  ne : NE vs vv
section
variable {w w' : World} {lo : Nat} {vs vv : Value} {seen via : List Int}
theorem TwoI.below (h : TwoI w lo vs vv seen via) (hb : Below w.heap.size w w') : TwoI w' lo vs vv seen via := ⟨h.a.below hb (Nat.le_refl _), h.b.below hb (Nat.le_refl _), h.ne⟩
theorem TwoI.symm (h : TwoI w lo vs vv seen via) : TwoI w lo vv vs via seen := ⟨h.b, h.a, h.ne.symm⟩
theorem TwoI.app {cs : Array Value} {te : TypeId} {vs' : Value} {n : Nat} {x : Int} (h : TwoI w lo vs vv seen via) (hn : seen.length = n) (hg : (w.alloc (.cells cs te)).grownBy w' vs.ownBlock) (ho : w'.ownsRow lo 3 1 vs' (n + 1) (seen.map (Value.int .i64) ++ [.int .i64 x])) (hv : vs'.ownBlock = vs.ownBlock ∨ vs'.ownBlock = some (w.heap.size + 1)) :
    TwoI w' lo vs' vv (seen ++ [x]) via :=
  ⟨OwnI.push (w := w) ho hn, (World.ownsRow.alloc h.b _).kept hg h.ne.symm.left, h.ne.app hv fun k hk => Nat.lt_succ_of_lt (World.ownsRow.lt h.b k hk).2⟩
end
end
end Go.Proofs.Ytihmboibpjfohaa
