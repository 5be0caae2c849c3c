/-
  Words for chapter 8's matrices that share rows with another matrix, over any program: each row lies below a base or is the call's own.
-/
import Derived.Test.YtgmefnddbiofkaaAssignV
import Derived.Test.YtgmefnddbiofkaaMatOwn
import Derived.Test.YtgmefnddbiofkaaStrO
import Derived.Test.YtgmefnddbiofkaaRegC
namespace Go.Proofs.Ytgmefnddbiofkaa
open Go.RowKit

/-- an element of a row of the call's own is stored, in a region that draws its order -/
theorem op_store_own {P : Program} {ops : Array Oper} {Q : Exit → Act → World → Prop} {a : Act} {w : World} {K : Act → World → Prop} (i : Nat) (ty : TypeId) (x y : Operand) (hi : opFacts ops a i = some (none, .store ty x y, true)) {base : Nat} {e : TypeId} {g n cap : Nat} {xs : List Value}
    (hown : w.ownsRow base e 1 (.slice (some ⟨g, 0, none⟩) n cap) n xs) (k : Nat) (hk : k < n) (v : Value) (hx : a.eval x = .pointer (some ⟨g, k, none⟩)) (hy : a.eval y = v) (hn : (P.info? ty).map (·.size) = some 1) (h1 : v.oneCell' = true) (hc : v.cells = #[v])
    (h : ∀ w', w'.ownsRow base e 1 (.slice (some ⟨g, 0, none⟩) n cap) n (xs.set k v) → Only g w w' → K (a.put none undef) w') : wpOp P ops Q i K a w := by
  refine op_go i none _ hi fun o hd hop K' hK => ?_
  cases hq : P.info? ty with
  | none => rw [hq] at hn; cases hn
  | some inf =>
    have hs : inf.size = 1 := by rw [hq] at hn; simpa using hn
    have hadd : (⟨g, k, none⟩ : Addr).add 0 = ⟨g, k, none⟩ := by unfold Addr.add; simp
    have hl : k < xs.length := by rw [hown.1]; omega
    have hcell : w.cell? ⟨g, k, none⟩ = some xs[k] := by
      have h0 := hown.cells (g := g) rfl k xs[k] (List.getElem?_eq_getElem hl)
      rwa [show (⟨g, 0, none⟩ : Addr).add k = ⟨g, k, none⟩ by unfold Addr.add; split <;> simp_all] at h0
    have hrun : (storeVar ty ⟨g, k, none⟩ v).run P w = .ok () (w.setCell ⟨g, k, none⟩ v) := by
      simp [storeVar, sizeOf, typeInfo, hq, hs, hc, storeCells, hadd, run_store P w _ v _ h1, hcell, hown.frozenAt k]
    unfold Oper.wp execOp
    simp only [hop, hx, hy, Instr.storeAt, Instr.sureAddr, Sem.run_bind, Sem.run_pure, Result.andThen_ok, hrun]
    rw [Oper.upon_skip, hd]
    exact hK _ _ (h _ (hown.stored k v).1 ⟨rfl, rfl, rfl, by simp, fun k hk => Below.heap_setCell w _ _ k hk⟩)

theorem one_cells {v : Value} (h : v.oneCell' = true) : v.cells = #[v] := by
  cases v <;> first | rfl | simp [Value.oneCell'] at h
theorem own_pos {w : World} {base : Nat} {e : TypeId} {size n : Nat} {v : Value} {xs : List Value} (h : w.ownsRow base e size v n xs) (hn : 0 < n) : ∃ g c, v = .slice (some ⟨g, 0, none⟩) n c ∧ base ≤ g := by
  rcases h.2 with ⟨rfl, rfl⟩ | ⟨g, cap, cur, rfl, h1, _⟩
  · omega
  · exact ⟨g, cap, rfl, h1⟩
/-- the values read as the rows, each below the base or an own row of the type te -/
def RowsX (te : TypeId) (base : Nat) (w : World) (vs : List Value) (rows : List (List Int)) : Prop :=
  ∀ (i : Nat) (r : List Int), rows[i]? = some r → ∃ v, vs[i]? = some v ∧ (RowV w base v r ∨ w.ownsRow base te 1 v r.length (r.map (Value.int .i64)))
section
variable {te : TypeId} {base : Nat} {w w' : World} {vs : List Value} {rows : List (List Int)}
theorem RowsX.nil : RowsX te base w [] [] := fun i r h => by simp at h
theorem RowsX.below (h : RowsX te base w vs rows) (hb : Below w.heap.size w w') (hB : base ≤ w.heap.size) : RowsX te base w' vs rows := fun i r hr => by
  obtain ⟨v, hv, h1⟩ := h i r hr
  exact ⟨v, hv, h1.imp (fun h => h.below (hb.mono hB)) fun h => own_below h hb (Nat.le_refl _)⟩
theorem RowsX.grown (h : RowsX te base w vs rows) {base' : Nat} {e : TypeId} {size n : Nat} {v : Value} {xs : List Value} (ho : w.ownsRow base' e size v n xs) (hne : te ≠ e) (hg : w.grownBy w' v.ownBlock) (hb : Below base w w') : RowsX te base w' vs rows := fun i r hr => by
  obtain ⟨u, hu, h1⟩ := h i r hr
  exact ⟨u, hu, h1.imp (fun h => h.below hb) fun h => h.kept hg (own_ne h ho hne)⟩
theorem RowsX.snoc (h : RowsX te base w vs rows) (hl : vs.length = rows.length) {v : Value} {r : List Int} (hv : RowV w base v r ∨ w.ownsRow base te 1 v r.length (r.map (Value.int .i64))) : RowsX te base w (vs ++ [v]) (rows ++ [r]) := fun i s hs => by
  rcases Nat.lt_or_ge i rows.length with h1 | h1
  · rw [List.getElem?_append_left h1] at hs
    obtain ⟨u, hu, h2⟩ := h i s hs
    exact ⟨u, by rw [List.getElem?_append_left (by omega)]; exact hu, h2⟩
  · have h3 : i = rows.length := by
      have := (List.getElem?_eq_some_iff.1 hs).1
      simp at this
      omega
    subst h3
    have e : s = r := by simpa using hs.symm
    subst e
    exact ⟨v, by rw [← hl]; simp, hv⟩
theorem RowsX.mat {A : Option Addr} {n c : Nat} {base' : Nat} {e : TypeId} (h : RowsX te base w vs rows) (ho : w.ownsRow base' e 1 (.slice A n c) n vs) (hl : rows.length = n) (hB : base ≤ w.heap.size) : Mat w w.heap.size A n rows :=
  ⟨vs, Reads.of_own ho, hl, fun i r hr => by
    obtain ⟨v, hv, h1⟩ := h i r hr
    refine ⟨v, hv, ?_⟩
    rcases h1 with h1 | h1
    · exact h1.more hB
    · obtain ⟨A, c, rfl, g1, g2, g3⟩ := own_open h1
      exact ⟨A, c, rfl, g1, g2, g3⟩⟩
theorem RowsX.one (h : RowsX te base w vs rows) (hl : vs.length = rows.length) : ∀ u ∈ vs, u.oneCell' = true := fun u hu => by
  obtain ⟨i, hi, rfl⟩ := List.getElem_of_mem hu
  obtain ⟨v, hv, h1⟩ := h i _ (List.getElem?_eq_getElem (by omega))
  rw [List.getElem?_eq_getElem hi] at hv
  injection hv with hv
  subst hv
  rcases h1 with ⟨a, c, e, _⟩ | h1
  · rw [e]; rfl
  · obtain ⟨A, c, e, _⟩ := own_open h1
    rw [e]; rfl
theorem swap_at? {α : Type} {l : List α} {d : α} {a b i : Nat} {x : α} (ha : a < l.length) (hb : b < l.length) (h : (swapL l d a b)[i]? = some x) : (i = b ∧ l[a]? = some x) ∨ (i = a ∧ i ≠ b ∧ l[b]? = some x) ∨ (i ≠ a ∧ i ≠ b ∧ l[i]? = some x) := by
  unfold swapL at h
  have e1 : l.getD a d = l[a] := by simp [List.getElem?_eq_getElem ha]
  have e2 : l.getD b d = l[b] := by simp [List.getElem?_eq_getElem hb]
  rw [e1, e2] at h
  simp only [List.getElem?_set, List.length_set] at h
  by_cases h1 : b = i
  · subst h1
    rw [if_pos rfl, if_pos hb] at h
    exact .inl ⟨rfl, by rw [List.getElem?_eq_getElem ha]; exact h⟩
  · rw [if_neg h1] at h
    by_cases h2 : a = i
    · subst h2
      rw [if_pos rfl, if_pos ha] at h
      exact .inr (.inl ⟨rfl, fun e => h1 e.symm, by rw [List.getElem?_eq_getElem hb]; exact h⟩)
    · rw [if_neg h2] at h
      exact .inr (.inr ⟨fun e => h2 e.symm, fun e => h1 e.symm, h⟩)
theorem swap_at {α : Type} {l : List α} {d : α} {a b : Nat} (ha : a < l.length) (hb : b < l.length) (i : Nat) : (swapL l d a b)[i]? = if i = b then l[a]? else if i = a then l[b]? else l[i]? := by
  unfold swapL
  have e1 : l.getD a d = l[a] := by simp [List.getElem?_eq_getElem ha]
  have e2 : l.getD b d = l[b] := by simp [List.getElem?_eq_getElem hb]
  rw [e1, e2]
  simp only [List.getElem?_set, List.length_set]
  by_cases h1 : b = i
  · subst h1; rw [if_pos rfl, if_pos rfl, if_pos hb, List.getElem?_eq_getElem ha]
  · have h1' : ¬ i = b := fun e => h1 e.symm
    rw [if_neg h1, if_neg h1']
    by_cases h2 : a = i
    · subst h2; rw [if_pos rfl, if_pos rfl, if_pos ha, List.getElem?_eq_getElem hb]
    · have h2' : ¬ i = a := fun e => h2 e.symm
      rw [if_neg h2, if_neg h2']
theorem RowsX.swap (h : RowsX te base w vs rows) (hl : vs.length = rows.length) {d : Value} {a b : Nat} (ha : a < rows.length) (hb : b < rows.length) : RowsX te base w (swapL vs d a b) (swapL rows [] a b) := fun i r hr => by
  rw [swap_at (by omega) (by omega)]
  rw [swap_at ha hb] at hr
  by_cases h1 : i = b
  · rw [if_pos h1] at hr ⊢; exact h a r hr
  · rw [if_neg h1] at hr ⊢
    by_cases h2 : i = a
    · rw [if_pos h2] at hr ⊢; exact h b r hr
    · rw [if_neg h2] at hr ⊢; exact h i r hr
theorem Mat.vals {B n : Nat} {A : Option Addr} (h : Mat w B A n rows) : ∃ vs, Reads w B 1 A n vs ∧ vs.length = rows.length ∧ RowsX te B w vs rows := by
  obtain ⟨vs, h1, h2, h3⟩ := h
  exact ⟨vs, h1, by have := h1.1; omega, fun i r hr => by obtain ⟨v, hv, h4⟩ := h3 i r hr; exact ⟨v, hv, .inl h4⟩⟩
theorem own_ne_symm {u v : Value} (h : u.ownBlock = none ∨ u.ownBlock ≠ v.ownBlock) : v.ownBlock = none ∨ v.ownBlock ≠ u.ownBlock := by
  rcases h with h | h
  · cases hv : v.ownBlock with
    | none => exact .inl rfl
    | some g => exact .inr (by rw [h]; simp)
  · exact .inr (fun e => h e.symm)
/-- the row that has grown still shares no block with another -/
theorem own_ne_grown {u v v' : Value} {base' : Nat} {e : TypeId} {size n : Nat} {xs : List Value} (h : u.ownBlock = none ∨ u.ownBlock ≠ v.ownBlock) (ho : w.ownsRow base' e size u n xs) {s : Nat} (hs : w.heap.size ≤ s) (hat : v'.ownBlock = v.ownBlock ∨ v'.ownBlock = some s) : u.ownBlock = none ∨ u.ownBlock ≠ v'.ownBlock := by
  rcases hat with h1 | h1
  · rw [h1]; exact h
  · refine .inr fun e1 => ?_
    rw [h1] at e1
    have := (World.ownsRow.lt ho _ e1).2
    omega
end
end Go.Proofs.Ytgmefnddbiofkaa
