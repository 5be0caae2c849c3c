/-
  A queue of the call's own, over any program: a slice whose front is given up (s = s[1:]) and to whose end one value is appended.
-/
import Derived.Test.YtihmboibpjfohaaBlk
import Derived.Laws.CopyRow
namespace Go.Proofs.Ytihmboibpjfohaa
open Go.RowKit

section
variable {P : Program} {w w' : World} {base n : Nat} {e : TypeId} {v : Value} {xs : List Value}
/-- a slice of one-cell elements somewhere in a block of the call's own -/
def OwnQ (w : World) (base : Nat) (e : TypeId) (v : Value) (n : Nat) (xs : List Value) : Prop :=
  xs.length = n ∧ ∃ g p cap cur, v = .slice (some ⟨g, p, none⟩) n cap ∧ base ≤ g ∧ w.heap[g]? = some (.cells cur e (0, 0)) ∧ n ≤ cap ∧ cap ≤ maxLen ∧ p + cap ≤ cur.size ∧ ∀ j u, xs[j]? = some u → cur[p + j]? = some u
theorem OwnQ.lit (w : World) (hb : base ≤ w.heap.size) (x : Value) : OwnQ (w.alloc (.cells #[x] e)) base e (.slice (some ⟨w.heap.size, 0, none⟩) 1 1) 1 [x] :=
  ⟨rfl, w.heap.size, 0, 1, #[x], rfl, hb, heap_alloc_new w _, Nat.le_refl _, by simp [maxLen], by simp, fun j u hu => by simpa using hu⟩
theorem OwnQ.of_blk {g : Nat} {x : Value} (h : Blk w g e #[x]) (hb : base ≤ g) : OwnQ w base e (.slice (some ⟨g, 0, none⟩) 1 1) 1 [x] :=
  ⟨rfl, g, 0, 1, #[x], rfl, hb, h, Nat.le_refl _, by simp [maxLen], by simp, fun j u hu => by simpa using hu⟩
theorem OwnQ.block (h : OwnQ w base e v n xs) : ∃ g, v.ownBlock = some g ∧ base ≤ g ∧ g < w.heap.size := by
  obtain ⟨_, g, p, cap, cur, rfl, hb, hg, _⟩ := h
  exact ⟨g, rfl, hb, (Array.getElem?_eq_some_iff.1 hg).1⟩
theorem OwnQ.same (h : OwnQ w base e v n xs) {g : Nat} (hv : v.ownBlock = some g) (hs : w'.heap[g]? = w.heap[g]?) : OwnQ w' base e v n xs := by
  obtain ⟨h0, g', p, cap, cur, rfl, hb, hg, h1⟩ := h
  simp only [Value.ownBlock, Option.some.injEq] at hv
  subst hv
  exact ⟨h0, g', p, cap, cur, rfl, hb, hs.trans hg, h1⟩
theorem OwnQ.grown (h : OwnQ w base e v n xs) {r : Option Nat} (hg : w.grownBy w' r) (hne : v.ownBlock ≠ r) : OwnQ w' base e v n xs := by
  obtain ⟨g, hv, _, hlt⟩ := h.block
  exact h.same hv (hg.block g hlt (by rw [← hv]; exact hne))
theorem OwnQ.below {B : Nat} (h : OwnQ w base e v n xs) (hb : Below B w w') (hB : w.heap.size ≤ B) : OwnQ w' base e v n xs := by
  obtain ⟨g, hv, _, hlt⟩ := h.block
  exact h.same hv (hb.block g (by omega))
/-- the slice is not empty: its first element, and what is behind it -/
theorem OwnQ.shape (h : OwnQ w base e v n xs) : ∃ g p cap, v = .slice (some ⟨g, p, none⟩) n cap ∧ n ≤ cap ∧ cap ≤ maxLen := by
  obtain ⟨_, g, p, cap, cur, rfl, _, _, h1, h2, _⟩ := h
  exact ⟨g, p, cap, rfl, h1, h2⟩
theorem OwnQ.first {g p cap : Nat} {x : Value} (h : OwnQ w base e (.slice (some ⟨g, p, none⟩) n cap) n (x :: xs)) : w.cell? ⟨g, p, none⟩ = some x := by
  obtain ⟨_, g', p', cap', cur, hv, _, hg, _, _, _, hc⟩ := h
  simp only [Value.slice.injEq, Option.some.injEq, Addr.mk.injEq] at hv
  obtain ⟨⟨rfl, rfl, _⟩, _, rfl⟩ := hv
  rw [cell_of_row w g p cur e (0, 0) hg]
  simpa using hc 0 x rfl
theorem OwnQ.rest {g p cap : Nat} {x : Value} (h : OwnQ w base e (.slice (some ⟨g, p, none⟩) (n + 1) cap) (n + 1) (x :: xs)) : OwnQ w base e (.slice (if cap = 1 then some ⟨g, p, none⟩ else some ⟨g, p + 1, none⟩) n (cap - 1)) n xs := by
  obtain ⟨hl, g', p', cap', cur, hv, hb, hg, h1, h2, h3, hc⟩ := h
  simp only [Value.slice.injEq, Option.some.injEq, Addr.mk.injEq] at hv
  obtain ⟨⟨rfl, rfl, _⟩, _, rfl⟩ := hv
  have hl' : xs.length = n := by simpa using hl
  split
  · obtain rfl : n = 0 := by omega
    have hx : xs = [] := List.eq_nil_of_length_eq_zero hl'
    subst hx
    exact ⟨rfl, g, p, _, cur, rfl, hb, hg, by omega, by omega, by omega, fun j u hu => by simp at hu⟩
  · refine ⟨hl', g, p + 1, _, cur, rfl, hb, hg, by omega, by omega, by omega, fun j u hu => ?_⟩
    have := hc (j + 1) u (by simpa using hu)
    rwa [show p + 1 + j = p + (j + 1) by omega]
/-- one value is appended -/
theorem OwnQ.push (h : OwnQ w base e v n xs) {t ty : TypeId} {i : TypeInfo} {z : Value} (ht : P.underlying t = some (.slice e)) (hi : P.info? e = some i) (hz : i.zero = some z) (hs : i.size = 1) (hzs : z.cells.size = 1)
    (hb8 : i.bytes ≤ 8) (hn : n ≤ 1000000) {g2 : Nat} {te : TypeId} {u : Value} (hu : Blk w g2 te #[u]) (hu1 : u.oneCell' = true) (hbase : base ≤ w.heap.size) :
    ∃ v' w', (Builtin.append_ #[t, t] ty #[v, .slice (some ⟨g2, 0, none⟩) 1 1]).run P w = .ok v' w' ∧ OwnQ w' base e v' (n + 1) (xs ++ [u]) ∧ w.grownBy w' v.ownBlock := by
  obtain ⟨hl, g, p, cap, cur, rfl, hb, hg, h1, h2, h3, hc⟩ := h
  have hnews : ∀ j x, [u][j]? = some x → w.cell? ((⟨g2, 0, none⟩ : Addr).add j) = some x := by
    intro j x hx
    rw [Addr.add_lit, Nat.zero_add, hu.cell j]
    simpa using hx
  have hlx : (xs ++ [u]).length = n + 1 := by simp [hl]
  by_cases hroom : n + 1 ≤ cap
  · have hf := run_firstCells_some (P := P) w i.size 1 ⟨g2, 0, none⟩ 1 1 [u] (by simp [hs]) hnews
    have hst := run_storeCells_at P g (p + n) e [u] 0 cur w hg (by simp; omega) (by intro x hx; simp at hx; rw [hx]; exact hu1)
    simp only [Nat.add_zero, List.length_cons, List.length_nil, Nat.zero_add] at hst
    obtain ⟨nc, hnc⟩ : ∃ x, (cur.toList.take (p + n) ++ [u] ++ cur.toList.drop (p + n + 1)).toArray = x := ⟨_, rfl⟩
    rw [hnc] at hst
    refine ⟨.slice (some ⟨g, p, none⟩) (n + 1) cap, w.setRow g nc, ?_, ⟨hlx, g, p, cap, nc, rfl, hb, setRow_heap w g cur nc e _ hg, hroom, h2, ?_, ?_⟩, ⟨rfl, rfl, rfl, by simp, fun k _ hk => setRow_other w g k _ (fun e => hk (by simp [Value.ownBlock, e]))⟩⟩
    · simp [Builtin.append_, run_underlying ht, sizeOf, typeInfo, hi, Builtin.lenOf, hroom, hs] at hf ⊢
      simp [hf, Addr.add_lit, hst]
    · rw [← hnc]
      simp
      omega
    · intro j x hx
      rw [← hnc]
      rcases Nat.lt_or_ge j xs.length with hj | hj
      · rw [List.getElem?_append_left hj] at hx
        have h4 := hc j x hx
        have h5 : p + j < cur.size := (Array.getElem?_eq_some_iff.1 h4).1
        simp only [List.getElem?_toArray]
        rw [List.append_assoc, List.getElem?_append_left (by simp; omega), List.getElem?_take, if_pos (by omega)]
        simpa using h4
      · rw [List.getElem?_append_right hj] at hx
        have hj2 : j = n := by
          have := (List.getElem?_eq_some_iff.1 hx).1
          simp at this
          omega
        subst hj2
        rw [show j - xs.length = 0 by omega] at hx
        simp only [List.getElem?_cons_zero, Option.some.injEq] at hx
        subst hx
        simp only [List.getElem?_toArray]
        rw [List.append_assoc, List.getElem?_append_right (by simp; omega)]
        simp only [List.length_take, Array.length_toList]
        rw [show p + j - min (p + j) cur.size = 0 by omega]
        rfl
  · have holds : ∀ j x, xs[j]? = some x → w.cell? ((⟨g, p, none⟩ : Addr).add j) = some x := by
      intro j x hx
      rw [Addr.add_lit, cell_of_row w g (p + j) cur e (0, 0) hg]
      exact hc j x hx
    have hr := run_append_grow (P := P) w t ty e i z ht hi hz ⟨g, p, none⟩ n cap xs (by rw [hs, Nat.mul_one]; exact hl) holds ⟨g2, 0, none⟩ 1 1 [u] (by simp [hs]) hnews (by omega) (by omega) (growslice_fits (by omega) (by
      have : (n + 1) * i.bytes ≤ (n + 1) * 8 := Nat.mul_le_mul_left _ hb8
      omega))
    have hge := grownCap_ge w (n + 1) cap e
    have hcm : grownCap w (n + 1) cap e ≤ maxLen := grownCap_le_maxLen w (n + 1) cap e (by simp only [maxLen]; omega)
    refine ⟨_, _, hr, ⟨hlx, w.heap.size, 0, _, _, rfl, hbase, heap_alloc_new w.drew _, hge, hcm, ?_, ?_⟩, ⟨rfl, rfl, rfl, by simp, fun k hk _ => heap_alloc_old w.drew _ hk⟩⟩
    · simp only [Array.size_append, List.size_toArray, size_zeroCells, hzs, hl, List.length_cons, List.length_nil]
      omega
    · intro j x hx
      rw [Nat.zero_add]
      have hj := (List.getElem?_eq_some_iff.1 hx).1
      rw [show (xs.toArray ++ [u].toArray : Array Value) = (xs ++ [u]).toArray by simp]
      rw [Array.getElem?_append_left (by simpa using hj)]
      simpa using hx
theorem wpList_push {ops : Array Oper} {rest : List Oper} {o : Oper} {a : Act} {Q : Exit → Act → World → Prop} (hgd : o.guard = none) (s x : Operand) {t : TypeId} (ho : o.op = .call { callee := .builtin .append, args := #[s, x], argTypes := #[t, t] }) (h : OwnQ w base e v n xs)
    (ht : P.underlying t = some (.slice e)) (hin : ∃ i z, P.info? e = some i ∧ i.zero = some z ∧ i.size = 1 ∧ z.cells.size = 1 ∧ i.bytes ≤ 8) (hn : n ≤ 1000000) {g2 : Nat} {te : TypeId} {u : Value} (hu : Blk w g2 te #[u]) (hu1 : u.oneCell' = true) (hbase : base ≤ w.heap.size)
    (hs : a.eval s = v) (hx : a.eval x = .slice (some ⟨g2, 0, none⟩) 1 1)
    (hK : ∀ v' w', OwnQ w' base e v' (n + 1) (xs ++ [u]) → w.grownBy w' v.ownBlock → wpList P ops Q rest (a.put o.dst v') w') : wpList P ops Q (o :: rest) a w := by
  obtain ⟨i, z, hi, hz, h1, h2, h3⟩ := hin
  refine wpList_plain hgd fun K' hK' => ?_
  obtain ⟨v', w', hrun, r1, r2⟩ := h.push (ty := o.type) ht hi hz h1 h2 h3 hn hu hu1 hbase
  unfold Oper.wp
  simp [execOp, ho, resolve, invoke, builtin, hs, hx, hrun, Result.andThen]
  exact hK' _ _ (hK v' w' r1 r2)
end
end Go.Proofs.Ytihmboibpjfohaa
