/-
  What is known of arguments that are tasks, bools and shifts.
-/
import Derived.Test.YtbegehooefhiiaaRowS
import Derived.Test.YtbegehooefhiiaaRalA
namespace Go.Proofs.Ytbegehooefhiiaa
open Go.ChangeShapes Go.WideShapes Go.ChangeAt Go.RowKit Go.Deep

section
variable {H : Type} {enc : TypeId × Value → H} {P : Program} {W : World} {base : Nat}

/-- what a field of several cells reads as -/
abbrev FieldL (enc : TypeId × Value → H) (P : Program) (W : World) (t : TypeId) (us : List Value) : Prop := ∃ (y : DataW H × List MemPlace) (n : Nat), DataW.trod enc P W 0 (fun _ => true) true n t us = some y

/-- a slice: the cells of each element -/
theorem open_slicesL {t e : TypeId} {s : Nat} {v : Value} {d : DataW H} {p : List MemPlace} (ht : P.underlying t = some (.slice e))
    (hC : P.cellsOf e = s) (hpos : 0 < s) (hv : Value.okWide P W .any base t v) (h : DataW.Trod enc P W 0 (fun _ => true) true t v d p) :
    ∃ (A : Option Addr) (n c : Nat) (es : List (List Value)), v = .slice A n c ∧ n ≤ c ∧ c ≤ maxLen ∧ es.length = n ∧ Reads W W.heap.size s A n es.flatten ∧
      ∀ r ∈ es, r.length = s ∧ FieldL enc P W e r := by
  obtain ⟨a0, len0, cap0, rfl⟩ := okWide_slice ht hv
  obtain ⟨fuel, hf⟩ := h
  rcases open_slice ht hf with ⟨hcs, _⟩ | ⟨a, len, cap, m, fuel', D, Pl, hcs, _, hl, hm, hmm, _, hi⟩
  · simp [Value.cells] at hcs
    obtain ⟨rfl, rfl, rfl⟩ := hcs
    exact ⟨none, 0, 0, [], rfl, Nat.le_refl _, by simp [maxLen], rfl, Reads.empty, by simp⟩
  · simp [Value.cells] at hcs
    obtain ⟨rfl, rfl, rfl⟩ := hcs
    have hm' : len0 ≤ m := by rw [hmm]; simp; omega
    have each : ∀ i, i < len0 → ∃ r : List Value, r.length = s ∧ (∀ j, j < s → W.cell? (a.add (i * s + j)) = r[j]?) ∧ FieldL enc P W e r := by
      intro i hil
      obtain ⟨cs', hc, ht'⟩ := hi i (by omega)
      rw [hC] at hc
      obtain ⟨_, hcl, hat⟩ := World.cells?_some hc
      refine ⟨cs', hcl, fun j hj => ?_, _, _, ht'⟩
      rw [← Go.Deep.add_add]
      exact hat j hj
    have build : ∀ k, k ≤ len0 → ∃ es : List (List Value), es.length = k ∧ (∀ r ∈ es, r.length = s) ∧ (∀ i r, es[i]? = some r → ∀ j, j < s → W.cell? (a.add (i * s + j)) = r[j]?) ∧
        ∀ r ∈ es, FieldL enc P W e r := by
      intro k
      induction k with
      | zero => intro _; exact ⟨[], rfl, by simp, by simp, by simp⟩
      | succ k ih =>
        intro hk
        obtain ⟨es, h1, h2, h3, h4⟩ := ih (by omega)
        obtain ⟨r, g1, g2, g3⟩ := each k (by omega)
        refine ⟨es ++ [r], by simp [h1], ?_, ?_, ?_⟩
        · intro r' hr'
          rcases List.mem_append.1 hr' with hr' | hr'
          · exact h2 r' hr'
          · simp at hr'; subst hr'; exact g1
        · intro i r' hi' j hj
          rcases Nat.lt_or_ge i k with hik | hik
          · rw [List.getElem?_append_left (by omega)] at hi'
            exact h3 i r' hi' j hj
          · rw [List.getElem?_append_right (by omega), h1] at hi'
            have : i = k := by
              rcases Nat.lt_or_ge (i - k) 1 with h | h
              · omega
              · rw [List.getElem?_eq_none (by simpa using h)] at hi'; cases hi'
            subst this
            simp at hi'
            subst hi'
            exact g2 j hj
        · intro r' hr'
          rcases List.mem_append.1 hr' with hr' | hr'
          · exact h4 r' hr'
          · simp at hr'; subst hr'; exact g3
    obtain ⟨es, h1, h2, h3, h4⟩ := build len0 (Nat.le_refl _)
    have hfl : es.flatten.length = len0 * s := by
      rw [List.length_flatten, ← h1]
      clear h1 h3 h4
      induction es with
      | nil => simp
      | cons r es ih =>
        have := h2 r (by simp)
        have ih := ih (fun r' hr' => h2 r' (by simp [hr']))
        simp only [List.map_cons, List.sum_cons, List.length_cons, ih, this, Nat.succ_mul]
        omega
    refine ⟨some a, len0, cap0, es, rfl, hl, hm, h1, ⟨hfl, fun hn => ⟨a, rfl, ?_, ?_⟩⟩, fun r hr => ⟨h2 r hr, h4 r hr⟩⟩
    · have hr : es[0]? = some (es[0]'(by omega)) := List.getElem?_eq_getElem (by omega)
      have hc := h3 0 _ hr 0 hpos
      rw [List.getElem?_eq_getElem (by rw [h2 _ (List.getElem_mem _)]; exact hpos)] at hc
      have := World.block_lt_of_cell? W _ hc
      rwa [block_of_add] at this
    · intro q u hu
      have hq : q = q / s * s + q % s := by rw [Nat.mul_comm]; exact (Nat.div_add_mod q s).symm
      have hm2 : q % s < s := Nat.mod_lt _ hpos
      rw [hq, flat_at s es h2 _ _ hm2] at hu
      cases hr : es[q / s]? with
      | none => rw [hr] at hu; simp at hu
      | some r =>
        rw [hr] at hu
        simp at hu
        rw [hq, h3 _ r hr _ hm2, hu]
end
section
variable {H : Type} {enc : TypeId × Value → H} {W : World} {base : Nat}
theorem list_one (l : List Value) (h : l.length = 1) : ∃ a, l = [a] := by
  match l, h with
  | [a], _ => exact ⟨a, rfl⟩
theorem list_of_w {α : Type} (f : α → List Value) (p : α → Prop) : ∀ {es : List (List Value)}, (∀ r ∈ es, ∃ x, r = f x ∧ p x) → ∃ l : List α, es = l.map f ∧ ∀ x ∈ l, p x
  | [], _ => ⟨[], rfl, by simp⟩
  | r :: es, h => by
    obtain ⟨x, rfl, hx⟩ := h r (by simp)
    obtain ⟨l, rfl, hl⟩ := list_of_w f p (es := es) fun r' h' => h r' (by simp [h'])
    refine ⟨x :: l, rfl, fun y hy => ?_⟩
    rcases List.mem_cons.1 hy with rfl | hy
    · exact hx
    · exact hl y hy
theorem open_bools {v : Value} {d : DataW H} {p : List MemPlace} (hv : Value.okWide Try.prog W .any base 23 v) (h : DataW.Trod enc Try.prog W 0 (fun _ => true) true 23 v d p) :
    ∃ (A : Option Addr) (n c : Nat) (l : List Bool), v = .slice A n c ∧ n ≤ c ∧ c ≤ maxLen ∧ Bools W W.heap.size A n l := by
  obtain ⟨A, n, c, es, rfl, h1, h2, h3, h4, h5⟩ := open_slicesL Try.underlying23 (s := 1) (by kernel_rfl) (by omega) hv h
  obtain ⟨l, rfl, hl0⟩ := list_of_w (fun b : Bool => [Value.bool b]) (fun _ => True) (es := es) fun r hr => by
    obtain ⟨hl, hf⟩ := h5 r hr
    obtain ⟨a, rfl⟩ := list_one r hl
    obtain ⟨z, rfl⟩ := field_bool Try.underlying4 (show FieldV enc Try.prog W 4 a from hf)
    exact ⟨z, rfl, trivial⟩
  refine ⟨A, n, c, l, rfl, h1, h2, ?_⟩
  have e : (l.map fun b : Bool => [Value.bool b]).flatten = l.map Value.bool := by
    clear h3 h4 h5 hl0
    induction l with
    | nil => rfl
    | cons a l ih => rw [List.map_cons, List.flatten_cons, ih]; rfl
  rwa [e] at h4
theorem open_shs {v : Value} {d : DataW H} {p : List MemPlace} (hv : Value.okWide Try.prog W .any base 24 v) (h : DataW.Trod enc Try.prog W 0 (fun _ => true) true 24 v d p) :
    ∃ (A : Option Addr) (n c : Nat) (l : List Sh), v = .slice A n c ∧ n ≤ c ∧ c ≤ maxLen ∧ l.length = n ∧ Strs Sh.cells 4 W W.heap.size A n l ∧ ∀ x ∈ l, (Lit.int .i64 x.tt).wf = true := by
  obtain ⟨A, n, c, es, rfl, h1, h2, h3, h4, h5⟩ := open_structs_arg Try.underlying24 Try.underlying50 (by kernel_rfl) (by kernel_rfl) (by decide) hv h
  obtain ⟨l, rfl, hl⟩ := list_of_w Sh.cells (fun x => (Lit.int .i64 x.tt).wf = true) (es := es) fun r hr => by
    obtain ⟨hl, hf⟩ := h5 r hr
    obtain ⟨a, b, c, d, rfl⟩ := list_len4 r hl
    obtain ⟨x0, rfl, _⟩ := field_int Try.underlying3 (hf 0 _ _ rfl rfl)
    obtain ⟨x1, rfl, _⟩ := field_int Try.underlying3 (hf 1 _ _ rfl rfl)
    obtain ⟨x2, rfl, _⟩ := field_int Try.underlying3 (hf 2 _ _ rfl rfl)
    obtain ⟨x3, rfl, w3⟩ := field_int Try.underlying3 (hf 3 _ _ rfl rfl)
    exact ⟨⟨x0, x1, x2, x3⟩, rfl, w3⟩
  exact ⟨A, n, c, l, rfl, h1, h2, by simpa using h3, h4, hl⟩
theorem open_tasks {v : Value} {d : DataW H} {p : List MemPlace} (hv : Value.okWide Try.prog W .any base 22 v) (h : DataW.Trod enc Try.prog W 0 (fun _ => true) true 22 v d p) :
    ∃ (A : Option Addr) (n c : Nat) (ts : List Tk), v = .slice A n c ∧ n ≤ c ∧ c ≤ maxLen ∧ Tks W W.heap.size A n ts := by
  obtain ⟨A, n, c, es, rfl, h1, h2, h3, h4, h5⟩ := open_structs_arg Try.underlying22 Try.underlying34 (by kernel_rfl) (by kernel_rfl) (by decide) hv h
  have key : ∀ es : List (List Value), (∀ r ∈ es, ∃ (b : Tk) (z : Value), r = b.cells z ∧ RowV W W.heap.size z b.cl) → ∃ (bs : List Tk) (zs : List Value), bs.length = es.length ∧ zs.length = es.length ∧ es = List.zipWith Tk.cells bs zs ∧ ∀ (i : Nat) (b : Tk) (z : Value), bs[i]? = some b → zs[i]? = some z → RowV W W.heap.size z b.cl := by
    intro es
    induction es with
    | nil => intro _; exact ⟨[], [], rfl, rfl, rfl, by simp⟩
    | cons r es ih =>
      intro hr
      obtain ⟨bs, zs, g1, g2, g3, g5⟩ := ih fun r' h => hr r' (by simp [h])
      obtain ⟨b, z, rfl, hz⟩ := hr r (by simp)
      refine ⟨b :: bs, z :: zs, by simp [g1], by simp [g2], by rw [g3]; rfl, ?_⟩
      intro i b' z' hb' hz'
      cases i with
      | zero =>
        simp only [List.getElem?_cons_zero, Option.some.injEq] at hb' hz'
        subst hb' hz'
        exact hz
      | succ i =>
        simp only [List.getElem?_cons_succ] at hb' hz'
        exact g5 i b' z' hb' hz'
  obtain ⟨bs, zs, g1, g2, rfl, g5⟩ := key es fun r hr => by
    obtain ⟨hl, hf⟩ := h5 r hr
    obtain ⟨a, b, c, d, rfl⟩ := list_len4 r hl
    obtain ⟨x0, rfl, _⟩ := field_int Try.underlying3 (hf 0 _ _ rfl rfl)
    obtain ⟨x1, rfl, _⟩ := field_int Try.underlying3 (hf 1 _ _ rfl rfl)
    obtain ⟨x2, rfl⟩ := field_bool Try.underlying4 (hf 2 _ _ rfl rfl)
    obtain ⟨A', n', c', zs, rfl, k1, k2, k3, _⟩ := field_ints Try.underlying32 Try.underlying3 (by kernel_rfl) (hf 3 _ _ rfl rfl)
    exact ⟨⟨x0, x1, x2, zs⟩, _, rfl, rowV_of k3 k1 k2⟩
  exact ⟨A, n, c, bs, rfl, h1, h2, zs, g2.trans h3, g1.trans h3, h4, g5⟩
end
end Go.Proofs.Ytbegehooefhiiaa
