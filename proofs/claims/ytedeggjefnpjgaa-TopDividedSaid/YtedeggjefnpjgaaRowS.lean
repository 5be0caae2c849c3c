/-
  What is known of an argument that is a struct, or a slice of structs, of one-cell fields, over any program.
-/
import Derived.Test.YtedeggjefnpjgaaRow
import Derived.Deep.Slices
import Derived.Deep.Fields
import Derived.ChangeSame
import Derived.ChangeMaps5
namespace Go.Proofs.Ytedeggjefnpjgaa
open Go.ChangeShapes Go.WideShapes Go.ChangeAt Go.RowKit Go.Deep

theorem list_len2 {α : Type _} (l : List α) (h : l.length = 2) : ∃ a b, l = [a, b] := by
  match l, h with
  | [a, b], _ => exact ⟨a, b, rfl⟩
theorem list_len3 {α : Type _} (l : List α) (h : l.length = 3) : ∃ a b c, l = [a, b, c] := by
  match l, h with
  | [a, b, c], _ => exact ⟨a, b, c, rfl⟩
theorem list_len4 {α : Type _} (l : List α) (h : l.length = 4) : ∃ a b c d, l = [a, b, c, d] := by
  match l, h with
  | [a, b, c, d], _ => exact ⟨a, b, c, d, rfl⟩
theorem list_len5 {α : Type _} (l : List α) (h : l.length = 5) : ∃ a b c d e, l = [a, b, c, d, e] := by
  match l, h with
  | [a, b, c, d, e], _ => exact ⟨a, b, c, d, e, rfl⟩
theorem list_len6 {α : Type _} (l : List α) (h : l.length = 6) : ∃ a b c d e f, l = [a, b, c, d, e, f] := by
  match l, h with
  | [a, b, c, d, e, f], _ => exact ⟨a, b, c, d, e, f, rfl⟩
theorem list_len7 {α : Type _} (l : List α) (h : l.length = 7) : ∃ a b c d e f g, l = [a, b, c, d, e, f, g] := by
  match l, h with
  | [a, b, c, d, e, f, g], _ => exact ⟨a, b, c, d, e, f, g, rfl⟩
theorem list_len8 {α : Type _} (l : List α) (h : l.length = 8) : ∃ a b c d e f g i, l = [a, b, c, d, e, f, g, i] := by
  match l, h with
  | [a, b, c, d, e, f, g, i], _ => exact ⟨a, b, c, d, e, f, g, i, rfl⟩
theorem list_len9 {α : Type _} (l : List α) (h : l.length = 9) : ∃ a b c d e f g i j, l = [a, b, c, d, e, f, g, i, j] := by
  match l, h with
  | [a, b, c, d, e, f, g, i, j], _ => exact ⟨a, b, c, d, e, f, g, i, j, rfl⟩

section
variable {H : Type} {enc : TypeId × Value → H} {P : Program} {W : World} {base : Nat}

/-- what a field reads as -/
abbrev FieldV (enc : TypeId × Value → H) (P : Program) (W : World) (t : TypeId) (u : Value) : Prop := ∃ (y : DataW H × List MemPlace) (n : Nat), DataW.trod enc P W 0 (fun _ => true) true n t [u] = some y

theorem open_agg {t : TypeId} {fs : Array Field} {v : Value} {d : DataW H} {p : List MemPlace} (hs : P.underlying t = some (.struct fs)) (hone : oneCellFields P fs = true) (hC : P.cellsOf t = fs.size)
    (hv : Value.okWide P W .any base t v) (h : DataW.Trod enc P W 0 (fun _ => true) true t v d p) :
    ∃ l : List Value, v = .agg l.toArray ∧ l.length = fs.size ∧ ∀ (j : Nat) (f : Field) (u : Value), fs[j]? = some f → l[j]? = some u → FieldV enc P W f.type u := by
  obtain ⟨cs, rfl, hsz⟩ := okWide_struct hs hv
  obtain ⟨l⟩ := cs
  obtain ⟨fuel, hf⟩ := h
  obtain ⟨xs, n, _, hx, _, hlen, hg⟩ := DataW.trod_struct hs hf
  have hl : l.length = fs.size := by simpa [hC] using hsz
  refine ⟨l, rfl, hl, fun j f u hj hu => ?_⟩
  obtain ⟨ho, hk⟩ := hone_of hone j f hj
  have hjl : j < fs.size := (Array.getElem?_eq_some_iff.1 hj).1
  have h1 := hg j f hj
  rw [ho, hk] at h1
  have e1 : ((Value.agg l.toArray).cells.toList.drop j).take 1 = [l[j]'(by omega)] := by
    show (l.drop j).take 1 = _
    rw [List.drop_eq_getElem_cons (by omega)]
    rfl
  rw [e1] at h1
  rw [List.getElem?_eq_getElem (by omega)] at hu
  injection hu with hu
  subst hu
  have hys : xs[j]? = some (xs[j]'(by omega)) := List.getElem?_eq_getElem (by omega)
  exact ⟨_, n, h1.trans hys⟩

theorem field_int {t : TypeId} {k : IntKind} {u : Value} (ht : P.underlying t = some (.int k)) (h : FieldV enc P W t u) : ∃ z : Int, u = .int k z ∧ (Lit.int k z).wf = true := by
  obtain ⟨y, n, h⟩ := h
  obtain ⟨z, e0, _, wz⟩ := DataW.trod_int ht h
  exact ⟨z, by simpa using e0, wz⟩
theorem field_bool {t : TypeId} {u : Value} (ht : P.underlying t = some .bool) (h : FieldV enc P W t u) : ∃ z : Bool, u = .bool z := by
  obtain ⟨y, n, h⟩ := h
  obtain ⟨z, e0, _⟩ := DataW.trod_bool ht h
  exact ⟨z, by simpa using e0⟩
theorem field_string {t : TypeId} {u : Value} (ht : P.underlying t = some .string) (h : FieldV enc P W t u) : ∃ s : ByteArray, u = .string s ∧ s.size ≤ maxLen := by
  obtain ⟨y, n, h⟩ := h
  obtain ⟨s, e0, _, hs⟩ := DataW.trod_string ht h
  exact ⟨s, by simpa using e0, hs⟩
theorem field_ints {t e : TypeId} {k : IntKind} {u : Value} (ht : P.underlying t = some (.slice e)) (he : P.underlying e = some (.int k)) (hC : P.cellsOf e = 1) (h : FieldV enc P W t u) :
    ∃ (A : Option Addr) (n c : Nat) (zs : List Int), u = .slice A n c ∧ n ≤ c ∧ c ≤ maxLen ∧ Reads W W.heap.size 1 A n (zs.map (Value.int k)) ∧ ∀ z ∈ zs, (Lit.int k z).wf = true := by
  obtain ⟨y, fuel, hf⟩ := h
  rcases open_ints ht he hC hf with ⟨hcs, hx⟩ | ⟨a, len', cap', zs, hcs, _, hl, hm, hz, hx, hcell, hwz⟩
  · simp at hcs
    subst hcs
    exact ⟨none, 0, 0, [], rfl, Nat.le_refl _, by simp [maxLen], Reads.empty, by simp⟩
  · simp at hcs
    subst hcs
    simp at hz
    refine ⟨some a, len', cap', zs.take len', rfl, hl, hm, ⟨by simp; omega, fun hn => ⟨a, rfl, ?_, ?_⟩⟩, fun z hz' => hwz z (List.mem_of_mem_take hz')⟩
    · have h0 := hcell 0 (by omega)
      have := World.block_lt_of_cell? W _ h0
      rwa [block_of_add] at this
    · intro j u hu
      have hj : j < len' := by
        have := (List.getElem?_eq_some_iff.1 hu).1
        simp at this
        omega
      rw [List.getElem?_map, List.getElem?_take, if_pos hj, List.getElem?_eq_getElem (by omega)] at hu
      rw [hcell j (by omega), ← hu]
      simp [List.getElem?_eq_getElem (show j < zs.length by omega)]
theorem field_bytes {t e : TypeId} {u : Value} (ht : P.underlying t = some (.slice e)) (he : P.underlying e = some (.int .u8)) (hC : P.cellsOf e = 1) (h : FieldV enc P W t u) :
    ∃ (A : Option Addr) (n c : Nat) (l : List UInt8), u = .slice A n c ∧ n ≤ c ∧ c ≤ maxLen ∧ Bytes W W.heap.size A n l := by
  obtain ⟨A, n, c, zs, rfl, h1, h2, h3, h4⟩ := field_ints ht he hC h
  obtain ⟨l, hl⟩ := u8_of zs h4
  exact ⟨A, n, c, l, rfl, h1, h2, by rwa [hl] at h3⟩

/-- a slice of structs: the cells of each element, and what each field reads as -/
theorem open_structs {t e : TypeId} {fs : Array Field} {cs : List Value} {x : DataW H × List MemPlace} {fuel : Nat} (ht : P.underlying t = some (.slice e)) (he : P.underlying e = some (.struct fs))
    (hone : oneCellFields P fs = true) (hC : P.cellsOf e = fs.size) (hpos : 0 < fs.size) (h : DataW.trod enc P W 0 (fun _ => true) true fuel t cs = some x) :
    ∃ (A : Option Addr) (n c : Nat) (es : List (List Value)), cs = [.slice A n c] ∧ n ≤ c ∧ c ≤ maxLen ∧ es.length = n ∧ Reads W W.heap.size fs.size A n es.flatten ∧
      ∀ r ∈ es, r.length = fs.size ∧ ∀ (j : Nat) (f : Field) (u : Value), fs[j]? = some f → r[j]? = some u → FieldV enc P W f.type u := by
  rcases open_slice ht h with ⟨rfl, _⟩ | ⟨a, len, cap, m, fuel', D, Pl, rfl, _, hl, hm, hmm, _, hi⟩
  · exact ⟨none, 0, 0, [], rfl, Nat.le_refl _, by simp [maxLen], rfl, Reads.empty, by simp⟩
  · have hm' : len ≤ m := by rw [hmm]; simp; omega
    have each : ∀ i, i < len → ∃ r : List Value, r.length = fs.size ∧ (∀ j, j < fs.size → W.cell? (a.add (i * fs.size + j)) = r[j]?) ∧ ∀ (j : Nat) (f : Field) (u : Value), fs[j]? = some f → r[j]? = some u → FieldV enc P W f.type u := by
      intro i hil
      obtain ⟨cs', hc, ht'⟩ := hi i (by omega)
      rw [hC] at hc
      obtain ⟨ys, n', hn', hy, hlen, hyl, hf⟩ := DataW.trod_struct he ht'
      obtain ⟨_, hcl, hat⟩ := World.cells?_some hc
      refine ⟨cs', hcl, fun j hj => ?_, fun j f u hj hu => ?_⟩
      · rw [← Go.Deep.add_add]
        exact hat j hj
      · obtain ⟨ho, hk⟩ := hone_of hone j f hj
        have hjl : j < fs.size := (Array.getElem?_eq_some_iff.1 hj).1
        have h1 := hf j f hj
        rw [ho, hk] at h1
        have e1 : (cs'.drop j).take 1 = [cs'[j]'(by omega)] := by
          rw [List.drop_eq_getElem_cons (by omega)]
          rfl
        rw [e1] at h1
        rw [List.getElem?_eq_getElem (by omega)] at hu
        injection hu with hu
        subst hu
        have hys : ys[j]? = some (ys[j]'(by omega)) := List.getElem?_eq_getElem (by omega)
        exact ⟨_, n', h1.trans hys⟩
    have build : ∀ k, k ≤ len → ∃ es : List (List Value), es.length = k ∧ (∀ r ∈ es, r.length = fs.size) ∧ (∀ i r, es[i]? = some r → ∀ j, j < fs.size → W.cell? (a.add (i * fs.size + j)) = r[j]?) ∧
        ∀ r ∈ es, ∀ (j : Nat) (f : Field) (u : Value), fs[j]? = some f → r[j]? = some u → FieldV enc P W f.type u := by
      intro k
      induction k with
      | zero => intro _; exact ⟨[], rfl, by simp, by simp, by simp⟩
      | succ k ih =>
        intro hk
        obtain ⟨es, h1, h2, h3, h4⟩ := ih (by omega)
        obtain ⟨r, g1, g2, g3⟩ := each k (by omega)
        refine ⟨es ++ [r], by simp [h1], ?_, ?_, ?_⟩
        · intro r' hr'
          rcases List.mem_append.1 hr' with hr' | hr'
          · exact h2 r' hr'
          · simp at hr'; subst hr'; exact g1
        · intro i r' hi' j hj
          rcases Nat.lt_or_ge i k with hik | hik
          · rw [List.getElem?_append_left (by omega)] at hi'
            exact h3 i r' hi' j hj
          · rw [List.getElem?_append_right (by omega), h1] at hi'
            have : i = k := by
              rcases Nat.lt_or_ge (i - k) 1 with h | h
              · omega
              · rw [List.getElem?_eq_none (by simpa using h)] at hi'; cases hi'
            subst this
            simp at hi'
            subst hi'
            exact g2 j hj
        · intro r' hr'
          rcases List.mem_append.1 hr' with hr' | hr'
          · exact h4 r' hr'
          · simp at hr'; subst hr'; exact g3
    obtain ⟨es, h1, h2, h3, h4⟩ := build len (Nat.le_refl _)
    have hfl : es.flatten.length = len * fs.size := by
      rw [List.length_flatten, ← h1]
      clear h1 h3 h4
      induction es with
      | nil => simp
      | cons r es ih =>
        have := h2 r (by simp)
        have ih := ih (fun r' hr' => h2 r' (by simp [hr']))
        simp only [List.map_cons, List.sum_cons, List.length_cons, ih, this, Nat.succ_mul]
        omega
    have hat : ∀ (es : List (List Value)), (∀ r ∈ es, r.length = fs.size) → ∀ i j, j < fs.size → es.flatten[i * fs.size + j]? = (es[i]?).bind fun r => r[j]? := by
      intro es
      induction es with
      | nil => intro _ i j _; simp
      | cons r es ih =>
        intro hr i j hj
        have hrl := hr r (by simp)
        cases i with
        | zero => simp [List.getElem?_append_left (show j < r.length by omega)]
        | succ i =>
          rw [List.flatten_cons, List.getElem?_append_right (by rw [hrl, Nat.succ_mul]; omega), hrl, show (i + 1) * fs.size + j - fs.size = i * fs.size + j by rw [Nat.succ_mul]; omega, ih (fun r' h => hr r' (by simp [h])) i j hj]
          simp
    refine ⟨some a, len, cap, es, rfl, hl, hm, h1, ⟨hfl, fun hn => ⟨a, rfl, ?_, ?_⟩⟩, fun r hr => ⟨h2 r hr, h4 r hr⟩⟩
    · have hr : es[0]? = some (es[0]'(by omega)) := List.getElem?_eq_getElem (by omega)
      have hc := h3 0 _ hr 0 hpos
      rw [List.getElem?_eq_getElem (by rw [h2 _ (List.getElem_mem _)]; exact hpos)] at hc
      have := World.block_lt_of_cell? W _ hc
      rwa [block_of_add] at this
    · intro q u hu
      have hq : q = q / fs.size * fs.size + q % fs.size := by rw [Nat.mul_comm]; exact (Nat.div_add_mod q fs.size).symm
      have hm2 : q % fs.size < fs.size := Nat.mod_lt _ hpos
      rw [hq, hat es h2 _ _ hm2] at hu
      cases hr : es[q / fs.size]? with
      | none => rw [hr] at hu; simp at hu
      | some r =>
        rw [hr] at hu
        simp at hu
        rw [hq, h3 _ r hr _ hm2, hu]
theorem open_structs_arg {t e : TypeId} {fs : Array Field} {v : Value} {d : DataW H} {p : List MemPlace} (ht : P.underlying t = some (.slice e)) (he : P.underlying e = some (.struct fs))
    (hone : oneCellFields P fs = true) (hC : P.cellsOf e = fs.size) (hpos : 0 < fs.size) (hv : Value.okWide P W .any base t v) (h : DataW.Trod enc P W 0 (fun _ => true) true t v d p) :
    ∃ (A : Option Addr) (n c : Nat) (es : List (List Value)), v = .slice A n c ∧ n ≤ c ∧ c ≤ maxLen ∧ es.length = n ∧ Reads W W.heap.size fs.size A n es.flatten ∧
      ∀ r ∈ es, r.length = fs.size ∧ ∀ (j : Nat) (f : Field) (u : Value), fs[j]? = some f → r[j]? = some u → FieldV enc P W f.type u := by
  obtain ⟨a0, len, cap, rfl⟩ := okWide_slice ht hv
  obtain ⟨fuel, hf⟩ := h
  obtain ⟨A, n, c, es, hcs, h1⟩ := open_structs ht he hone hC hpos hf
  simp [Value.cells] at hcs
  obtain ⟨rfl, rfl, rfl⟩ := hcs
  exact ⟨_, _, _, es, rfl, h1⟩
end
end Go.Proofs.Ytedeggjefnpjgaa
