/-
  What is known of an argument that is a bulletin, or a slice of bulletins.
-/
import Derived.Test.YtmbdlnimegdigaaRowS
import Derived.Test.YtmbdlnimegdigaaBulM
namespace Go.Proofs.Ytmbdlnimegdigaa
open Go.ChangeShapes Go.WideShapes Go.ChangeAt Go.RowKit Go.Deep

section
variable {H : Type} {enc : TypeId × Value → H} {P : Program} {W : World} {base : Nat}

/-- what a field of several cells reads as -/
abbrev FieldL (enc : TypeId × Value → H) (P : Program) (W : World) (t : TypeId) (us : List Value) : Prop := ∃ (y : DataW H × List MemPlace) (n : Nat), DataW.trod enc P W 0 (fun _ => true) true n t us = some y

theorem FieldL.field {t : TypeId} {fs : Array Field} {us : List Value} (ht : P.underlying t = some (.struct fs)) (h : FieldL enc P W t us) (j : Nat) (f : Field) (hj : fs[j]? = some f) : FieldL enc P W f.type ((us.drop f.offset).take (P.cellsOf f.type)) := by
  obtain ⟨y, n, h⟩ := h
  obtain ⟨xs, n', _, _, _, hlen, hg⟩ := DataW.trod_struct ht h
  have hjl : j < fs.size := (Array.getElem?_eq_some_iff.1 hj).1
  have h1 := hg j f hj
  exact ⟨_, n', h1.trans (List.getElem?_eq_getElem (by omega))⟩

theorem open_aggL {t : TypeId} {fs : Array Field} {v : Value} {d : DataW H} {p : List MemPlace} (hs : P.underlying t = some (.struct fs))
    (hv : Value.okWide P W .any base t v) (h : DataW.Trod enc P W 0 (fun _ => true) true t v d p) :
    ∃ l : List Value, v = .agg l.toArray ∧ l.length = P.cellsOf t ∧ FieldL enc P W t l := by
  obtain ⟨cs, rfl, hsz⟩ := okWide_struct hs hv
  obtain ⟨l⟩ := cs
  obtain ⟨fuel, hf⟩ := h
  exact ⟨l, rfl, by simpa using hsz, _, fuel, hf⟩

/-- a slice of structs: the cells of each element -/
theorem open_structsL {t e : TypeId} {fs : Array Field} {s : Nat} {v : Value} {d : DataW H} {p : List MemPlace} (ht : P.underlying t = some (.slice e)) (he : P.underlying e = some (.struct fs))
    (hC : P.cellsOf e = s) (hpos : 0 < s) (hv : Value.okWide P W .any base t v) (h : DataW.Trod enc P W 0 (fun _ => true) true t v d p) :
    ∃ (A : Option Addr) (n c : Nat) (es : List (List Value)), v = .slice A n c ∧ n ≤ c ∧ c ≤ maxLen ∧ es.length = n ∧ Reads W W.heap.size s A n es.flatten ∧
      ∀ r ∈ es, r.length = s ∧ FieldL enc P W e r := by
  obtain ⟨a0, len0, cap0, rfl⟩ := okWide_slice ht hv
  obtain ⟨fuel, hf⟩ := h
  rcases open_slice ht hf with ⟨hcs, _⟩ | ⟨a, len, cap, m, fuel', D, Pl, hcs, _, hl, hm, hmm, _, hi⟩
  · simp [Value.cells] at hcs
    obtain ⟨rfl, rfl, rfl⟩ := hcs
    exact ⟨none, 0, 0, [], rfl, Nat.le_refl _, by simp [maxLen], rfl, Reads.empty, by simp⟩
  · simp [Value.cells] at hcs
    obtain ⟨rfl, rfl, rfl⟩ := hcs
    have hm' : len0 ≤ m := by rw [hmm]; simp; omega
    have each : ∀ i, i < len0 → ∃ r : List Value, r.length = s ∧ (∀ j, j < s → W.cell? (a.add (i * s + j)) = r[j]?) ∧ FieldL enc P W e r := by
      intro i hil
      obtain ⟨cs', hc, ht'⟩ := hi i (by omega)
      rw [hC] at hc
      obtain ⟨_, hcl, hat⟩ := World.cells?_some hc
      refine ⟨cs', hcl, fun j hj => ?_, _, _, ht'⟩
      rw [← Go.Deep.add_add]
      exact hat j hj
    have build : ∀ k, k ≤ len0 → ∃ es : List (List Value), es.length = k ∧ (∀ r ∈ es, r.length = s) ∧ (∀ i r, es[i]? = some r → ∀ j, j < s → W.cell? (a.add (i * s + j)) = r[j]?) ∧
        ∀ r ∈ es, FieldL enc P W e r := by
      intro k
      induction k with
      | zero => intro _; exact ⟨[], rfl, by simp, by simp, by simp⟩
      | succ k ih =>
        intro hk
        obtain ⟨es, h1, h2, h3, h4⟩ := ih (by omega)
        obtain ⟨r, g1, g2, g3⟩ := each k (by omega)
        refine ⟨es ++ [r], by simp [h1], ?_, ?_, ?_⟩
        · intro r' hr'
          rcases List.mem_append.1 hr' with hr' | hr'
          · exact h2 r' hr'
          · simp at hr'; subst hr'; exact g1
        · intro i r' hi' j hj
          rcases Nat.lt_or_ge i k with hik | hik
          · rw [List.getElem?_append_left (by omega)] at hi'
            exact h3 i r' hi' j hj
          · rw [List.getElem?_append_right (by omega), h1] at hi'
            have : i = k := by
              rcases Nat.lt_or_ge (i - k) 1 with h | h
              · omega
              · rw [List.getElem?_eq_none (by simpa using h)] at hi'; cases hi'
            subst this
            simp at hi'
            subst hi'
            exact g2 j hj
        · intro r' hr'
          rcases List.mem_append.1 hr' with hr' | hr'
          · exact h4 r' hr'
          · simp at hr'; subst hr'; exact g3
    obtain ⟨es, h1, h2, h3, h4⟩ := build len0 (Nat.le_refl _)
    have hfl : es.flatten.length = len0 * s := by
      rw [List.length_flatten, ← h1]
      clear h1 h3 h4
      induction es with
      | nil => simp
      | cons r es ih =>
        have := h2 r (by simp)
        have ih := ih (fun r' hr' => h2 r' (by simp [hr']))
        simp only [List.map_cons, List.sum_cons, List.length_cons, ih, this, Nat.succ_mul]
        omega
    refine ⟨some a, len0, cap0, es, rfl, hl, hm, h1, ⟨hfl, fun hn => ⟨a, rfl, ?_, ?_⟩⟩, fun r hr => ⟨h2 r hr, h4 r hr⟩⟩
    · have hr : es[0]? = some (es[0]'(by omega)) := List.getElem?_eq_getElem (by omega)
      have hc := h3 0 _ hr 0 hpos
      rw [List.getElem?_eq_getElem (by rw [h2 _ (List.getElem_mem _)]; exact hpos)] at hc
      have := World.block_lt_of_cell? W _ hc
      rwa [block_of_add] at this
    · intro q u hu
      have hq : q = q / s * s + q % s := by rw [Nat.mul_comm]; exact (Nat.div_add_mod q s).symm
      have hm2 : q % s < s := Nat.mod_lt _ hpos
      rw [hq, flat_at s es h2 _ _ hm2] at hu
      cases hr : es[q / s]? with
      | none => rw [hr] at hu; simp at hu
      | some r =>
        rw [hr] at hu
        simp at hu
        rw [hq, h3 _ r hr _ hm2, hu]
end

section
variable {H : Type} {enc : TypeId × Value → H} {W : World} {base : Nat}
/-- the bounds of a bulletin's numbers -/
def BuW (b : Bu) : Prop := (Lit.int .i64 b.ver).wf = true ∧ (Lit.int .i64 b.fr).wf = true ∧ (Lit.int .i64 b.ti).wf = true ∧ (Lit.int .i64 b.lo).wf = true ∧ (Lit.int .i64 b.hi).wf = true ∧ (Lit.int .i64 b.lev).wf = true ∧ ∀ z ∈ b.zs, (Lit.int .i64 z).wf = true

theorem bul_field {l : List Value} (hl : l.length = 7) (h : FieldL enc Try.prog W 31 l) :
    ∃ (b : Bu) (A : Option Addr) (c : Nat), l = b.cells (.slice A b.zs.length c) ∧ b.zs.length ≤ c ∧ c ≤ maxLen ∧ Ints W W.heap.size A b.zs.length b.zs ∧ BuW b := by
  obtain ⟨a0, a1, a2, a3, a4, a5, a6, rfl⟩ := list_len7 l hl
  have hf := h.field Try.underlying31
  obtain ⟨ver, rfl, w0⟩ := field_int Try.underlying3 (show FieldV enc Try.prog W 3 a0 from hf 0 _ rfl)
  have hs := (show FieldL enc Try.prog W 28 [a1, a2] from hf 1 _ rfl).field Try.underlying28
  obtain ⟨fr, rfl, w1⟩ := field_int Try.underlying3 (show FieldV enc Try.prog W 3 a1 from hs 0 _ rfl)
  obtain ⟨ti, rfl, w2⟩ := field_int Try.underlying3 (show FieldV enc Try.prog W 3 a2 from hs 1 _ rfl)
  obtain ⟨lo, rfl, w3⟩ := field_int Try.underlying3 (show FieldV enc Try.prog W 3 a3 from hf 2 _ rfl)
  obtain ⟨hi, rfl, w4⟩ := field_int Try.underlying3 (show FieldV enc Try.prog W 3 a4 from hf 3 _ rfl)
  obtain ⟨A, n, c, zs, rfl, h1, h2, h3, h4⟩ := field_ints Try.underlying29 Try.underlying3 (by kernel_rfl) (show FieldV enc Try.prog W 29 a5 from hf 4 _ rfl)
  obtain ⟨lev, rfl, w5⟩ := field_int Try.underlying3 (show FieldV enc Try.prog W 3 a6 from hf 5 _ rfl)
  have hn : zs.length = n := Reads.ilen h3
  subst hn
  exact ⟨⟨ver, fr, ti, lo, hi, lev, zs⟩, A, c, rfl, h1, h2, h3, w0, w1, w2, w3, w4, w5, h4⟩

theorem open_bul {v : Value} {d : DataW H} {p : List MemPlace} (hv : Value.okWide Try.prog W .any base 31 v) (h : DataW.Trod enc Try.prog W 0 (fun _ => true) true 31 v d p) :
    ∃ (b : Bu) (A : Option Addr) (c : Nat), v = .agg (b.cells (.slice A b.zs.length c)).toArray ∧ b.zs.length ≤ c ∧ c ≤ maxLen ∧ Ints W W.heap.size A b.zs.length b.zs ∧ BuW b := by
  obtain ⟨l, rfl, hl, hf⟩ := open_aggL Try.underlying31 hv h
  obtain ⟨b, A, c, rfl, h1⟩ := bul_field (hl.trans (by kernel_rfl)) hf
  exact ⟨b, A, c, rfl, h1⟩

theorem open_buls {v : Value} {d : DataW H} {p : List MemPlace} (hv : Value.okWide Try.prog W .any base 22 v) (h : DataW.Trod enc Try.prog W 0 (fun _ => true) true 22 v d p) :
    ∃ (A : Option Addr) (n c : Nat) (bs : List Bu), v = .slice A n c ∧ n ≤ c ∧ c ≤ maxLen ∧ Buls W W.heap.size A n bs ∧ ∀ b ∈ bs, BuW b := by
  obtain ⟨A, n, c, es, rfl, h1, h2, h3, h4, h5⟩ := open_structsL Try.underlying22 Try.underlying31 (s := 7) (by kernel_rfl) (by omega) hv h
  have key : ∀ es : List (List Value), (∀ r ∈ es, r.length = 7 ∧ FieldL enc Try.prog W 31 r) → ∃ (bs : List Bu) (zs : List Value), bs.length = es.length ∧ zs.length = es.length ∧ es = List.zipWith Bu.cells bs zs ∧ (∀ b ∈ bs, BuW b) ∧ ∀ (i : Nat) (b : Bu) (z : Value), bs[i]? = some b → zs[i]? = some z → RowV W W.heap.size z b.zs := by
    intro es
    induction es with
    | nil => intro _; exact ⟨[], [], rfl, rfl, rfl, by simp, by simp⟩
    | cons r es ih =>
      intro hr
      obtain ⟨bs, zs, g1, g2, g3, g4, g5⟩ := ih fun r' h => hr r' (by simp [h])
      obtain ⟨hl, hf⟩ := hr r (by simp)
      obtain ⟨b, A', c', rfl, k1, k2, k3, k4⟩ := bul_field hl hf
      refine ⟨b :: bs, .slice A' b.zs.length c' :: zs, by simp [g1], by simp [g2], by rw [g3]; rfl, ?_, ?_⟩
      · intro b' hb'
        rcases List.mem_cons.1 hb' with rfl | hb'
        · exact k4
        · exact g4 b' hb'
      · intro i b' z' hb' hz'
        cases i with
        | zero =>
          simp only [List.getElem?_cons_zero, Option.some.injEq] at hb' hz'
          subst hb' hz'
          exact ⟨A', c', rfl, k1, k2, k3⟩
        | succ i =>
          simp only [List.getElem?_cons_succ] at hb' hz'
          exact g5 i b' z' hb' hz'
  obtain ⟨bs, zs, g1, g2, rfl, g4, g5⟩ := key es h5
  exact ⟨A, n, c, bs, rfl, h1, h2, ⟨zs, g2.trans h3, g1.trans h3, h4, g5⟩, g4⟩
theorem buw64 {b : Bu} (h : BuW b) : ∀ z ∈ b.zs, (Lit.int .i64 z).wf = true := h.2.2.2.2.2.2
end
end Go.Proofs.Ytmbdlnimegdigaa
