/-
  Plain law of chapter 56: sweeping in an order that is allowed leaves nobody. No program is in sight.
-/
import Derived.Test.YticoeibccdplaaaSwpO
namespace Go.Proofs.Yticoeibccdplaaa

/-- each run of a list is ready behind those before -/
def Topo (bef : Int → Int → Bool) (runs L : List Int) : Prop := ∀ i, i < L.length → L.getD i 0 ∈ readyL bef runs (L.take i)
theorem topo_ord {bef : Int → Int → Bool} {runs : List Int} : Topo bef runs (ordN bef runs) := fun _ h => ord_ready h
theorem topo_swept {bef : Int → Int → Bool} {runs : List Int} {bg : Int} {sw : List Sw} (h : ∀ k, k < sw.length → chk3 bef runs bg sw k = 0) : Topo bef runs (sw.map Sw.run) := fun i hi => by
  rw [List.length_map] at hi
  obtain ⟨h1, h2, _, _, h5⟩ := chk3_zero.1 (h i hi)
  rw [show (sw.map Sw.run).getD i 0 = (sw.getD i sw0).run by simp [List.getElem?_eq_getElem hi], ← List.map_take]
  exact List.mem_filter.2 ⟨by simpa using h1, by rw [h2, h5]; rfl⟩
theorem allGo_snoc {bef : Int → Int → Bool} {out : Int → Bool} {runs : List Int} (x : Int) : ∀ (l p : List Int) (left : Int), allGo bef out runs (l ++ [x]) p left = ((pushN bef out runs (allGo bef out runs l p left).1 (indI runs x).toNat).1, (allGo bef out runs l p left).2 + (pushN bef out runs (allGo bef out runs l p left).1 (indI runs x).toNat).2)
  | [], p, left => rfl
  | y :: l, p, left => by
    rw [List.cons_append, allGo, allGo_snoc x l]
    rfl
theorem getD_set_eq (l : List Int) (i : Nat) (v : Int) (h : i < l.length) : (l.set i v).getD i 0 = v := by simp [h]
theorem getD_set_ne (l : List Int) (i k : Nat) (v : Int) (h : i ≠ k) : (l.set i v).getD k 0 = l.getD k 0 := by simp [List.getElem?_set_ne h]
theorem nodup_at {l : List Int} (h : l.Nodup) {i j : Nat} (hi : i < l.length) (hj : j < l.length) (e : l.getD i 0 = l.getD j 0) : i = j := by
  rw [show l.getD i 0 = l[i] by simp [List.getElem?_eq_getElem hi], show l.getD j 0 = l[j] by simp [List.getElem?_eq_getElem hj]] at e
  exact (List.getElem_inj h).1 e
/-- where those of a run go on to -/
theorem low_at {f : Int → Bool} : ∀ {l : List Int} {k : Nat}, 0 ≤ idxF f l k → ∃ j, idxF f l k = ((k + j : Nat) : Int) ∧ j < l.length ∧ f (l.getD j 0) = true
  | [], k, h => by simp [idxF] at h
  | x :: l, k, h => by
    rw [idxF] at h ⊢
    by_cases hx : f x = true
    · rw [if_pos hx]
      exact ⟨0, rfl, by simp, by simpa using hx⟩
    · rw [if_neg hx] at h ⊢
      obtain ⟨j, h1, h2, h3⟩ := low_at h
      exact ⟨j + 1, by rw [h1]; congr 1; omega, by simpa using h2, by simpa using h3⟩
section
variable {rs : List Rn} {bs runs L people : List Int} {alt : Int → Int}
theorem topo_inv (hdown : ∀ r ∈ rs, alt r.tt < alt r.fr) (hall : ∀ x ∈ runs, hasR rs x = true) (hnd : runs.Nodup) (hlow : ∀ x ∈ runs, outP rs bs x = false → 0 ≤ lowI (befP rs) runs x) (hT : Topo (befP rs) runs L) (hl : people.length = runs.length) (hn : ∀ z ∈ people, 0 ≤ z) :
    ∀ i, i ≤ L.length → (allGo (befP rs) (outP rs bs) runs (L.take i) people 0).1.length = runs.length ∧ (∀ z ∈ (allGo (befP rs) (outP rs bs) runs (L.take i) people 0).1, 0 ≤ z) ∧ 0 ≤ (allGo (befP rs) (outP rs bs) runs (L.take i) people 0).2 ∧
      (allGo (befP rs) (outP rs bs) runs (L.take i) people 0).1.sum + (allGo (befP rs) (outP rs bs) runs (L.take i) people 0).2 = people.sum ∧ ∀ k, k < runs.length → runs.getD k 0 ∈ L.take i → (allGo (befP rs) (outP rs bs) runs (L.take i) people 0).1.getD k 0 = 0
  | 0, _ => by
    refine ⟨hl, hn, Int.le_refl _, ?_, fun k _ h => by simp at h⟩
    show people.sum + 0 = _
    omega
  | i + 1, hi => by
    obtain ⟨h1, h2, h3, h4, h5⟩ := topo_inv hdown hall hnd hlow hT hl hn i (by omega)
    obtain ⟨hxr, hxn, hxp⟩ := ready_mem (hT i (by omega))
    rw [take_at L i (by omega), allGo_snoc]
    generalize allGo (befP rs) (outP rs bs) runs (L.take i) people 0 = s at *
    obtain ⟨p, g⟩ := s
    generalize hx : L.getD i 0 = x at *
    obtain ⟨j, hj, hjl, hjx⟩ := ind_of hxr
    rw [hj, show ((j : Int)).toNat = j from rfl]
    obtain ⟨k1, k2, k3, k4⟩ := push_keep (bef := befP rs) (out := outP rs bs) h1 hjl h2
    simp only at h1 h2 h3 h4 h5 k1 k2 k3 k4 ⊢
    refine ⟨k1, k2, by omega, by omega, fun k hk hm => ?_⟩
    have hkj : runs.getD k 0 ∈ L.take i ∨ k = j := by
      rcases List.mem_append.1 hm with h | h
      · exact .inl h
      · right
        have : runs.getD k 0 = x := by simpa using h
        exact nodup_at hnd hk hjl (by rw [this, hjx])
    cases ho : outP rs bs x with
    | true =>
      have e : pushN (befP rs) (outP rs bs) runs p j = (p.set j 0, p.getD j 0) := by unfold pushN; rw [hjx, if_pos ho]
      rw [e]
      by_cases hkj2 : k = j
      · rw [hkj2]; exact getD_set_eq p j 0 (by omega)
      · rw [getD_set_ne p j k 0 (fun h => hkj2 h.symm)]
        rcases hkj with h | h
        · exact h5 k hk h
        · exact absurd h hkj2
    | false =>
      have hlx := hlow x hxr ho
      obtain ⟨m, hm1, hm2, hm3⟩ := low_at (f := befP rs x) (l := runs) (k := 0) hlx
      have hm0 : lowI (befP rs) runs x = (m : Int) := by unfold lowI; rw [hm1, Nat.zero_add]
      have e : pushN (befP rs) (outP rs bs) runs p j = ((p.set j 0).set m ((p.set j 0).getD m 0 + p.getD j 0), 0) := by
        unfold pushN
        rw [hjx, if_neg (by rw [ho]; simp), if_pos hlx, hm0]
        rfl
      rw [e]
      have hy : runs.getD m 0 ∈ runs := mem_at hm2
      have hmk : m ≠ k := by
        rintro rfl
        have hb : (getR rs x).tt = (getR rs (runs.getD m 0)).fr := by simpa [befP] using hm3
        rcases hkj with h | h
        · -- below stands before x in the list: then x would stand before it
          obtain ⟨i', hi', hie⟩ := at_mem h
          have hlt : i' < i := by simp at hi'; omega
          have hr' := hT i' (by omega)
          rw [show L.getD i' 0 = runs.getD m 0 by rw [← hie]; simp [hlt]] at hr'
          obtain ⟨_, _, hp⟩ := ready_mem hr'
          unfold possB at hp
          rw [List.all_eq_true] at hp
          have hq := hp x hxr
          rw [hm3] at hq
          have hq2 : x ∈ L.take i' := by simpa using hq
          have hq3 : x ∈ L.take i := List.mem_of_mem_take (i := i') (by rw [List.take_take, Nat.min_eq_left (by omega)]; exact hq2)
          have : ¬ x ∈ L.take i := by simpa using hxn
          exact this hq3
        · have hxx : runs.getD m 0 = x := by rw [h, hjx]
          rw [hxx] at hb
          have := hdown _ (getR_mem (hall x hxr))
          rw [hb] at this
          omega
      rw [getD_set_ne _ m k _ hmk]
      by_cases hkj2 : k = j
      · rw [hkj2]; exact getD_set_eq p j 0 (by omega)
      · rw [getD_set_ne p j k 0 (fun h => hkj2 h.symm)]
        rcases hkj with h | h
        · exact h5 k hk h
        · exact absurd h hkj2
theorem sum_zero : ∀ {l : List Int}, (∀ k, k < l.length → l.getD k 0 = 0) → l.sum = 0
  | [], _ => rfl
  | x :: l, h => by
    have h0 : x = 0 := by simpa using h 0 (by simp)
    have h1 := sum_zero (l := l) fun k hk => by simpa using h (k + 1) (by simpa using hk)
    rw [List.sum_cons, h0, h1]
    rfl
theorem covers {L : List Int} (h1 : L.Nodup) (h2 : ∀ x ∈ L, x ∈ runs) (hl : L.length = runs.length) : ∀ x ∈ runs, x ∈ L := fun x hx => by
  cases hc : L.contains x with
  | true => simpa using hc
  | false =>
    have := nodup_le (nodup_snoc h1 hc) (m := runs) fun y hy => by
      rcases List.mem_append.1 hy with hy | hy
      · exact h2 y hy
      · obtain rfl : y = x := by simpa using hy
        exact hx
    simp at this
    omega
/-- behind an order that has all runs nobody is left, and all have gone -/
theorem topo_end (hdown : ∀ r ∈ rs, alt r.tt < alt r.fr) (hall : ∀ x ∈ runs, hasR rs x = true) (hnd : runs.Nodup) (hlow : ∀ x ∈ runs, outP rs bs x = false → 0 ≤ lowI (befP rs) runs x) (hT : Topo (befP rs) runs L) (hl : people.length = runs.length) (hn : ∀ z ∈ people, 0 ≤ z) (hc : ∀ x ∈ runs, x ∈ L) :
    (allGo (befP rs) (outP rs bs) runs L people 0).1.sum = 0 ∧ (allGo (befP rs) (outP rs bs) runs L people 0).2 = people.sum := by
  obtain ⟨h1, _, _, h4, h5⟩ := topo_inv hdown hall hnd hlow hT hl hn L.length (Nat.le_refl _)
  rw [List.take_length] at h1 h4 h5
  have hz := sum_zero (l := (allGo (befP rs) (outP rs bs) runs L people 0).1) fun k hk => h5 k (by omega) (hc _ (mem_at (by omega)))
  exact ⟨hz, by omega⟩
end
end Go.Proofs.Yticoeibccdplaaa
