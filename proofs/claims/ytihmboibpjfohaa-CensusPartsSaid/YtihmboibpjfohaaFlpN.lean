/-
  More is carried along the path that search has found, in plain Lean.
-/
import Derived.Test.YtihmboibpjfohaaFlsN
namespace Go.Proofs.Ytihmboibpjfohaa

structure PuI (es : List Ed) (f : List Int) (seen : List Int) (t x : Int) (j : Nat) (f' : List Int) : Prop where
  len : f'.length = es.length
  net : ∀ v, netN es f' v = netN es f v + (if seen.getD j 0 = v then x else 0) - (if t = v then x else 0)
  far : ∀ i, i < es.length → f'.getD i 0 ≠ f.getD i 0 → ∃ k, j < k ∧ k < seen.length ∧ (seen.getD k 0 = (es.getD i edZ).fr ∨ seen.getD k 0 = (es.getD i edZ).tt)
  bnd : ∀ i, i < es.length → 0 ≤ f'.getD i 0 ∧ f'.getD i 0 ≤ (es.getD i edZ).cst
theorem PuI.start {es : List Ed} {f seen : List Int} {t x : Int} {j : Nat} (hl : f.length = es.length) (ht : seen.getD j 0 = t) (hb : ∀ i, i < es.length → 0 ≤ f.getD i 0 ∧ f.getD i 0 ≤ (es.getD i edZ).cst) : PuI es f seen t x j f :=
  ⟨hl, fun v => by rw [ht]; omega, fun i _ h => absurd rfl h, hb⟩
theorem nodup_at {l : List Int} (h : l.Nodup) {i j : Nat} (hi : i < l.length) (hj : j < l.length) (he : l.getD i 0 = l.getD j 0) : i = j := by
  rw [List.getD_eq_getElem?_getD, List.getD_eq_getElem?_getD, List.getElem?_eq_getElem hi, List.getElem?_eq_getElem hj] at he
  simp only [Option.getD_some] at he
  have hp := List.pairwise_iff_getElem.1 h
  rcases Nat.lt_trichotomy i j with hlt | heq | hgt
  · exact absurd he (hp i j hi hj hlt)
  · exact heq
  · exact absurd he.symm (hp j i hj hi hgt)
theorem PuI.same {es : List Ed} {f seen : List Int} {t x : Int} {j i : Nat} {f' : List Int} {m : Mv} (h : PuI es f seen t x j f') (hd : seen.Nodup) (hij : i < j) (hj : j < seen.length) (hm : m.edge < es.length) (ht : mvTo es m = seen.getD j 0) (hf : mvFrom es m = seen.getD i 0) : f'.getD m.edge 0 = f.getD m.edge 0 := by
  refine Classical.byContradiction fun hne => ?_
  obtain ⟨k, h1, h2, h3⟩ := h.far m.edge hm hne
  have hk : seen.getD k 0 = seen.getD i 0 ∨ seen.getD k 0 = seen.getD j 0 := by
    unfold mvTo at ht
    unfold mvFrom at hf
    cases hfw : m.fwd
    · rw [hfw] at ht hf
      simp only [Bool.false_eq_true, if_false] at ht hf
      rcases h3 with h3 | h3
      · exact .inr (h3.trans ht)
      · exact .inl (h3.trans hf)
    · rw [hfw] at ht hf
      simp only [if_true] at ht hf
      rcases h3 with h3 | h3
      · exact .inl (h3.trans hf)
      · exact .inr (h3.trans ht)
  rcases hk with hk | hk
  · have := nodup_at hd h2 (by omega) hk
    omega
  · have := nodup_at hd h2 hj hk
    omega
theorem PuI.step {es : List Ed} {f seen : List Int} {t x : Int} {j i : Nat} {f' : List Int} {m : Mv} (h : PuI es f seen t x j f') (hd : seen.Nodup) (hij : i < j) (hj : j < seen.length) (hm : m.edge < es.length) (ht : mvTo es m = seen.getD j 0) (hf : mvFrom es m = seen.getD i 0) (hx : 0 < x) (hr : x ≤ roomN es f m) :
    PuI es f seen t x i (pushM f' x m) := by
  have hs := h.same hd hij hj hm ht hf
  have hb := h.bnd m.edge hm
  have hle : m.edge < f'.length := by rw [h.len]; exact hm
  have hget : ∀ q, (pushM f' x m).getD q 0 = if q = m.edge then f'.getD m.edge 0 + (if m.fwd = true then x else -x) else f'.getD q 0 := by
    intro q
    unfold pushM
    rw [List.getD_eq_getElem?_getD, List.getElem?_set]
    by_cases hq : q = m.edge
    · subst hq
      rw [if_pos rfl, if_pos hle, if_pos rfl]
      rfl
    · rw [if_neg (Ne.symm hq), if_neg hq]
      rfl
  refine ⟨by unfold pushM; rw [List.length_set]; exact h.len, fun v => ?_, fun q hq hne => ?_, fun q hq => ?_⟩
  · rw [net_push es f' x m v h.len hm, h.net v, ht, hf]
    omega
  · rw [hget q] at hne
    by_cases hqe : q = m.edge
    · subst hqe
      refine ⟨j, hij, hj, ?_⟩
      unfold mvTo at ht
      cases hfw : m.fwd
      · rw [hfw] at ht
        simp only [Bool.false_eq_true, if_false] at ht
        exact .inl ht.symm
      · rw [hfw] at ht
        simp only [if_true] at ht
        exact .inr ht.symm
    · rw [if_neg hqe] at hne
      obtain ⟨k, h1, h2, h3⟩ := h.far q hq hne
      exact ⟨k, by omega, h2, h3⟩
  · rw [hget q]
    by_cases hqe : q = m.edge
    · subst hqe
      rw [if_pos rfl]
      simp only [edZ] at hb ⊢
      unfold roomN at hr
      rw [← hs] at hr
      cases hfw : m.fwd
      · rw [hfw] at hr
        simp only [Bool.false_eq_true, if_false] at hr ⊢
        omega
      · rw [hfw] at hr
        simp only [if_true] at hr ⊢
        omega
    · rw [if_neg hqe]
      exact h.bnd q hq
end Go.Proofs.Ytihmboibpjfohaa
