/-
  What search of flow has found, in plain Lean.
  More is carried along the path that search has found, in plain Lean.
  Find of flow, in plain Lean: a flow that more is carried along, and the end.
-/
import Derived.Test.YtihmboibpjfohaaFloN
import Derived.Test.YtihmboibpjfohaaMapI
namespace Go.Proofs.Ytihmboibpjfohaa

section
abbrev edZ : Ed := ⟨0, 0, 0, 0⟩
structure SrI (es : List Ed) (f : List Int) (s : Int) (g : Int → Option Mv) (seen : List Int) : Prop where
  pos : 0 < seen.length
  head : seen.getD 0 0 = s
  nodup : seen.Nodup
  dom : ∀ y, g y ≠ none ↔ y ∈ seen
  mv : ∀ j, 0 < j → j < seen.length → ∃ m i, i < j ∧ g (seen.getD j 0) = some m ∧ m.edge < es.length ∧ mvTo es m = seen.getD j 0 ∧ mvFrom es m = seen.getD i 0 ∧ 0 < roomN es f m
  ends : ∀ y ∈ seen, y = s ∨ ∃ e ∈ es, y = e.fr ∨ y = e.tt
theorem getD_mem {l : List Int} {k : Nat} (h : k < l.length) : l.getD k 0 ∈ l := by simp [List.getElem?_eq_getElem h]
theorem getD_app {l m : List Int} {k : Nat} (h : k < l.length) : (l ++ m).getD k 0 = l.getD k 0 := by simp [List.getElem?_append_left h]
theorem getD_last (l : List Int) (x : Int) : (l ++ [x]).getD l.length 0 = x := by simp
theorem ed_mem {es : List Ed} {k : Nat} (h : k < es.length) : es.getD k edZ ∈ es := by simp [List.getElem?_eq_getElem h]
theorem SrI.start (es : List Ed) (f : List Int) (s : Int) : SrI es f s (putF (fun _ => none) s ⟨0, false⟩) [s] := by
  refine ⟨by simp, by simp, by simp, fun y => ?_, fun j h0 h1 => by simp at h1; omega, fun y hy => .inl (by simpa using hy)⟩
  by_cases hy : y = s
  · subst hy; simp [putF_same]
  · simp [putF_other hy, hy]
theorem SrI.step {es : List Ed} {f : List Int} {s : Int} {g : Int → Option Mv} {seen : List Int} (h : SrI es f s g seen) {m : Mv} {p : Nat} (hp : p < seen.length) (hm : m.edge < es.length) (hf : mvFrom es m = seen.getD p 0) (hn : g (mvTo es m) = none) (hr : 0 < roomN es f m) :
    SrI es f s (putF g (mvTo es m) m) (seen ++ [mvTo es m]) := by
  have hnm : mvTo es m ∉ seen := fun hc => (h.dom _).2 hc hn
  refine ⟨by simp, by rw [getD_app h.pos]; exact h.head, ?_, fun y => ?_, fun j h0 h1 => ?_, fun y hy => ?_⟩
  · rw [List.nodup_append]
    refine ⟨h.nodup, by simp, fun a ha b hb => ?_⟩
    rw [List.mem_singleton.1 hb]
    exact fun e => hnm (e ▸ ha)
  · by_cases hy : y = mvTo es m
    · subst hy; simp [putF_same]
    · rw [putF_other hy, h.dom y]; simp [hy]
  · rw [List.length_append, List.length_singleton] at h1
    rcases Nat.lt_or_ge j seen.length with hj | hj
    · obtain ⟨m', i, a1, a2, a3, a4, a5, a6⟩ := h.mv j h0 hj
      rw [getD_app hj]
      refine ⟨m', i, a1, ?_, a3, a4, by rw [getD_app (by omega)]; exact a5, a6⟩
      rw [putF_other (fun e : seen.getD j 0 = mvTo es m => hnm (by rw [← e]; exact getD_mem hj))]
      exact a2
    · obtain rfl : j = seen.length := by omega
      rw [getD_last]
      exact ⟨m, p, hp, putF_same _ _ _, hm, rfl, by rw [getD_app hp]; exact hf, hr⟩
  · rcases List.mem_append.1 hy with hy | hy
    · exact h.ends y hy
    · rw [List.mem_singleton.1 hy]
      right
      refine ⟨es.getD m.edge edZ, ed_mem hm, ?_⟩
      unfold mvTo
      split
      · exact .inr rfl
      · exact .inl rfl
theorem sub_len : ∀ (l m : List Int), l.Nodup → (∀ x ∈ l, x ∈ m) → l.length ≤ m.length
  | [], _, _, _ => by simp
  | x :: l, m, hd, hs => by
    obtain ⟨h1, h2⟩ := List.nodup_cons.1 hd
    have h3 := sub_len l (m.erase x) h2 fun y hy => (List.mem_erase_of_ne (fun e => h1 (by rw [← e]; exact hy))).2 (hs y (by simp [hy]))
    have h4 := List.length_erase_of_mem (hs x (by simp))
    have h5 := List.length_pos_of_mem (hs x (by simp))
    simp only [List.length_cons]
    omega
theorem SrI.short {es : List Ed} {f : List Int} {s : Int} {g : Int → Option Mv} {seen : List Int} (h : SrI es f s g seen) : seen.length ≤ 2 * es.length + 1 := by
  have h1 := sub_len seen (s :: (es.map Ed.fr ++ es.map Ed.tt)) h.nodup fun y hy => by
    rcases h.ends y hy with rfl | ⟨e, he, rfl | rfl⟩
    · simp
    · simp only [List.mem_cons, List.mem_append]; exact .inr (.inl (List.mem_map_of_mem he))
    · simp only [List.mem_cons, List.mem_append]; exact .inr (.inr (List.mem_map_of_mem he))
  simp at h1
  omega
/-- all that can be reached from y by the first i edges is found -/
def ClosedTo (es : List Ed) (f : List Int) (g : Int → Option Mv) (y : Int) (i : Nat) : Prop :=
  ∀ k, k < i → k < es.length → ((es.getD k edZ).fr = y → 0 < roomN es f ⟨k, true⟩ → g (es.getD k edZ).tt ≠ none) ∧ ((es.getD k edZ).tt = y → 0 < roomN es f ⟨k, false⟩ → g (es.getD k edZ).fr ≠ none)
theorem ClosedTo.more {es : List Ed} {f : List Int} {g g' : Int → Option Mv} {y : Int} {i : Nat} (h : ClosedTo es f g y i) (hg : ∀ z, g z ≠ none → g' z ≠ none) : ClosedTo es f g' y i :=
  fun k h1 h2 => ⟨fun a b => hg _ ((h k h1 h2).1 a b), fun a b => hg _ ((h k h1 h2).2 a b)⟩
structure Inv (es : List Ed) (f : List Int) (s : Int) (p : Nat) (y : Int) (g : Int → Option Mv) (seen : List Int) (nm : Nat) : Prop where
  sr : SrI es f s g seen
  lt : p < seen.length
  at_ : seen.getD p 0 = y
  nm : nm ≤ seen.length
  cl : ∀ j, j < p → ClosedTo es f g (seen.getD j 0) es.length
theorem Inv.step {es : List Ed} {f : List Int} {s : Int} {p nm : Nat} {y : Int} {g : Int → Option Mv} {seen : List Int} (h : Inv es f s p y g seen nm) {m : Mv} (hm : m.edge < es.length) (hf : mvFrom es m = y) (hn : g (mvTo es m) = none) (hr : 0 < roomN es f m) :
    Inv es f s p y (putF g (mvTo es m) m) (seen ++ [mvTo es m]) (nm + 1) ∧ (∀ z, g z ≠ none → putF g (mvTo es m) m z ≠ none) := by
  have hg : ∀ z, g z ≠ none → putF g (mvTo es m) m z ≠ none := fun z hz => by
    by_cases e : z = mvTo es m
    · rw [e, putF_same]; simp
    · rw [putF_other e]; exact hz
  refine ⟨⟨h.sr.step h.lt hm (by rw [h.at_]; exact hf) hn hr, by simp; have := h.lt; omega, by rw [getD_app h.lt]; exact h.at_, by have := h.nm; simp; omega, fun j hj => ?_⟩, hg⟩
  rw [getD_app (by have := h.lt; omega)]
  exact (h.cl j hj).more hg
end

section
structure PuI (es : List Ed) (f : List Int) (seen : List Int) (t x : Int) (j : Nat) (f' : List Int) : Prop where
  len : f'.length = es.length
  net : ∀ v, netN es f' v = netN es f v + (if seen.getD j 0 = v then x else 0) - (if t = v then x else 0)
  far : ∀ i, i < es.length → f'.getD i 0 ≠ f.getD i 0 → ∃ k, j < k ∧ k < seen.length ∧ (seen.getD k 0 = (es.getD i edZ).fr ∨ seen.getD k 0 = (es.getD i edZ).tt)
  bnd : ∀ i, i < es.length → 0 ≤ f'.getD i 0 ∧ f'.getD i 0 ≤ (es.getD i edZ).cst
theorem PuI.start {es : List Ed} {f seen : List Int} {t x : Int} {j : Nat} (hl : f.length = es.length) (ht : seen.getD j 0 = t) (hb : ∀ i, i < es.length → 0 ≤ f.getD i 0 ∧ f.getD i 0 ≤ (es.getD i edZ).cst) : PuI es f seen t x j f :=
  ⟨hl, fun v => by rw [ht]; omega, fun i _ h => absurd rfl h, hb⟩
theorem nodup_at {l : List Int} (h : l.Nodup) {i j : Nat} (hi : i < l.length) (hj : j < l.length) (he : l.getD i 0 = l.getD j 0) : i = j := by
  rw [List.getD_eq_getElem?_getD, List.getD_eq_getElem?_getD, List.getElem?_eq_getElem hi, List.getElem?_eq_getElem hj] at he
  simp only [Option.getD_some] at he
  have hp := List.pairwise_iff_getElem.1 h
  rcases Nat.lt_trichotomy i j with hlt | heq | hgt
  · exact absurd he (hp i j hi hj hlt)
  · exact heq
  · exact absurd he.symm (hp j i hj hi hgt)
theorem PuI.same {es : List Ed} {f seen : List Int} {t x : Int} {j i : Nat} {f' : List Int} {m : Mv} (h : PuI es f seen t x j f') (hd : seen.Nodup) (hij : i < j) (hj : j < seen.length) (hm : m.edge < es.length) (ht : mvTo es m = seen.getD j 0) (hf : mvFrom es m = seen.getD i 0) : f'.getD m.edge 0 = f.getD m.edge 0 := by
  refine Classical.byContradiction fun hne => ?_
  obtain ⟨k, h1, h2, h3⟩ := h.far m.edge hm hne
  have hk : seen.getD k 0 = seen.getD i 0 ∨ seen.getD k 0 = seen.getD j 0 := by
    unfold mvTo at ht
    unfold mvFrom at hf
    cases hfw : m.fwd
    · rw [hfw] at ht hf
      simp only [Bool.false_eq_true, if_false] at ht hf
      rcases h3 with h3 | h3
      · exact .inr (h3.trans ht)
      · exact .inl (h3.trans hf)
    · rw [hfw] at ht hf
      simp only [if_true] at ht hf
      rcases h3 with h3 | h3
      · exact .inl (h3.trans hf)
      · exact .inr (h3.trans ht)
  rcases hk with hk | hk
  · have := nodup_at hd h2 (by omega) hk
    omega
  · have := nodup_at hd h2 hj hk
    omega
theorem PuI.step {es : List Ed} {f seen : List Int} {t x : Int} {j i : Nat} {f' : List Int} {m : Mv} (h : PuI es f seen t x j f') (hd : seen.Nodup) (hij : i < j) (hj : j < seen.length) (hm : m.edge < es.length) (ht : mvTo es m = seen.getD j 0) (hf : mvFrom es m = seen.getD i 0) (hx : 0 < x) (hr : x ≤ roomN es f m) :
    PuI es f seen t x i (pushM f' x m) := by
  have hs := h.same hd hij hj hm ht hf
  have hb := h.bnd m.edge hm
  have hle : m.edge < f'.length := by rw [h.len]; exact hm
  have hget : ∀ q, (pushM f' x m).getD q 0 = if q = m.edge then f'.getD m.edge 0 + (if m.fwd = true then x else -x) else f'.getD q 0 := by
    intro q
    unfold pushM
    rw [List.getD_eq_getElem?_getD, List.getElem?_set]
    by_cases hq : q = m.edge
    · subst hq
      rw [if_pos rfl, if_pos hle, if_pos rfl]
      rfl
    · rw [if_neg (Ne.symm hq), if_neg hq]
      rfl
  refine ⟨by unfold pushM; rw [List.length_set]; exact h.len, fun v => ?_, fun q hq hne => ?_, fun q hq => ?_⟩
  · rw [net_push es f' x m v h.len hm, h.net v, ht, hf]
    omega
  · rw [hget q] at hne
    by_cases hqe : q = m.edge
    · subst hqe
      refine ⟨j, hij, hj, ?_⟩
      unfold mvTo at ht
      cases hfw : m.fwd
      · rw [hfw] at ht
        simp only [Bool.false_eq_true, if_false] at ht
        exact .inl ht.symm
      · rw [hfw] at ht
        simp only [if_true] at ht
        exact .inr ht.symm
    · rw [if_neg hqe] at hne
      obtain ⟨k, h1, h2, h3⟩ := h.far q hq hne
      exact ⟨k, by omega, h2, h3⟩
  · rw [hget q]
    by_cases hqe : q = m.edge
    · subst hqe
      rw [if_pos rfl]
      simp only [edZ] at hb ⊢
      unfold roomN at hr
      rw [← hs] at hr
      cases hfw : m.fwd
      · rw [hfw] at hr
        simp only [Bool.false_eq_true, if_false] at hr ⊢
        omega
      · rw [hfw] at hr
        simp only [if_true] at hr ⊢
        omega
    · rw [if_neg hqe]
      exact h.bnd q hq
end

section
theorem IsFlow.at_ {es : List Ed} {f : List Int} {s t : Int} (h : IsFlow es f s t) {i : Nat} (hi : i < es.length) : 0 ≤ f.getD i 0 ∧ f.getD i 0 ≤ (es.getD i edZ).cst := by
  have hf : i < f.length := by rw [h.len]; exact hi
  have := h.bound i es[i] f[i] (List.getElem?_eq_getElem hi) (List.getElem?_eq_getElem hf)
  simpa [List.getElem?_eq_getElem hi, List.getElem?_eq_getElem hf] using this
theorem IsFlow.next {es : List Ed} {f f' seen : List Int} {s t x : Int} (h : IsFlow es f s t) (hst : s ≠ t) (hp : PuI es f seen t x 0 f') (h0 : seen.getD 0 0 = s) : IsFlow es f' s t ∧ netN es f' s = netN es f s + x := by
  refine ⟨⟨hp.len, fun i e y he hy => ?_, fun v h1 h2 => ?_⟩, ?_⟩
  · have hi := (List.getElem?_eq_some_iff.1 he).1
    have := hp.bnd i hi
    simpa [he, hy] using this
  · rw [hp.net v, h.kept v h1 h2, h0, if_neg (Ne.symm h1), if_neg (Ne.symm h2)]
    rfl
  · rw [hp.net s, h0, if_pos rfl, if_neg (Ne.symm hst)]
    omega
theorem net_le : ∀ (es : List Ed) (f : List Int) (v : Int), f.length = es.length → (∀ i, i < es.length → 0 ≤ f.getD i 0 ∧ f.getD i 0 ≤ 1000000) → -(1000000 * (es.length : Int)) ≤ netN es f v ∧ netN es f v ≤ 1000000 * (es.length : Int)
  | [], f, v, _, _ => by simp [netN]
  | e :: es, [], v, h, _ => by simp at h
  | e :: es, x :: f, v, h, hb => by
    have h0 := hb 0 (by simp)
    have ih := net_le es f v (by simpa using h) fun i hi => by
      have := hb (i + 1) (by simpa using hi)
      simpa using this
    simp only [List.getD_cons_zero] at h0
    simp only [netN, List.length_cons]
    constructor <;> (split <;> split <;> omega)
theorem SrI.done {es : List Ed} {f : List Int} {s t : Int} {g : Int → Option Mv} {seen : List Int} (h : SrI es f s g seen) (hf : IsFlow es f s t) (hc : ∀ y ∈ seen, ClosedTo es f g y es.length) (ht : g t = none) : MaxF es s t (netN es f s) f (fun v => (g v).isSome) := by
  have hin : ∀ v, (g v).isSome = true → v ∈ seen := fun v hv => (h.dom v).1 fun e => by rw [e] at hv; cases hv
  have hs : g s ≠ none := (h.dom s).2 (by have := getD_mem h.pos; rw [h.head] at this; exact this)
  refine ⟨hf, rfl, ?_, by rw [ht]; rfl, fun i e x he hx => ?_⟩
  · cases hg : g s with
    | none => exact absurd hg hs
    | some _ => rfl
  · have hi := (List.getElem?_eq_some_iff.1 he).1
    have hed : es.getD i edZ = e := by simp [he]
    have hfx : f.getD i 0 = x := by simp [hx]
    have hb := hf.at_ hi
    rw [hed, hfx] at hb
    refine ⟨fun h1 h2 => ?_, fun h1 h2 => ?_⟩
    · have h3 := (hc _ (hin _ h1) i hi hi).1 (by rw [hed])
      by_cases h4 : 0 < roomN es f ⟨i, true⟩
      · have h5 := h3 h4
        rw [hed] at h5
        cases hg : g e.tt with
        | none => exact absurd hg h5
        | some y => rw [hg] at h2; cases h2
      · unfold roomN at h4
        simp only [if_true] at h4
        have hed' : es.getD i ⟨0, 0, 0, 0⟩ = e := hed
        rw [hed', hfx] at h4
        omega
    · have h3 := (hc _ (hin _ h1) i hi hi).2 (by rw [hed])
      by_cases h4 : 0 < roomN es f ⟨i, false⟩
      · have h5 := h3 h4
        rw [hed] at h5
        cases hg : g e.fr with
        | none => exact absurd hg h5
        | some y => rw [hg] at h2; cases h2
      · unfold roomN at h4
        simp only [Bool.false_eq_true, if_false] at h4
        rw [hfx] at h4
        omega
end
end Go.Proofs.Ytihmboibpjfohaa
