/-
  What search of flow has found, in plain Lean.
-/
import Derived.Test.YtihmboibpjfohaaFloN
import Derived.Test.YtihmboibpjfohaaMapI
namespace Go.Proofs.Ytihmboibpjfohaa

abbrev edZ : Ed := ⟨0, 0, 0, 0⟩
structure SrI (es : List Ed) (f : List Int) (s : Int) (g : Int → Option Mv) (seen : List Int) : Prop where
  pos : 0 < seen.length
  head : seen.getD 0 0 = s
  nodup : seen.Nodup
  dom : ∀ y, g y ≠ none ↔ y ∈ seen
  mv : ∀ j, 0 < j → j < seen.length → ∃ m i, i < j ∧ g (seen.getD j 0) = some m ∧ m.edge < es.length ∧ mvTo es m = seen.getD j 0 ∧ mvFrom es m = seen.getD i 0 ∧ 0 < roomN es f m
  ends : ∀ y ∈ seen, y = s ∨ ∃ e ∈ es, y = e.fr ∨ y = e.tt
theorem getD_mem {l : List Int} {k : Nat} (h : k < l.length) : l.getD k 0 ∈ l := by simp [List.getElem?_eq_getElem h]
theorem getD_app {l m : List Int} {k : Nat} (h : k < l.length) : (l ++ m).getD k 0 = l.getD k 0 := by simp [List.getElem?_append_left h]
theorem getD_last (l : List Int) (x : Int) : (l ++ [x]).getD l.length 0 = x := by simp
theorem ed_mem {es : List Ed} {k : Nat} (h : k < es.length) : es.getD k edZ ∈ es := by simp [List.getElem?_eq_getElem h]
theorem SrI.start (es : List Ed) (f : List Int) (s : Int) : SrI es f s (putF (fun _ => none) s ⟨0, false⟩) [s] := by
  refine ⟨by simp, by simp, by simp, fun y => ?_, fun j h0 h1 => by simp at h1; omega, fun y hy => .inl (by simpa using hy)⟩
  by_cases hy : y = s
  · subst hy; simp [putF_same]
  · simp [putF_other hy, hy]
theorem SrI.step {es : List Ed} {f : List Int} {s : Int} {g : Int → Option Mv} {seen : List Int} (h : SrI es f s g seen) {m : Mv} {p : Nat} (hp : p < seen.length) (hm : m.edge < es.length) (hf : mvFrom es m = seen.getD p 0) (hn : g (mvTo es m) = none) (hr : 0 < roomN es f m) :
    SrI es f s (putF g (mvTo es m) m) (seen ++ [mvTo es m]) := by
  have hnm : mvTo es m ∉ seen := fun hc => (h.dom _).2 hc hn
  refine ⟨by simp, by rw [getD_app h.pos]; exact h.head, ?_, fun y => ?_, fun j h0 h1 => ?_, fun y hy => ?_⟩
  · rw [List.nodup_append]
    refine ⟨h.nodup, by simp, fun a ha b hb => ?_⟩
    rw [List.mem_singleton.1 hb]
    exact fun e => hnm (e ▸ ha)
  · by_cases hy : y = mvTo es m
    · subst hy; simp [putF_same]
    · rw [putF_other hy, h.dom y]; simp [hy]
  · rw [List.length_append, List.length_singleton] at h1
    rcases Nat.lt_or_ge j seen.length with hj | hj
    · obtain ⟨m', i, a1, a2, a3, a4, a5, a6⟩ := h.mv j h0 hj
      rw [getD_app hj]
      refine ⟨m', i, a1, ?_, a3, a4, by rw [getD_app (by omega)]; exact a5, a6⟩
      rw [putF_other (fun e : seen.getD j 0 = mvTo es m => hnm (by rw [← e]; exact getD_mem hj))]
      exact a2
    · obtain rfl : j = seen.length := by omega
      rw [getD_last]
      exact ⟨m, p, hp, putF_same _ _ _, hm, rfl, by rw [getD_app hp]; exact hf, hr⟩
  · rcases List.mem_append.1 hy with hy | hy
    · exact h.ends y hy
    · rw [List.mem_singleton.1 hy]
      right
      refine ⟨es.getD m.edge edZ, ed_mem hm, ?_⟩
      unfold mvTo
      split
      · exact .inr rfl
      · exact .inl rfl
theorem sub_len : ∀ (l m : List Int), l.Nodup → (∀ x ∈ l, x ∈ m) → l.length ≤ m.length
  | [], _, _, _ => by simp
  | x :: l, m, hd, hs => by
    obtain ⟨h1, h2⟩ := List.nodup_cons.1 hd
    have h3 := sub_len l (m.erase x) h2 fun y hy => (List.mem_erase_of_ne (fun e => h1 (by rw [← e]; exact hy))).2 (hs y (by simp [hy]))
    have h4 := List.length_erase_of_mem (hs x (by simp))
    have h5 := List.length_pos_of_mem (hs x (by simp))
    simp only [List.length_cons]
    omega
theorem SrI.short {es : List Ed} {f : List Int} {s : Int} {g : Int → Option Mv} {seen : List Int} (h : SrI es f s g seen) : seen.length ≤ 2 * es.length + 1 := by
  have h1 := sub_len seen (s :: (es.map Ed.fr ++ es.map Ed.tt)) h.nodup fun y hy => by
    rcases h.ends y hy with rfl | ⟨e, he, rfl | rfl⟩
    · simp
    · simp only [List.mem_cons, List.mem_append]; exact .inr (.inl (List.mem_map_of_mem he))
    · simp only [List.mem_cons, List.mem_append]; exact .inr (.inr (List.mem_map_of_mem he))
  simp at h1
  omega
/-- all that can be reached from y by the first i edges is found -/
def ClosedTo (es : List Ed) (f : List Int) (g : Int → Option Mv) (y : Int) (i : Nat) : Prop :=
  ∀ k, k < i → k < es.length → ((es.getD k edZ).fr = y → 0 < roomN es f ⟨k, true⟩ → g (es.getD k edZ).tt ≠ none) ∧ ((es.getD k edZ).tt = y → 0 < roomN es f ⟨k, false⟩ → g (es.getD k edZ).fr ≠ none)
theorem ClosedTo.more {es : List Ed} {f : List Int} {g g' : Int → Option Mv} {y : Int} {i : Nat} (h : ClosedTo es f g y i) (hg : ∀ z, g z ≠ none → g' z ≠ none) : ClosedTo es f g' y i :=
  fun k h1 h2 => ⟨fun a b => hg _ ((h k h1 h2).1 a b), fun a b => hg _ ((h k h1 h2).2 a b)⟩
structure Inv (es : List Ed) (f : List Int) (s : Int) (p : Nat) (y : Int) (g : Int → Option Mv) (seen : List Int) (nm : Nat) : Prop where
  sr : SrI es f s g seen
  lt : p < seen.length
  at_ : seen.getD p 0 = y
  nm : nm ≤ seen.length
  cl : ∀ j, j < p → ClosedTo es f g (seen.getD j 0) es.length
theorem Inv.step {es : List Ed} {f : List Int} {s : Int} {p nm : Nat} {y : Int} {g : Int → Option Mv} {seen : List Int} (h : Inv es f s p y g seen nm) {m : Mv} (hm : m.edge < es.length) (hf : mvFrom es m = y) (hn : g (mvTo es m) = none) (hr : 0 < roomN es f m) :
    Inv es f s p y (putF g (mvTo es m) m) (seen ++ [mvTo es m]) (nm + 1) ∧ (∀ z, g z ≠ none → putF g (mvTo es m) m z ≠ none) := by
  have hg : ∀ z, g z ≠ none → putF g (mvTo es m) m z ≠ none := fun z hz => by
    by_cases e : z = mvTo es m
    · rw [e, putF_same]; simp
    · rw [putF_other e]; exact hz
  refine ⟨⟨h.sr.step h.lt hm (by rw [h.at_]; exact hf) hn hr, by simp; have := h.lt; omega, by rw [getD_app h.lt]; exact h.at_, by have := h.nm; simp; omega, fun j hj => ?_⟩, hg⟩
  rw [getD_app (by have := h.lt; omega)]
  exact (h.cl j hj).more hg
end Go.Proofs.Ytihmboibpjfohaa
