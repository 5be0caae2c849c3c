/-
  Find of flow, in plain Lean: a flow that more is carried along, and the end.
-/
import Derived.Test.YtihmboibpjfohaaFlpN
namespace Go.Proofs.Ytihmboibpjfohaa

theorem IsFlow.at_ {es : List Ed} {f : List Int} {s t : Int} (h : IsFlow es f s t) {i : Nat} (hi : i < es.length) : 0 ≤ f.getD i 0 ∧ f.getD i 0 ≤ (es.getD i edZ).cst := by
  have hf : i < f.length := by rw [h.len]; exact hi
  have := h.bound i es[i] f[i] (List.getElem?_eq_getElem hi) (List.getElem?_eq_getElem hf)
  simpa [List.getElem?_eq_getElem hi, List.getElem?_eq_getElem hf] using this
theorem IsFlow.next {es : List Ed} {f f' seen : List Int} {s t x : Int} (h : IsFlow es f s t) (hst : s ≠ t) (hp : PuI es f seen t x 0 f') (h0 : seen.getD 0 0 = s) : IsFlow es f' s t ∧ netN es f' s = netN es f s + x := by
  refine ⟨⟨hp.len, fun i e y he hy => ?_, fun v h1 h2 => ?_⟩, ?_⟩
  · have hi := (List.getElem?_eq_some_iff.1 he).1
    have := hp.bnd i hi
    simpa [he, hy] using this
  · rw [hp.net v, h.kept v h1 h2, h0, if_neg (Ne.symm h1), if_neg (Ne.symm h2)]
    rfl
  · rw [hp.net s, h0, if_pos rfl, if_neg (Ne.symm hst)]
    omega
theorem net_le : ∀ (es : List Ed) (f : List Int) (v : Int), f.length = es.length → (∀ i, i < es.length → 0 ≤ f.getD i 0 ∧ f.getD i 0 ≤ 1000000) → -(1000000 * (es.length : Int)) ≤ netN es f v ∧ netN es f v ≤ 1000000 * (es.length : Int)
  | [], f, v, _, _ => by simp [netN]
  | e :: es, [], v, h, _ => by simp at h
  | e :: es, x :: f, v, h, hb => by
    have h0 := hb 0 (by simp)
    have ih := net_le es f v (by simpa using h) fun i hi => by
      have := hb (i + 1) (by simpa using hi)
      simpa using this
    simp only [List.getD_cons_zero] at h0
    simp only [netN, List.length_cons]
    constructor <;> (split <;> split <;> omega)
theorem SrI.done {es : List Ed} {f : List Int} {s t : Int} {g : Int → Option Mv} {seen : List Int} (h : SrI es f s g seen) (hf : IsFlow es f s t) (hc : ∀ y ∈ seen, ClosedTo es f g y es.length) (ht : g t = none) : MaxF es s t (netN es f s) f (fun v => (g v).isSome) := by
  have hin : ∀ v, (g v).isSome = true → v ∈ seen := fun v hv => (h.dom v).1 fun e => by rw [e] at hv; cases hv
  have hs : g s ≠ none := (h.dom s).2 (by have := getD_mem h.pos; rw [h.head] at this; exact this)
  refine ⟨hf, rfl, ?_, by rw [ht]; rfl, fun i e x he hx => ?_⟩
  · cases hg : g s with
    | none => exact absurd hg hs
    | some _ => rfl
  · have hi := (List.getElem?_eq_some_iff.1 he).1
    have hed : es.getD i edZ = e := by simp [he]
    have hfx : f.getD i 0 = x := by simp [hx]
    have hb := hf.at_ hi
    rw [hed, hfx] at hb
    refine ⟨fun h1 h2 => ?_, fun h1 h2 => ?_⟩
    · have h3 := (hc _ (hin _ h1) i hi hi).1 (by rw [hed])
      by_cases h4 : 0 < roomN es f ⟨i, true⟩
      · have h5 := h3 h4
        rw [hed] at h5
        cases hg : g e.tt with
        | none => exact absurd hg h5
        | some y => rw [hg] at h2; cases h2
      · unfold roomN at h4
        simp only [if_true] at h4
        have hed' : es.getD i ⟨0, 0, 0, 0⟩ = e := hed
        rw [hed', hfx] at h4
        omega
    · have h3 := (hc _ (hin _ h1) i hi hi).2 (by rw [hed])
      by_cases h4 : 0 < roomN es f ⟨i, false⟩
      · have h5 := h3 h4
        rw [hed] at h5
        cases hg : g e.fr with
        | none => exact absurd hg h5
        | some y => rw [hg] at h2; cases h2
      · unfold roomN at h4
        simp only [Bool.false_eq_true, if_false] at h4
        rw [hfx] at h4
        omega
end Go.Proofs.Ytihmboibpjfohaa
