/-
  The plain law of a change within one block of a medium's body.
-/
import Derived.Test.YthlhphifibldnaaMedK
import Derived.Test.YthlhphifibldnaaMedC
namespace Go.Proofs.Ythlhphifibldnaa

theorem part_ext {a b : List UInt8} (hl : a.length = b.length) (p : Nat) (h : ∀ j, p ≤ j → j < p + 8 → a.getD j 0 = b.getD j 0) : (a.drop p).take 8 = (b.drop p).take 8 := by
  apply List.ext_getElem?
  intro i
  rw [List.getElem?_take, List.getElem?_take]
  split
  · rename_i hi
    rw [List.getElem?_drop, List.getElem?_drop]
    have h1 := h (p + i) (by omega) (by omega)
    rcases Nat.lt_or_ge (p + i) a.length with h2 | h2
    · rw [List.getElem?_eq_getElem h2, List.getElem?_eq_getElem (by omega)]
      simpa [List.getElem?_eq_getElem h2, List.getElem?_eq_getElem (show p + i < b.length by omega)] using h1
    · rw [List.getElem?_eq_none h2, List.getElem?_eq_none (by omega)]
  · rfl
theorem part_get {a b : List UInt8} (p : Nat) (h : (a.drop p).take 8 = (b.drop p).take 8) (j : Nat) (h1 : p ≤ j) (h2 : j < p + 8) : a.getD j 0 = b.getD j 0 := by
  have e := congrArg (fun l : List UInt8 => l[j - p]?) h
  simp only [List.getElem?_take, List.getElem?_drop, if_pos (show j - p < 8 by omega), show p + (j - p) = j by omega] at e
  rw [List.getD_eq_getElem?_getD, List.getD_eq_getElem?_getD, e]
theorem one_tag (key : Nat) {a b : List UInt8} {k : Nat} (hl : a.length = b.length) (hn : a.length < 18446744073709551616) (h : OneB a b a.length k) : tagN key a ≠ tagN key b := by
  obtain ⟨⟨j, h1, h2, h3⟩, h4⟩ := h
  refine tagN_block key a b hl hn k (by omega) ?_ ?_
  · intro e
    have e2 := leN_inj _ _ (by rw [List.length_take, List.length_take, List.length_drop, List.length_drop, hl]) e
    exact h3 (part_get (8 * k) e2 j (by omega) (by omega))
  · intro i hi
    unfold blkN
    rw [part_ext hl (8 * i) fun j h5 h6 => ?_]
    rcases Nat.lt_or_ge j a.length with h7 | h7
    · refine Decidable.byContradiction fun hne => ?_
      have := h4 j h7 hne
      omega
    · rw [List.getD_eq_getElem?_getD, List.getD_eq_getElem?_getD, List.getElem?_eq_none h7, List.getElem?_eq_none (by omega)]
theorem bodyN_tag (a b c d e f g h t t' : Int) : bodyN (⟨a, b, c, d, e, f, g, h, t⟩ : Med) = bodyN (⟨a, b, c, d, e, f, g, h, t'⟩ : Med) := rfl
/-- a changed body in one block has another tag -/
theorem check_changed (key : Nat) (s m' : Med) (hs : m'.ser = s.ser) (ht : m'.tag = ((tagM key s : Nat) : Int)) {k : Nat} (hl : (bodyN s).length = (bodyN m').length) (h : OneB (bodyN s) (bodyN m') (bodyN s).length k) (r : Int) : checkB key m' r = false := by
  refine decide_eq_false fun hc => ?_
  have h1 := hc.2
  rw [ht] at h1
  have h2 : tagM key s = tagM key m' := by exact Int.ofNat.inj h1
  unfold tagM at h2
  rw [hs] at h2
  exact one_tag _ hl (by have := bodyN_len s; omega) h h2
end Go.Proofs.Ythlhphifibldnaa
