/-
  What Right of chapter 8 says of a matrix, and what a small and right one is.
-/
import Derived.Test.YtbegehooefhiiaaAssignN
namespace Go.Proofs.Ytbegehooefhiiaa

def longB (r : List Int) : Bool := decide (8 < r.length)
def formB (rows : List (List Int)) (r : List Int) : Bool := decide (r.length ≠ (rows.getD 0 []).length) || decide (r.length < rows.length)
def badB (x : Int) : Bool := decide (x < 0) || decide (1000000 < x)
def rangeB (r : List Int) : Bool := r.any badB
def errR (rows : List (List Int)) : Int :=
  if 8 < rows.length then 4 else if rows.any longB then 4 else if rows.any (formB rows) then 3 else if rows.any rangeB then 2 else 0

theorem any_take_succ {α : Type} (p : α → Bool) (d : α) (l : List α) (k : Nat) (h : k < l.length) : (l.take (k + 1)).any p = ((l.take k).any p || p (l.getD k d)) := by
  rw [List.take_succ_eq_append_getElem h, List.any_append]
  simp [List.getElem?_eq_getElem h]
theorem any_of_at {α : Type} (p : α → Bool) (d : α) (l : List α) (k : Nat) (h : k < l.length) (hp : p (l.getD k d) = true) : l.any p = true := by
  rw [List.any_eq_true]
  exact ⟨l[k], List.getElem_mem h, by simpa [List.getElem?_eq_getElem h] using hp⟩
theorem any_of_take {α : Type} (p : α → Bool) (l : List α) (k : Nat) (h : l.length ≤ k) (hp : (l.take k).any p = false) : l.any p = false := by
  rwa [List.take_of_length_le h] at hp

/-- a right matrix -/
structure RightM (rows : List (List Int)) : Prop where
  few : rows.length ≤ 8
  wide : ∀ r ∈ rows, r.length ≤ 8
  same : ∀ r ∈ rows, r.length = (rows.getD 0 []).length ∧ rows.length ≤ r.length
  bound : ∀ r ∈ rows, ∀ x ∈ r, 0 ≤ x ∧ x ≤ 1000000
theorem errM_ok {rows : List (List Int)} (h : errR rows = 0) : RightM rows := by
  unfold errR at h
  by_cases h1 : 8 < rows.length
  · rw [if_pos h1] at h; cases h
  rw [if_neg h1] at h
  by_cases h2 : rows.any longB = true
  · rw [if_pos h2] at h; cases h
  rw [if_neg h2] at h
  by_cases h3 : rows.any (formB rows) = true
  · rw [if_pos h3] at h; cases h
  rw [if_neg h3] at h
  by_cases h4 : rows.any rangeB = true
  · rw [if_pos h4] at h; cases h
  simp only [List.any_eq_true, not_exists, not_and, longB, formB, rangeB, badB, decide_eq_true_eq, Bool.or_eq_true] at h2 h3 h4
  refine ⟨by omega, fun r hr => by have := h2 r hr; omega, fun r hr => ?_, fun r hr x hx => ?_⟩
  · have := h3 r hr
    omega
  · have := h4 r hr x hx
    omega
theorem errR_of {rows : List (List Int)} (h : RightM rows) : errR rows = 0 := by
  unfold errR
  have h1 := h.few
  rw [if_neg (by omega), if_neg, if_neg, if_neg]
  · simp only [List.any_eq_true, not_exists, not_and, rangeB, badB, decide_eq_true_eq, Bool.or_eq_true]
    intro r hr x hx
    have := h.bound r hr x hx
    omega
  · simp only [List.any_eq_true, not_exists, not_and, formB, decide_eq_true_eq, Bool.or_eq_true]
    intro r hr
    have := h.same r hr
    omega
  · simp only [List.any_eq_true, not_exists, not_and, longB, decide_eq_true_eq]
    intro r hr
    have := h.wide r hr
    omega
theorem RightM.nn {rows : List (List Int)} (h : RightM rows) : ∀ r ∈ rows, ∀ k, 0 ≤ r.getD k 0 := by
  intro r hr k
  rcases Nat.lt_or_ge k r.length with hk | hk
  · have := h.bound r hr r[k] (List.getElem_mem hk)
    simpa [List.getElem?_eq_getElem hk] using this.1
  · simp [List.getElem?_eq_none hk]
theorem RightM.le {rows : List (List Int)} (h : RightM rows) : ∀ r ∈ rows, ∀ k, r.getD k 0 ≤ 1000000 := by
  intro r hr k
  rcases Nat.lt_or_ge k r.length with hk | hk
  · have := h.bound r hr r[k] (List.getElem_mem hk)
    simpa [List.getElem?_eq_getElem hk] using this.2
  · simp [List.getElem?_eq_none hk]
/-- the number of columns -/
def colsR (rows : List (List Int)) : Nat := (rows.getD 0 []).length
theorem RightM.cols {rows : List (List Int)} (h : RightM rows) (hp : 0 < rows.length) : rows.length ≤ colsR rows ∧ colsR rows ≤ 8 := by
  have hm : rows.getD 0 [] ∈ rows := by
    simp [List.getElem?_eq_getElem hp]
  exact ⟨(h.same _ hm).2, h.wide _ hm⟩
theorem RightM.cols_le {rows : List (List Int)} (h : RightM rows) : rows.length ≤ colsR rows ∧ colsR rows ≤ 8 := by
  rcases Nat.eq_zero_or_pos rows.length with h0 | h0
  · have := List.eq_nil_of_length_eq_zero h0
    subst this
    simp [colsR]
  · exact h.cols h0
theorem errR_bd (rows : List (List Int)) : 0 ≤ errR rows ∧ errR rows ≤ 4 := by
  unfold errR
  split
  · omega
  · split
    · omega
    · split
      · omega
      · split <;> omega
end Go.Proofs.Ytbegehooefhiiaa
