/-
  Chapter 55: the greatest number of persons, in plain Lean.
-/
import Derived.Test.YtihmboibpjfohaaCenN
namespace Go.Proofs.Ytihmboibpjfohaa

def Sorted (l : List Cr) : Prop := l.Pairwise fun a b => a.att ≤ b.att
theorem Sorted.le {l : List Cr} (h : Sorted l) {i j : Nat} (hij : i ≤ j) (hj : j < l.length) : (l.getD i cr0).att ≤ (l.getD j cr0).att := by
  rcases Nat.eq_or_lt_of_le hij with rfl | hlt
  · exact Int.le_refl _
  · have h1 := List.pairwise_iff_getElem.1 h i j (by omega) hj hlt
    rw [List.getD_eq_getElem?_getD, List.getD_eq_getElem?_getD, List.getElem?_eq_getElem (by omega), List.getElem?_eq_getElem hj]
    exact h1
theorem sum_zero (g : Cr → Int) : ∀ (l : List Cr), (∀ c ∈ l, g c = 0) → sumF g l = 0
  | [], _ => rfl
  | c :: l, h => by
    have h1 := h c (by simp)
    have h2 := sum_zero g l fun c' hc => h c' (by simp [hc])
    simp only [sumF, List.map_cons, List.sum_cons] at *
    omega
theorem on_split : ∀ (l : List Cr), Sorted l → ∀ (t : Int), ∃ k, k ≤ l.length ∧ onC l t = sumF chC (l.take k) ∧ (∀ i, i < k → (l.getD i cr0).att ≤ t) ∧ (∀ i, k ≤ i → i < l.length → t < (l.getD i cr0).att)
  | [], _, t => ⟨0, by simp, by simp [onC, sumF], by simp, by simp⟩
  | c :: l, h, t => by
    obtain ⟨h1, h2⟩ := List.pairwise_cons.1 h
    by_cases hc : c.att ≤ t
    · obtain ⟨k, a1, a2, a3, a4⟩ := on_split l h2 t
      refine ⟨k + 1, by simpa using a1, ?_, ?_, ?_⟩
      · have e1 : onC (c :: l) t = onF t c + onC l t := by simp [onC, sumF]
        have e2 : sumF chC ((c :: l).take (k + 1)) = chC c + sumF chC (l.take k) := by simp [sumF]
        rw [e1, e2, a2, onF, if_pos hc]
      · intro i hi
        cases i with
        | zero => simpa using hc
        | succ j => simpa using a3 j (by omega)
      · intro i hi hl
        cases i with
        | zero => omega
        | succ j => simpa using a4 j (by omega) (by simpa using hl)
    · refine ⟨0, by simp, ?_, by simp, ?_⟩
      · have e : onC (c :: l) t = 0 := sum_zero _ _ fun x hx => by
          unfold onF
          rw [if_neg]
          rcases List.mem_cons.1 hx with rfl | hx
          · exact hc
          · have := h1 x hx
            omega
        rw [e]
        simp [sumF]
      · intro i _ hl
        cases i with
        | zero => simp; omega
        | succ j =>
          have hj : j < l.length := by simpa using hl
          have := h1 (l.getD j cr0) (cr_mem hj)
          simp only [List.getD_cons_succ]
          omega
/-- the crossing at an index is the last one at its time -/
def lastC (l : List Cr) (k : Nat) : Bool := decide (k + 1 = l.length ∨ (l.getD (k + 1) cr0).att ≠ (l.getD k cr0).att)
theorem on_last {l : List Cr} (h : Sorted l) {i : Nat} (hi : i < l.length) (hl : lastC l i = true) : onC l (l.getD i cr0).att = sumF chC (l.take (i + 1)) := by
  obtain ⟨k, a1, a2, a3, a4⟩ := on_split l h (l.getD i cr0).att
  have h1 : i < k := by
    rcases Nat.lt_or_ge i k with h | h
    · exact h
    · have := a4 i h hi
      omega
  have h2 : k = i + 1 := by
    rcases Nat.eq_or_lt_of_le h1 with h2 | h2
    · exact h2.symm
    · have h3 := a3 (i + 1) h2
      have h4 := h.le (Nat.le_succ i) (show i + 1 < l.length by omega)
      have h5 := of_decide_eq_true hl
      simp only [ne_eq, Nat.succ_eq_add_one] at *
      omega
  rw [a2, h2]
/-- how many there are at a time is none, or how many there are after the last crossing at some time -/
theorem on_some {l : List Cr} (h : Sorted l) (t : Int) : onC l t = 0 ∨ ∃ i, i < l.length ∧ lastC l i = true ∧ onC l t = sumF chC (l.take (i + 1)) := by
  obtain ⟨k, a1, a2, a3, a4⟩ := on_split l h t
  cases k with
  | zero => left; rw [a2]; simp [sumF]
  | succ i =>
    refine .inr ⟨i, a1, decide_eq_true ?_, a2⟩
    rcases Nat.eq_or_lt_of_le a1 with h1 | h1
    · exact .inl h1
    · right
      have h2 := a3 i (by omega)
      have h3 := a4 (i + 1) (Nat.le_refl _) h1
      omega
/-- the greatest one, as the program and as its reference look for it -/
def ppC (l : List Cr) : Nat → Int
  | 0 => 0
  | k + 1 => if lastC l k = true ∧ ppC l k < sumF chC (l.take (k + 1)) then sumF chC (l.take (k + 1)) else ppC l k
def pkC (l : List Cr) : Nat → Int
  | 0 => 0
  | k + 1 => if pkC l k < onC l (l.getD k cr0).att then onC l (l.getD k cr0).att else pkC l k
theorem pp_is (l : List Cr) : ∀ k, 0 ≤ ppC l k ∧ (∀ i, i < k → lastC l i = true → sumF chC (l.take (i + 1)) ≤ ppC l k) ∧ (ppC l k = 0 ∨ ∃ i, i < k ∧ lastC l i = true ∧ ppC l k = sumF chC (l.take (i + 1)))
  | 0 => ⟨Int.le_refl _, by omega, .inl rfl⟩
  | k + 1 => by
    obtain ⟨h1, h2, h3⟩ := pp_is l k
    rw [ppC]
    split
    · rename_i h
      refine ⟨by omega, ?_, .inr ⟨k, by omega, h.1, rfl⟩⟩
      intro i hi hl
      rcases Nat.eq_or_lt_of_le (Nat.le_of_lt_succ hi) with rfl | hi
      · exact Int.le_refl _
      · have := h2 i hi hl
        omega
    · rename_i h
      refine ⟨h1, ?_, ?_⟩
      · intro i hi hl
        rcases Nat.eq_or_lt_of_le (Nat.le_of_lt_succ hi) with rfl | hi
        · rcases Int.lt_or_le (ppC l i) (sumF chC (l.take (i + 1))) with h4 | h4
          · exact absurd ⟨hl, h4⟩ h
          · exact h4
        · exact h2 i hi hl
      · rcases h3 with h3 | ⟨i, hi, hl, h3⟩
        · exact .inl h3
        · exact .inr ⟨i, by omega, hl, h3⟩
theorem pk_is (l : List Cr) : ∀ k, 0 ≤ pkC l k ∧ (∀ i, i < k → onC l (l.getD i cr0).att ≤ pkC l k) ∧ (pkC l k = 0 ∨ ∃ i, i < k ∧ pkC l k = onC l (l.getD i cr0).att)
  | 0 => ⟨Int.le_refl _, by omega, .inl rfl⟩
  | k + 1 => by
    obtain ⟨h1, h2, h3⟩ := pk_is l k
    rw [pkC]
    split
    · refine ⟨by omega, ?_, .inr ⟨k, by omega, rfl⟩⟩
      intro i hi
      rcases Nat.eq_or_lt_of_le (Nat.le_of_lt_succ hi) with rfl | hi
      · exact Int.le_refl _
      · have := h2 i hi
        omega
    · refine ⟨h1, ?_, ?_⟩
      · intro i hi
        rcases Nat.eq_or_lt_of_le (Nat.le_of_lt_succ hi) with rfl | hi
        · omega
        · exact h2 i hi
      · rcases h3 with h3 | ⟨i, hi, h3⟩
        · exact .inl h3
        · exact .inr ⟨i, by omega, h3⟩
theorem peak_same {l : List Cr} (h : Sorted l) : ppC l l.length = pkC l l.length := by
  obtain ⟨a1, a2, a3⟩ := pp_is l l.length
  obtain ⟨b1, b2, b3⟩ := pk_is l l.length
  refine Int.le_antisymm ?_ ?_
  · rcases a3 with a3 | ⟨i, hi, hl, a3⟩
    · omega
    · have := b2 i hi
      rw [on_last h hi hl] at this
      omega
  · rcases b3 with b3 | ⟨i, hi, b3⟩
    · omega
    · rcases on_some h (l.getD i cr0).att with h4 | ⟨j, hj, hl, h4⟩
      · omega
      · have := a2 j hj hl
        omega
/-- no time has more than the greatest -/
theorem on_peak {l : List Cr} (h : Sorted l) (t : Int) : onC l t ≤ ppC l l.length := by
  obtain ⟨a1, a2, _⟩ := pp_is l l.length
  rcases on_some h t with h4 | ⟨j, hj, hl, h4⟩
  · omega
  · have := a2 j hj hl
    omega
end Go.Proofs.Ytihmboibpjfohaa
