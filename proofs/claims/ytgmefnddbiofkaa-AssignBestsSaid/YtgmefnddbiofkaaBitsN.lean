/-
  Sets of columns as the bits of a number (the reference of chapter 8), and the table of least costs over them.
-/
import Derived.Test.YtgmefnddbiofkaaRightN
namespace Go.Proofs.Ytgmefnddbiofkaa

theorem bit_add (s k j : Nat) (h : s / 2 ^ k % 2 = 0) : (s + 2 ^ k) / 2 ^ j % 2 = if j = k then 1 else s / 2 ^ j % 2 := by
  have hk : 0 < 2 ^ k := Nat.two_pow_pos k
  by_cases e : j = k
  · subst e
    rw [if_pos rfl, Nat.add_div_right _ hk]
    omega
  · rw [if_neg e]
    rcases Nat.lt_or_ge j k with hjk | hjk
    · obtain ⟨d, rfl⟩ : ∃ d, k = j + (d + 1) := ⟨k - j - 1, by omega⟩
      have hj : 0 < 2 ^ j := Nat.two_pow_pos j
      rw [Nat.pow_add, Nat.pow_succ, ← Nat.mul_assoc, Nat.mul_comm (2 ^ j * 2 ^ d) 2, ← Nat.mul_assoc, Nat.mul_comm 2 (2 ^ j), Nat.mul_assoc, Nat.add_mul_div_left _ _ hj]
      omega
    · obtain ⟨d, rfl⟩ : ∃ d, j = k + 1 + d := ⟨j - k - 1, by omega⟩
      have e1 : ∀ x, x / 2 ^ (k + 1 + d) = x / 2 ^ k / 2 / 2 ^ d := fun x => by rw [Nat.pow_add, Nat.pow_succ, Nat.div_div_eq_div_mul, Nat.div_div_eq_div_mul, Nat.mul_assoc]
      rw [e1, e1, Nat.add_div_right _ hk]
      have e2 : (s / 2 ^ k + 1) / 2 = s / 2 ^ k / 2 := by omega
      rw [e2]

/-- the columns of a set -/
def bitsS (C s : Nat) : List Nat := (List.range C).filter fun k => decide (s / 2 ^ k % 2 = 1)
theorem mem_bitsS (C s k : Nat) : k ∈ bitsS C s ↔ k < C ∧ s / 2 ^ k % 2 = 1 := by simp [bitsS]
theorem mem_bitsS_add (C s k j : Nat) (hk : k < C) (h : s / 2 ^ k % 2 = 0) : j ∈ bitsS C (s + 2 ^ k) ↔ j ∈ bitsS C s ++ [k] := by
  rw [mem_bitsS, bit_add s k j h, List.mem_append, mem_bitsS, List.mem_singleton]
  by_cases e : j = k
  · subst e; simp [hk]
  · simp [e]

/-- how many columns a set has -/
def popC : Nat → Nat → Nat
  | 0, _ => 0
  | C + 1, s => popC C s + s / 2 ^ C % 2
theorem popC_len (C s : Nat) : popC C s = (bitsS C s).length := by
  induction C with
  | zero => rfl
  | succ C ih =>
    unfold bitsS at ih ⊢
    rw [popC, ih, List.range_succ, List.filter_append, List.length_append]
    congr 1
    by_cases h : s / 2 ^ C % 2 = 1
    · simp [h]
    · have : s / 2 ^ C % 2 = 0 := by omega
      simp [this]
theorem popC_half (C s : Nat) : popC (C + 1) s = s % 2 + popC C (s / 2) := by
  induction C with
  | zero => simp [popC]
  | succ C ih =>
    rw [popC, ih, popC, Nat.pow_succ, Nat.mul_comm, ← Nat.div_div_eq_div_mul, Nat.add_assoc]
theorem popC_step (C s : Nat) (h : s < 2 ^ C) : popC C s = s % 2 + popC C (s / 2) := by
  rw [← popC_half, popC, Nat.div_eq_of_lt h]
  rfl
theorem popC_zero (C : Nat) : popC C 0 = 0 := by
  induction C with
  | zero => rfl
  | succ C ih => simp [popC, ih]
theorem popC_add (C s k : Nat) (hk : k < C) (h : s / 2 ^ k % 2 = 0) : popC C (s + 2 ^ k) = popC C s + 1 := by
  induction C with
  | zero => omega
  | succ C ih =>
    rw [popC, popC, bit_add s k C h]
    by_cases e : C = k
    · subst e
      rw [if_pos rfl, h]
      have : ∀ D, D ≤ C → popC D (s + 2 ^ C) = popC D s := by
        intro D
        induction D with
        | zero => intro _; rfl
        | succ D ihD =>
          intro hD
          rw [popC, popC, ihD (by omega), bit_add s C D h, if_neg (by omega)]
      rw [this C (Nat.le_refl _)]
    · rw [if_neg e, ih (by omega)]
      omega
theorem popC_le (C s : Nat) : popC C s ≤ C := by
  induction C with
  | zero => simp [popC]
  | succ C ih => rw [popC]; have := Nat.mod_lt (s / 2 ^ C) (show 0 < 2 by omega); omega
/-- a new column keeps the set within its bound -/
theorem bit_bound (C s k : Nat) (hs : s < 2 ^ C) (hk : k < C) (h : s / 2 ^ k % 2 = 0) : s + 2 ^ k < 2 ^ C := by
  rcases Nat.lt_or_ge (s + 2 ^ k) (2 ^ C) with h1 | h1
  · exact h1
  · have e := bit_add s k C h
    rw [if_neg (by omega), Nat.div_eq_of_lt hs] at e
    have hkC : 2 ^ k < 2 ^ C := Nat.pow_lt_pow_right (by omega) hk
    have : (s + 2 ^ k) / 2 ^ C = 1 := by
      rw [Nat.div_eq_iff (Nat.two_pow_pos C)]
      omega
    rw [this] at e
    cases e

/-- the least cost hangs on the set alone -/
theorem leastS_congr (C : Nat) (p p' : List Nat) (f f' : Nat → Int) (hp : ∀ k, k < C → (k ∈ p ↔ k ∈ p')) (hf : ∀ k, k < C → f k = f' k) : leastS C p f = leastS C p' f' := by
  unfold leastS
  induction C with
  | zero => rfl
  | succ C ih =>
    rw [List.range_succ, List.foldl_append, List.foldl_append, ih (fun k hk => hp k (by omega)) (fun k hk => hf k (by omega))]
    simp only [List.foldl_cons, List.foldl_nil, hp C (by omega), hf C (by omega)]
theorem minR_congr (C : Nat) (rs : List (List Int)) : ∀ (p p' : List Nat), (∀ k, k < C → (k ∈ p ↔ k ∈ p')) → minR C rs p = minR C rs p' := by
  induction rs with
  | nil => intro _ _ _; rfl
  | cons r rs ih =>
    intro p p' h
    refine leastS_congr C p p' _ _ h fun k hk => ?_
    rw [ih (p ++ [k]) (p' ++ [k]) fun j hj => by simp [h j hj]]

/-- what the table holds of a set -/
def tabN (C : Nat) (rows : List (List Int)) (s : Nat) : Int := minR C (rows.drop (popC C s)) (bitsS C s)
theorem tabN_full (C : Nat) (rows : List (List Int)) (s : Nat) (h : popC C s = rows.length) : tabN C rows s = 0 := by
  unfold tabN
  rw [h, List.drop_length]
  rfl
/-- the table's next entry out of the later ones -/
def stepT (C : Nat) (rows : List (List Int)) (s : Nat) (k : Nat) : Int := (rows.getD (popC C s) []).getD k 0 + tabN C rows (s + 2 ^ k)
theorem tabN_step (C : Nat) (rows : List (List Int)) (s : Nat) (h : popC C s < rows.length) :
    tabN C rows s = (List.range C).foldl (fun acc k => if s / 2 ^ k % 2 = 0 then (if acc < 0 ∨ stepT C rows s k < acc then stepT C rows s k else acc) else acc) (-1) := by
  have hr : rows.drop (popC C s) = rows.getD (popC C s) [] :: rows.drop (popC C s + 1) := by
    rw [List.drop_eq_getElem_cons h]
    simp [List.getElem?_eq_getElem h]
  have hcol : ∀ D, D ≤ C → ∀ acc, (List.range D).foldl (fun acc k => if k ∈ bitsS C s then acc else if acc < 0 ∨ (rows.getD (popC C s) []).getD k 0 + minR C (rows.drop (popC C s + 1)) (bitsS C s ++ [k]) < acc then (rows.getD (popC C s) []).getD k 0 + minR C (rows.drop (popC C s + 1)) (bitsS C s ++ [k]) else acc) acc =
      (List.range D).foldl (fun acc k => if s / 2 ^ k % 2 = 0 then (if acc < 0 ∨ stepT C rows s k < acc then stepT C rows s k else acc) else acc) acc := by
    intro D
    induction D with
    | zero => intro _ _; rfl
    | succ D ih =>
      intro hD acc
      rw [List.range_succ, List.foldl_append, List.foldl_append, ih (by omega)]
      simp only [List.foldl_cons, List.foldl_nil]
      by_cases hb : s / 2 ^ D % 2 = 0
      · have hn : D ∉ bitsS C s := by rw [mem_bitsS]; omega
        rw [if_neg hn, if_pos hb]
        have e : (rows.getD (popC C s) []).getD D 0 + minR C (rows.drop (popC C s + 1)) (bitsS C s ++ [D]) = stepT C rows s D := by
          unfold stepT tabN
          rw [popC_add C s D (by omega) hb, minR_congr C _ (bitsS C s ++ [D]) (bitsS C (s + 2 ^ D)) fun k _ => (mem_bitsS_add C s D k (by omega) hb).symm]
        rw [e]
      · have hn : D ∈ bitsS C s := by rw [mem_bitsS]; omega
        rw [if_pos hn, if_neg hb]
  unfold tabN
  rw [hr]
  show leastS C (bitsS C s) _ = _
  unfold leastS
  exact hcol C (Nat.le_refl _) (-1)
end Go.Proofs.Ytgmefnddbiofkaa
