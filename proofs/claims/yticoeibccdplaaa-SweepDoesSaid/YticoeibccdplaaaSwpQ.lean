/-
  Plain laws of chapter 56: what a push does to the numbers of persons. No program is in sight.
-/
import Derived.Test.YticoeibccdplaaaSwpP
namespace Go.Proofs.Yticoeibccdplaaa

theorem set_sum : ∀ (l : List Int) (i : Nat) (v : Int), i < l.length → (l.set i v).sum = l.sum - l.getD i 0 + v
  | [], i, v, h => by simp at h
  | x :: l, 0, v, _ => by simp; omega
  | x :: l, i + 1, v, h => by
    have ih := set_sum l i v (by simpa using h)
    simp only [List.set_cons_succ, List.sum_cons, List.getD_cons_succ] at ih ⊢
    rw [ih]
    omega
theorem nn_getD {l : List Int} (h : ∀ z ∈ l, 0 ≤ z) (j : Nat) : 0 ≤ l.getD j 0 := by
  rcases Nat.lt_or_ge j l.length with hj | hj
  · rw [show l.getD j 0 = l[j] by simp [List.getElem?_eq_getElem hj]]
    exact h _ (List.getElem_mem hj)
  · rw [show l.getD j 0 = 0 by simp [hj]]
    exact Int.le_refl _
theorem nn_set {l : List Int} (h : ∀ z ∈ l, 0 ≤ z) (i : Nat) {v : Int} (hv : 0 ≤ v) : ∀ z ∈ l.set i v, 0 ≤ z := fun z hz => by
  rcases List.mem_or_eq_of_mem_set hz with h1 | h1
  · exact h _ h1
  · rw [h1]; exact hv
theorem nn_sum : ∀ {l : List Int}, (∀ z ∈ l, 0 ≤ z) → 0 ≤ l.sum
  | [], _ => Int.le_refl _
  | x :: l, h => by
    have h1 := h x (by simp)
    have h2 := nn_sum (l := l) fun z hz => h z (by simp [hz])
    simp only [List.sum_cons]
    omega
theorem le_sum : ∀ {l : List Int}, (∀ z ∈ l, 0 ≤ z) → ∀ z ∈ l, z ≤ l.sum
  | [], _, z, hz => by cases hz
  | x :: l, h, z, hz => by
    have h1 := h x (by simp)
    have h2 := nn_sum (l := l) fun z hz => h z (by simp [hz])
    simp only [List.sum_cons]
    rcases List.mem_cons.1 hz with rfl | hz
    · omega
    · have := le_sum (l := l) (fun z hz => h z (by simp [hz])) z hz
      omega
theorem sum_le {M : Int} : ∀ {l : List Int}, (∀ z ∈ l, z ≤ M) → l.sum ≤ l.length * M
  | [], _ => by simp
  | x :: l, h => by
    have h1 := h x (by simp)
    have h2 := sum_le (l := l) fun z hz => h z (by simp [hz])
    simp only [List.sum_cons, List.length_cons]
    have e : ((l.length + 1 : Nat) : Int) * M = l.length * M + M := by rw [Int.natCast_add, Int.add_mul]; simp
    omega
theorem idx_bd (f : Int → Bool) : ∀ (l : List Int) (k : Nat), idxF f l k < (k + l.length : Int) ∧ -1 ≤ idxF f l k
  | [], k => by simp [idxF]; omega
  | x :: l, k => by
    rw [idxF]
    have h := idx_bd f l (k + 1)
    by_cases hx : f x = true
    · rw [if_pos hx]; simp only [List.length_cons]; omega
    · rw [if_neg hx]; simp only [List.length_cons]; omega
/-- what a push keeps: the length, no number below 0, and the sum with those who left -/
theorem push_keep {bef : Int → Int → Bool} {out : Int → Bool} {runs people : List Int} {i : Nat} (hl : people.length = runs.length) (hi : i < runs.length) (hn : ∀ z ∈ people, 0 ≤ z) :
    (pushN bef out runs people i).1.length = runs.length ∧ (∀ z ∈ (pushN bef out runs people i).1, 0 ≤ z) ∧ 0 ≤ (pushN bef out runs people i).2 ∧ (pushN bef out runs people i).1.sum + (pushN bef out runs people i).2 = people.sum := by
  unfold pushN
  have hg := nn_getD hn i
  by_cases ho : out (runs.getD i 0) = true
  · rw [if_pos ho]
    refine ⟨by simpa using hl, nn_set hn i (Int.le_refl _), hg, ?_⟩
    show (people.set i 0).sum + people.getD i 0 = _
    rw [set_sum people i 0 (by omega)]
    omega
  · rw [if_neg ho]
    by_cases hj : 0 ≤ lowI bef runs (runs.getD i 0)
    · rw [if_pos hj]
      have hb := (idx_bd (bef (runs.getD i 0)) runs 0).1
      have hn1 := nn_set hn i (Int.le_refl 0)
      have hg1 := nn_getD hn1 (lowI bef runs (runs.getD i 0)).toNat
      refine ⟨by simpa using hl, nn_set hn1 _ (by omega), Int.le_refl _, ?_⟩
      show ((people.set i 0).set _ _).sum + 0 = _
      have hlt : (lowI bef runs (runs.getD i 0)).toNat < (people.set i 0).length := by
        unfold lowI at hj ⊢
        simp only [List.length_set]
        omega
      rw [set_sum _ _ _ hlt, set_sum people i 0 (by omega)]
      omega
    · rw [if_neg hj]
      exact ⟨hl, hn, Int.le_refl _, by simp⟩
theorem ind_of {l : List Int} {x : Int} (h : x ∈ l) : ∃ j : Nat, indI l x = (j : Int) ∧ j < l.length ∧ l.getD j 0 = x := by
  have key : ∀ (l : List Int) (k : Nat), x ∈ l → ∃ j : Nat, idxF (fun y => y == x) l k = ((k + j : Nat) : Int) ∧ j < l.length ∧ l.getD j 0 = x := by
    intro l
    induction l with
    | nil => intro k h; cases h
    | cons y l ih =>
      intro k h
      rw [idxF]
      by_cases hy : (y == x) = true
      · rw [if_pos hy]
        exact ⟨0, rfl, by simp, by simpa using hy⟩
      · rw [if_neg hy]
        rcases List.mem_cons.1 h with rfl | h
        · simp at hy
        · obtain ⟨j, h1, h2, h3⟩ := ih (k + 1) h
          exact ⟨j + 1, by rw [h1]; congr 1; omega, by simpa using h2, by simpa using h3⟩
  obtain ⟨j, h1, h2, h3⟩ := key l 0 h
  exact ⟨j, by unfold indI; rw [h1, Nat.zero_add], h2, h3⟩
theorem ordGo_sub {bef : Int → Int → Bool} {runs : List Int} : ∀ (m : Nat) (out : List Int), (∀ y ∈ out, y ∈ runs) → ∀ y ∈ ordGo bef runs m out, y ∈ runs
  | 0, _, h => h
  | m + 1, out, h => by
    rw [ordGo]
    cases hr : readyL bef runs out with
    | nil => exact h
    | cons x t =>
      refine ordGo_sub m (out ++ [x]) fun y hy => ?_
      rcases List.mem_append.1 hy with hy | hy
      · exact h y hy
      · obtain rfl : y = x := by simpa using hy
        exact (ready_mem (show y ∈ readyL bef runs out by rw [hr]; simp)).1
theorem ord_sub {bef : Int → Int → Bool} {runs : List Int} : ∀ y ∈ ordN bef runs, y ∈ runs := ordGo_sub _ _ (by simp)
theorem ordGo_nodup {bef : Int → Int → Bool} {runs : List Int} : ∀ (m : Nat) (out : List Int), out.Nodup → (ordGo bef runs m out).Nodup
  | 0, _, h => h
  | m + 1, out, h => by
    rw [ordGo]
    cases hr : readyL bef runs out with
    | nil => exact h
    | cons x t => exact ordGo_nodup m (out ++ [x]) (nodup_snoc h (ready_mem (show x ∈ readyL bef runs out by rw [hr]; simp)).2.1)
theorem ord_nodup {bef : Int → Int → Bool} {runs : List Int} : (ordN bef runs).Nodup := ordGo_nodup _ _ (by simp)
theorem ord_len {bef : Int → Int → Bool} {runs : List Int} : (ordN bef runs).length ≤ runs.length := nodup_le ord_nodup ord_sub
theorem form_of {runs people : List Int} (h : formB runs people = true) : people.length = runs.length ∧ (∀ z ∈ people, 0 ≤ z) ∧ ∀ z ∈ people, z ≤ 1000000 := by
  unfold formB at h
  simp only [Bool.and_eq_true, decide_eq_true_eq, List.all_eq_true] at h
  exact ⟨h.1, fun z hz => (h.2 z hz).1, fun z hz => (h.2 z hz).2⟩
end Go.Proofs.Yticoeibccdplaaa
