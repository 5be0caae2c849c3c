/-
  The plain law of chapter 8, on changes of a matrix: a further column, a constant that is added to a row.
-/
import Derived.Test.YtgmefnddbiofkaaTotN
namespace Go.Proofs.Ytgmefnddbiofkaa

theorem sumT_congr (rows rows' : List (List Int)) (p : List Int) (k : Nat) (h : ∀ i, i < k → (rows.getD i []).getD (p.getD i 0).toNat 0 = (rows'.getD i []).getD (p.getD i 0).toNat 0) : sumT rows p k = sumT rows' p k := by
  induction k with
  | zero => rfl
  | succ k ih => rw [sumT, sumT, ih fun i hi => h i (by omega), h k (by omega)]
theorem costA_congr (rows rows' : List (List Int)) (q : List Nat) (hl : q.length = rows.length) (hl' : q.length = rows'.length) (h : ∀ i, i < q.length → (rows.getD i []).getD (q.getD i 0) 0 = (rows'.getD i []).getD (q.getD i 0) 0) : costA rows q = costA rows' q := by
  rw [← sumT_costA rows q hl, ← sumT_costA rows' q hl']
  refine sumT_congr _ _ _ _ fun i hi => ?_
  rw [intsN_getD, Int.toNat_natCast]
  exact h i (by rwa [intsN_len] at hi)

/-- the first k rows, made anew by f -/
def rowsK (f : Nat → List Int) (k : Nat) : List (List Int) := (List.range k).map f
theorem rowsK_zero (f : Nat → List Int) : rowsK f 0 = [] := rfl
theorem rowsK_succ (f : Nat → List Int) (k : Nat) : rowsK f (k + 1) = rowsK f k ++ [f k] := by simp [rowsK, List.range_succ]
theorem rowsK_len (f : Nat → List Int) (k : Nat) : (rowsK f k).length = k := by simp [rowsK]
theorem rowsK_getD (f : Nat → List Int) (k i : Nat) (h : i < k) : (rowsK f k).getD i [] = f i := by
  simp [rowsK, h]

/-- a further column -/
def wideF (rows : List (List Int)) (col : List Int) (i : Nat) : List Int := rows.getD i [] ++ [col.getD i 0]
theorem wider_le {rows : List (List Int)} (hR : RightM rows) (col : List Int) {p q : List Nat} {a b : Int} (hp : IsBest (colsR rows) rows p a)
    (hq : IsBest (colsR (rowsK (wideF rows col) rows.length)) (rowsK (wideF rows col) rows.length) q b) : b ≤ a := by
  obtain ⟨h1, h2, h3⟩ := (mem_allA _ _ _ _).1 hp.mem
  have hcol : ∀ k, k ∈ p → k < colsR (rowsK (wideF rows col) rows.length) := by
    intro k hk
    have hk' := (h3 k hk).1
    have hpos : 0 < rows.length := by
      have := List.length_pos_of_mem hk
      omega
    unfold colsR
    rw [rowsK_getD _ _ _ hpos, wideF, List.length_append]
    unfold colsR at hk'
    omega
  have hmem : p ∈ allA (colsR (rowsK (wideF rows col) rows.length)) (rowsK (wideF rows col) rows.length).length [] := by
    rw [rowsK_len]
    exact (mem_allA _ _ _ _).2 ⟨h1, h2, fun k hk => ⟨hcol k hk, by simp⟩⟩
  have hc : costA (rowsK (wideF rows col) rows.length) p = costA rows p := by
    refine costA_congr _ _ _ (by rw [rowsK_len, h1]) h1 fun i hi => ?_
    rw [rowsK_getD _ _ _ (by omega), wideF]
    have hi' : i < rows.length := by omega
    have hr : rows.getD i [] ∈ rows := by simp [List.getElem?_eq_getElem hi']
    have hk : p.getD i 0 < colsR rows := by
      have e : p.getD i 0 = p[i] := by simp [List.getElem?_eq_getElem hi]
      rw [e]
      exact (h3 _ (List.getElem_mem hi)).1
    have hlen : p.getD i 0 < (rows.getD i []).length := by rw [(hR.same _ hr).1]; exact hk
    generalize p.getD i 0 = k at hlen
    generalize rows.getD i [] = r at hlen
    simp [List.getElem?_append_left hlen]
  have := hq.least p hmem
  rw [hc, hp.cost] at this
  exact this

/-- a constant is added to a row -/
def addF (rows : List (List Int)) (row : Nat) (c : Int) (i : Nat) : List Int := if i = row then (rows.getD i []).map (· + c) else rows.getD i []
theorem addF_len (rows : List (List Int)) (row : Nat) (c : Int) (i : Nat) : (addF rows row c i).length = (rows.getD i []).length := by
  unfold addF; split <;> simp
theorem addF_cols (rows : List (List Int)) (row : Nat) (c : Int) : colsR (rowsK (addF rows row c) rows.length) = colsR rows := by
  unfold colsR
  rcases Nat.eq_zero_or_pos rows.length with h | h
  · have := List.eq_nil_of_length_eq_zero h
    subst this
    rfl
  · rw [rowsK_getD _ _ _ h, addF_len]
theorem getD_add (r : List Int) (c : Int) (j : Nat) (h : j < r.length) : (r.map (· + c)).getD j 0 = r.getD j 0 + c := by
  simp [List.getElem?_eq_getElem h]
theorem addF_sum (rows : List (List Int)) (row : Nat) (c : Int) (q : List Nat) (n k : Nat) (hk : k ≤ n) (h : ∀ i, i < k → q.getD i 0 < (rows.getD i []).length) :
    sumT (rowsK (addF rows row c) n) (intsN q) k = sumT rows (intsN q) k + if row < k then c else 0 := by
  induction k with
  | zero => simp [sumT]
  | succ k ih =>
    rw [sumT, sumT, ih (by omega) fun i hi => h i (by omega), rowsK_getD _ _ _ (by omega), intsN_getD, Int.toNat_natCast]
    have hk' := h k (by omega)
    unfold addF
    by_cases e : k = row
    · subst e
      rw [if_pos rfl, if_neg (by omega), if_pos (by omega), getD_add _ _ _ hk']
      omega
    · rw [if_neg e]
      by_cases h2 : row < k
      · rw [if_pos h2, if_pos (by omega)]; omega
      · rw [if_neg h2, if_neg (by omega)]; omega
theorem addF_cost {rows : List (List Int)} (hR : RightM rows) (row : Nat) (c : Int) (hrow : row < rows.length) (q : List Nat) (hq : q ∈ allA (colsR rows) rows.length []) : costA (rowsK (addF rows row c) rows.length) q = costA rows q + c := by
  obtain ⟨h1, h2, h3⟩ := (mem_allA _ _ _ _).1 hq
  rw [← sumT_costA _ q (by rw [rowsK_len, h1]), ← sumT_costA rows q h1, intsN_len, h1, addF_sum rows row c q rows.length rows.length (Nat.le_refl _), if_pos hrow]
  intro i hi
  have hr : rows.getD i [] ∈ rows := by simp [List.getElem?_eq_getElem hi]
  rw [(hR.same _ hr).1]
  have e : q.getD i 0 = q[i]'(by omega) := by simp [List.getElem?_eq_getElem (show i < q.length by omega)]
  rw [e]
  exact (h3 _ (List.getElem_mem _)).1
theorem addF_best {rows : List (List Int)} (hR : RightM rows) (row : Nat) (c : Int) (hrow : row < rows.length) {p : List Nat} {a : Int} (h : IsBest (colsR rows) rows p a) :
    IsBest (colsR (rowsK (addF rows row c) rows.length)) (rowsK (addF rows row c) rows.length) p (a + c) := by
  have hc := fun q hq => addF_cost hR row c hrow q hq
  refine ⟨?_, ?_, fun q hq => ?_, fun q hq he => ?_⟩
  · rw [addF_cols, rowsK_len]; exact h.mem
  · rw [hc p h.mem, h.cost]
  · rw [addF_cols, rowsK_len] at hq
    rw [hc q hq]
    have := h.least q hq
    omega
  · rw [addF_cols, rowsK_len] at hq
    rw [hc q hq] at he
    exact h.first q hq (by omega)
/-- its error, if there is one, is that of a range -/
theorem addF_err {rows : List (List Int)} (hR : RightM rows) (row : Nat) (c : Int) : errR (rowsK (addF rows row c) rows.length) = 0 ∨ errR (rowsK (addF rows row c) rows.length) = 2 := by
  have hlen : ∀ r ∈ rowsK (addF rows row c) rows.length, r.length = colsR rows := by
    intro r hr
    obtain ⟨i, hi, rfl⟩ := List.mem_map.1 hr
    rw [addF_len]
    have hi' : i < rows.length := by simpa using hi
    have hm : rows.getD i [] ∈ rows := by simp [List.getElem?_eq_getElem hi']
    exact (hR.same _ hm).1
  have h8 := hR.few
  have hc := hR.cols_le
  unfold errR
  rw [if_neg (by rw [rowsK_len]; omega), if_neg, if_neg]
  · split
    · exact .inr rfl
    · exact .inl rfl
  · simp only [List.any_eq_true, not_exists, not_and, formB, decide_eq_true_eq, Bool.or_eq_true]
    intro r hr
    have h1 := hlen r hr
    have h2 := addF_cols rows row c
    unfold colsR at h2
    rw [rowsK_len]
    unfold colsR at h1 hc
    omega
  · simp only [List.any_eq_true, not_exists, not_and, longB, decide_eq_true_eq]
    intro r hr
    have h1 := hlen r hr
    omega
end Go.Proofs.Ytgmefnddbiofkaa
