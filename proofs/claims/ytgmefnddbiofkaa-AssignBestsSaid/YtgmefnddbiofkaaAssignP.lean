/-
  The choices of the reference of chapter 8, row by row: plain.
-/
import Derived.Test.YtgmefnddbiofkaaBitsN
import Derived.Test.YtgmefnddbiofkaaTotN
namespace Go.Proofs.Ytgmefnddbiofkaa

/-- what the table holds at the end -/
def tabV (C : Nat) (rows : List (List Int)) (x : Nat) : Int := if popC C x ≤ rows.length then tabN C rows x else -1
/-- q is what the first rows have chosen, s its set of columns -/
structure Pre (C : Nat) (rows : List (List Int)) (q : List Nat) (s : Nat) : Prop where
  pop : popC C s = q.length
  mem : ∀ k, k < C → (k ∈ bitsS C s ↔ k ∈ q)
  lt : s < 2 ^ C
  ext : ∀ q', Greedy C (rows.drop q.length) q q' → Greedy C rows [] (q ++ q')
/-- column k is free, and keeps the least cost -/
def Fits (C : Nat) (rows : List (List Int)) (q : List Nat) (s k : Nat) : Prop := s / 2 ^ k % 2 = 0 ∧ (rows.getD q.length []).getD k 0 + tabV C rows (s + 2 ^ k) = tabV C rows s
theorem Pre.nil (C : Nat) (rows : List (List Int)) : Pre C rows [] 0 :=
  ⟨popC_zero C, fun k _ => by rw [mem_bitsS]; simp, Nat.two_pow_pos C, fun _ h => h⟩
theorem Pre.done {C : Nat} {rows : List (List Int)} {q : List Nat} {s : Nat} (h : Pre C rows q s) (hq : q.length = rows.length) : Greedy C rows [] q := by
  have := h.ext [] (by rw [hq, List.drop_length]; rfl)
  rwa [List.append_nil] at this
theorem Pre.tab {C : Nat} {rows : List (List Int)} {q : List Nat} {s : Nat} (h : Pre C rows q s) (hq : q.length ≤ rows.length) : tabV C rows s = minR C (rows.drop q.length) q := by
  unfold tabV tabN
  rw [if_pos (by rw [h.pop]; exact hq), h.pop, minR_congr C _ (bitsS C s) q h.mem]
theorem Pre.free {C : Nat} {rows : List (List Int)} {q : List Nat} {s : Nat} (h : Pre C rows q s) {k : Nat} (hk : k < C) : k ∉ q ↔ s / 2 ^ k % 2 = 0 := by
  rw [← h.mem k hk, mem_bitsS]
  omega
theorem Pre.tab_next {C : Nat} {rows : List (List Int)} {q : List Nat} {s : Nat} (h : Pre C rows q s) (hq : q.length < rows.length) {k : Nat} (hk : k < C) (hb : s / 2 ^ k % 2 = 0) :
    tabV C rows (s + 2 ^ k) = minR C (rows.drop (q.length + 1)) (q ++ [k]) := by
  have hp : popC C (s + 2 ^ k) = q.length + 1 := by rw [popC_add C s k hk hb, h.pop]
  unfold tabV tabN
  rw [if_pos (by rw [hp]; exact hq), hp]
  refine minR_congr C _ _ _ fun j hj => ?_
  rw [mem_bitsS_add C s k j hk hb, List.mem_append, List.mem_append, h.mem j hj]
theorem drop_row {rows : List (List Int)} {i : Nat} (h : i < rows.length) : rows.drop i = rows.getD i [] :: rows.drop (i + 1) := by
  rw [List.drop_eq_getElem_cons h]
  simp [List.getElem?_eq_getElem h]
theorem Pre.fits {C : Nat} {rows : List (List Int)} {q : List Nat} {s : Nat} (h : Pre C rows q s) (hq : q.length < rows.length) {k : Nat} (hk : k < C) :
    Fits C rows q s k ↔ k ∉ q ∧ (rows.getD q.length []).getD k 0 + minR C (rows.drop (q.length + 1)) (q ++ [k]) = minR C (rows.getD q.length [] :: rows.drop (q.length + 1)) q := by
  unfold Fits
  rw [h.free hk, h.tab (by omega), drop_row hq]
  constructor
  · rintro ⟨h1, h2⟩
    exact ⟨h1, by rw [← h.tab_next hq hk h1]; exact h2⟩
  · rintro ⟨h1, h2⟩
    exact ⟨h1, by rw [h.tab_next hq hk h1]; exact h2⟩
theorem Pre.step {C : Nat} {rows : List (List Int)} {q : List Nat} {s : Nat} (h : Pre C rows q s) (hq : q.length < rows.length) {k : Nat} (hk : k < C) (hf : Fits C rows q s k) (hno : ∀ j, j < k → ¬ Fits C rows q s j) :
    Pre C rows (q ++ [k]) (s + 2 ^ k) := by
  refine ⟨by rw [popC_add C s k hk hf.1, h.pop]; simp, fun j hj => ?_, bit_bound C s k h.lt hk hf.1, fun q' hg => ?_⟩
  · rw [mem_bitsS_add C s k j hk hf.1, List.mem_append, List.mem_append, h.mem j hj]
  · rw [List.append_assoc]
    refine h.ext _ ?_
    rw [drop_row hq]
    obtain ⟨h1, h2⟩ := (h.fits hq hk).1 hf
    refine ⟨k, q', rfl, hk, h1, h2, fun j hj hjq e => ?_, by simpa using hg⟩
    exact hno j hj ((h.fits hq (by omega)).2 ⟨hjq, e⟩)
theorem Pre.some_ {C : Nat} {rows : List (List Int)} {q : List Nat} {s : Nat} (h : Pre C rows q s) (hq : q.length < rows.length) (hR : RightM rows) (hC : rows.length ≤ C) : ∃ k, k < C ∧ Fits C rows q s k := by
  have hmem : ∀ r ∈ rows.getD q.length [] :: rows.drop (q.length + 1), r ∈ rows := by
    rw [← drop_row hq]
    exact fun r hr => List.mem_of_mem_drop hr
  obtain ⟨⟨k, h1, h2, h3⟩, _⟩ := minR_spec C (rows.getD q.length []) (rows.drop (q.length + 1)) q (fun r hr k => hR.nn r (hmem r hr) k) (by rw [List.length_drop]; omega)
  exact ⟨k, h1, (h.fits hq h1).2 ⟨h2, h3⟩⟩
theorem Pre.zero (C : Nat) (rows : List (List Int)) : tabV C rows 0 = minR C rows [] := (Pre.nil C rows).tab (Nat.zero_le _)
end Go.Proofs.Ytgmefnddbiofkaa
