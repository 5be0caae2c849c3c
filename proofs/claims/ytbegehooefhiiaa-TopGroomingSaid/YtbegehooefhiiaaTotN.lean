/-
  What Total of chapter 8 says of a list, and that it says yes just of the assignments.
-/
import Derived.Test.YtbegehooefhiiaaRightN
namespace Go.Proofs.Ytbegehooefhiiaa

def okAt (C : Nat) (p : List Int) (k : Nat) : Bool := decide (0 ≤ p.getD k 0) && decide (p.getD k 0 < (C : Int)) && !decide (p.getD k 0 ∈ p.take k)
def okT (C : Nat) (p : List Int) : Nat → Bool
  | 0 => true
  | k + 1 => okT C p k && okAt C p k
def sumT (rows : List (List Int)) (p : List Int) : Nat → Int
  | 0 => 0
  | k + 1 => sumT rows p k + (rows.getD k []).getD (p.getD k 0).toNat 0
def totP (rows : List (List Int)) (p : List Int) : Int × Bool := if p.length = rows.length ∧ okT (colsR rows) p p.length = true then (sumT rows p p.length, true) else (0, false)

theorem okT_false (C : Nat) (p : List Int) (n k : Nat) (h : k < n) (hk : okAt C p k = false) : okT C p n = false := by
  induction n with
  | zero => omega
  | succ n ih =>
    simp only [okT]
    by_cases e : k = n
    · subst e; rw [hk]; simp
    · rw [ih (by omega)]; rfl
theorem sumT_bd {rows : List (List Int)} (h : RightM rows) (p : List Int) (k : Nat) : 0 ≤ sumT rows p k ∧ sumT rows p k ≤ 1000000 * k := by
  induction k with
  | zero => simp [sumT]
  | succ k ih =>
    have hb : 0 ≤ (rows.getD k []).getD (p.getD k 0).toNat 0 ∧ (rows.getD k []).getD (p.getD k 0).toNat 0 ≤ 1000000 := by
      rcases Nat.lt_or_ge k rows.length with hk | hk
      · have hm : rows.getD k [] ∈ rows := by simp [List.getElem?_eq_getElem hk]
        exact ⟨h.nn _ hm _, h.le _ hm _⟩
      · simp [List.getElem?_eq_none hk]
    simp only [sumT]
    omega
theorem totP_no_len {rows : List (List Int)} {p : List Int} (h : p.length ≠ rows.length) : totP rows p = (0, false) := by
  unfold totP; rw [if_neg (by simp [h])]
theorem totP_no {rows : List (List Int)} {p : List Int} {k : Nat} (hk : k < p.length) (h : okAt (colsR rows) p k = false) : totP rows p = (0, false) := by
  unfold totP; rw [if_neg (by rw [okT_false _ _ _ _ hk h]; simp)]
theorem totP_yes {rows : List (List Int)} {p : List Int} (h : p.length = rows.length) (h2 : okT (colsR rows) p p.length = true) : totP rows p = (sumT rows p p.length, true) := by
  unfold totP; rw [if_pos ⟨h, h2⟩]

theorem okT_iff (C : Nat) (p : List Int) (n : Nat) : okT C p n = true ↔ ∀ k, k < n → okAt C p k = true := by
  induction n with
  | zero => simp [okT]
  | succ n ih =>
    simp only [okT, Bool.and_eq_true, ih]
    constructor
    · rintro ⟨h1, h2⟩ k hk
      rcases Nat.lt_succ_iff_lt_or_eq.1 hk with h | rfl
      · exact h1 k h
      · exact h2
    · intro h
      exact ⟨fun k hk => h k (by omega), h n (by omega)⟩
/-- the numbers of an assignment as a list of ints -/
def intsN (q : List Nat) : List Int := q.map Int.ofNat
theorem intsN_getD (q : List Nat) (k : Nat) : (intsN q).getD k 0 = ((q.getD k 0 : Nat) : Int) := by
  unfold intsN
  rw [List.getD, List.getD, List.getElem?_map]
  cases q[k]? <;> rfl
theorem intsN_len (q : List Nat) : (intsN q).length = q.length := by simp [intsN]
theorem intsN_mem (q : List Nat) (k : Nat) : ((k : Nat) : Int) ∈ intsN q ↔ k ∈ q := by
  unfold intsN
  rw [List.mem_map]
  constructor
  · rintro ⟨j, hj, e⟩
    have : j = k := by have : (j : Int) = (k : Int) := e; omega
    rwa [← this]
  · exact fun h => ⟨k, h, rfl⟩
theorem intsN_inj {q q' : List Nat} (h : intsN q = intsN q') : q = q' := by
  have := congrArg (List.map Int.toNat) h
  simpa [intsN, Function.comp_def] using this

theorem nodup_take_iff (q : List Nat) : q.Nodup ↔ ∀ k, k < q.length → q.getD k 0 ∉ q.take k := by
  rw [List.nodup_iff_pairwise_ne, List.pairwise_iff_getElem]
  constructor
  · intro h k hk hm
    obtain ⟨j, hj, e⟩ := List.getElem_of_mem hm
    rw [List.length_take] at hj
    rw [List.getElem_take] at e
    have e2 : q.getD k 0 = q[k] := by simp [List.getElem?_eq_getElem hk]
    rw [e2] at e
    exact h j k (by omega) hk (by omega) e
  · intro h i j hi hj hij e
    apply h j hj
    have e2 : q.getD j 0 = q[j] := by simp [List.getElem?_eq_getElem hj]
    rw [e2, ← e]
    exact List.mem_iff_getElem.2 ⟨i, by rw [List.length_take]; omega, by rw [List.getElem_take]⟩
theorem okT_intsN (C : Nat) (q : List Nat) : okT C (intsN q) (intsN q).length = true ↔ q ∈ allA C q.length [] := by
  rw [okT_iff, mem_allA, nodup_take_iff, intsN_len]
  constructor
  · intro h
    refine ⟨rfl, fun k hk hm => ?_, fun x hx => ?_⟩
    · have := h k hk
      unfold okAt at this
      rw [intsN_getD] at this
      simp only [Bool.and_eq_true, decide_eq_true_eq, Bool.not_eq_true', decide_eq_false_iff_not] at this
      apply this.2
      have e : (intsN q).take k = intsN (q.take k) := by simp [intsN, List.map_take]
      rw [e, intsN_mem]
      exact hm
    · obtain ⟨k, hk, rfl⟩ := List.getElem_of_mem hx
      have := h k hk
      unfold okAt at this
      rw [intsN_getD] at this
      simp only [Bool.and_eq_true, decide_eq_true_eq] at this
      have e2 : q.getD k 0 = q[k] := by simp [List.getElem?_eq_getElem hk]
      rw [e2] at this
      exact ⟨by omega, by simp⟩
  · rintro ⟨_, h1, h2⟩ k hk
    unfold okAt
    rw [intsN_getD]
    have e2 : q.getD k 0 = q[k] := by simp [List.getElem?_eq_getElem hk]
    have e : (intsN q).take k = intsN (q.take k) := by simp [intsN, List.map_take]
    have h3 := (h2 q[k] (List.getElem_mem hk)).1
    have h4 := h1 k hk
    rw [e]
    simp only [Bool.and_eq_true, decide_eq_true_eq, Bool.not_eq_true', decide_eq_false_iff_not]
    refine ⟨⟨by omega, by rw [e2]; omega⟩, fun hm => h4 ((intsN_mem _ _).1 hm)⟩
/-- what Total accepts is a list of columns -/
theorem okT_nat (C : Nat) (p : List Int) (h : okT C p p.length = true) : p = intsN (p.map Int.toNat) := by
  unfold intsN
  rw [List.map_map]
  conv => lhs; rw [← List.map_id p]
  refine List.map_congr_left fun x hx => ?_
  obtain ⟨k, hk, rfl⟩ := List.getElem_of_mem hx
  have := (okT_iff C p p.length).1 h k hk
  unfold okAt at this
  simp only [Bool.and_eq_true, decide_eq_true_eq] at this
  have e2 : p.getD k 0 = p[k] := by simp [List.getElem?_eq_getElem hk]
  rw [e2] at this
  show p[k] = ((p[k].toNat : Nat) : Int)
  omega
theorem sumT_cons (r : List Int) (rows : List (List Int)) (x : Int) (p : List Int) (k : Nat) : sumT (r :: rows) (x :: p) (k + 1) = r.getD x.toNat 0 + sumT rows p k := by
  induction k with
  | zero => simp [sumT]
  | succ k ih => rw [sumT, ih, sumT]; simp [Int.add_assoc]
theorem sumT_costA (rows : List (List Int)) : ∀ (q : List Nat), q.length = rows.length → sumT rows (intsN q) (intsN q).length = costA rows q := by
  induction rows with
  | nil => intro q h; have := List.eq_nil_of_length_eq_zero h; subst this; rfl
  | cons r rows ih =>
    intro q h
    match q, h with
    | k :: q', h =>
      have e : intsN (k :: q') = (k : Int) :: intsN q' := rfl
      rw [e, List.length_cons, sumT_cons, ih q' (by simpa using h), costA]
      simp
theorem totP_best {rows : List (List Int)} {p : List Nat} {n : Int} (h : IsBest (colsR rows) rows p n) : totP rows (intsN p) = (n, true) := by
  have hl := ((mem_allA _ _ _ _).1 h.mem).1
  rw [totP_yes (by rw [intsN_len, hl]) ((okT_intsN _ _).2 (by rw [hl]; exact h.mem)), sumT_costA rows p hl, h.cost]
/-- what Total says yes of -/
theorem totP_true {rows : List (List Int)} {p : List Int} {n : Int} (h : totP rows p = (n, true)) : ∃ q, p = intsN q ∧ q ∈ allA (colsR rows) rows.length [] ∧ costA rows q = n := by
  unfold totP at h
  by_cases hc : p.length = rows.length ∧ okT (colsR rows) p p.length = true
  · rw [if_pos hc] at h
    have hp := okT_nat _ _ hc.2
    refine ⟨p.map Int.toNat, hp, ?_, ?_⟩
    · have := hc.2
      rw [hp, okT_intsN] at this
      simpa [hc.1] using this
    · have e := sumT_costA rows (p.map Int.toNat) (by simp [hc.1])
      rw [← hp] at e
      rw [← e]
      injection h
  · rw [if_neg hc] at h
    injection h with _ h
    cases h
end Go.Proofs.Ytbegehooefhiiaa
