/-
  The plain law of chapter 8: assignments, their costs, the best one; a search in lexicographic order, a table over sets of columns, and the first choices out of the table all find it. No program is in sight.
-/
import Derived.Laws.Bits64
namespace Go.Proofs.Ytbegehooefhiiaa

/-- the cost of columns for rows -/
def costA : List (List Int) → List Nat → Int
  | r :: rs, k :: ks => r.getD k 0 + costA rs ks
  | _, _ => 0

/-- the choices of columns for m rows, none of them in p, in lexicographic order -/
def allA (C : Nat) : Nat → List Nat → List (List Nat)
  | 0, _ => [[]]
  | m + 1, p => (List.range C).flatMap fun k => if k ∈ p then [] else (allA C m (p ++ [k])).map (k :: ·)

theorem mem_allA (C : Nat) : ∀ (m : Nat) (p q : List Nat), q ∈ allA C m p ↔ q.length = m ∧ q.Nodup ∧ ∀ k ∈ q, k < C ∧ k ∉ p
  | 0, p, q => by
    simp only [allA, List.mem_singleton]
    constructor
    · rintro rfl; simp
    · rintro ⟨h, _⟩; exact List.eq_nil_of_length_eq_zero h
  | m + 1, p, q => by
    simp only [allA, List.mem_flatMap, List.mem_range]
    constructor
    · rintro ⟨k, hk, h⟩
      by_cases hp : k ∈ p
      · rw [if_pos hp] at h; cases h
      · rw [if_neg hp, List.mem_map] at h
        obtain ⟨q', hq', rfl⟩ := h
        obtain ⟨h1, h2, h3⟩ := (mem_allA C m (p ++ [k]) q').1 hq'
        refine ⟨by simp [h1], ?_, ?_⟩
        · rw [List.nodup_cons]
          exact ⟨fun hm => (h3 k hm).2 (by simp), h2⟩
        · intro j hj
          rcases List.mem_cons.1 hj with rfl | hj
          · exact ⟨hk, hp⟩
          · have := h3 j hj
            exact ⟨this.1, fun hm => this.2 (by simp [hm])⟩
    · rintro ⟨h1, h2, h3⟩
      match q, h1 with
      | k :: q', h1 =>
        have hk := h3 k (by simp)
        refine ⟨k, hk.1, ?_⟩
        rw [if_neg hk.2, List.mem_map]
        rw [List.nodup_cons] at h2
        refine ⟨q', (mem_allA C m (p ++ [k]) q').2 ⟨by simpa using h1, h2.2, fun j hj => ⟨(h3 j (by simp [hj])).1, fun hm => ?_⟩⟩, rfl⟩
        rcases List.mem_append.1 hm with hm | hm
        · exact (h3 j (by simp [hj])).2 hm
        · simp at hm
          subst hm
          exact h2.1 hj

/-- lexicographically less -/
def lexL : List Nat → List Nat → Prop
  | a :: as, b :: bs => a < b ∨ a = b ∧ lexL as bs
  | _, _ => False
theorem lexL_irrefl : ∀ a, ¬ lexL a a
  | [], h => h
  | _ :: as, h => by rcases h with h | ⟨_, h⟩; omega; exact lexL_irrefl as h
theorem lexL_total : ∀ (a b : List Nat), a.length = b.length → ¬ lexL a b → ¬ lexL b a → a = b
  | [], [], _, _, _ => rfl
  | a :: as, b :: bs, hl, h1, h2 => by
    have hab : a = b := by
      rcases Nat.lt_trichotomy a b with h | h | h
      · exact (h1 (.inl h)).elim
      · exact h
      · exact (h2 (.inl h)).elim
    subst hab
    rw [lexL_total as bs (by simpa using hl) (fun h => h1 (.inr ⟨rfl, h⟩)) (fun h => h2 (.inr ⟨rfl, h⟩))]
  | [], _ :: _, hl, _, _ => by simp at hl
  | _ :: _, [], hl, _, _ => by simp at hl

/-- p is the best assignment of the rows with C columns, n its cost -/
structure IsBest (C : Nat) (rows : List (List Int)) (p : List Nat) (n : Int) : Prop where
  mem : p ∈ allA C rows.length []
  cost : costA rows p = n
  least : ∀ q ∈ allA C rows.length [], n ≤ costA rows q
  first : ∀ q ∈ allA C rows.length [], costA rows q = n → ¬ lexL q p
theorem IsBest.unique {C : Nat} {rows : List (List Int)} {p q : List Nat} {n m : Int} (h : IsBest C rows p n) (k : IsBest C rows q m) : p = q ∧ n = m := by
  have h1 := h.least q k.mem
  have h2 := k.least p h.mem
  rw [k.cost] at h1
  rw [h.cost] at h2
  have e : n = m := by omega
  subst e
  exact ⟨lexL_total p q (((mem_allA _ _ _ _).1 h.mem).1.trans ((mem_allA _ _ _ _).1 k.mem).1.symm) (k.first p h.mem h.cost) (h.first q k.mem k.cost), rfl⟩

/-! ### the search in lexicographic order -/
abbrev St := Option (List Nat × Int)
def updS (st : St) (x : List Nat × Int) : St :=
  match st with
  | none => some x
  | some (b, l) => if x.2 < l then some x else some (b, l)
def pruneS (st : St) (t : Int) : Bool :=
  match st with
  | none => false
  | some (_, l) => decide (l ≤ t)
def dfsA (C : Nat) : List (List Int) → List Nat → Int → St → St
  | [], p, t, st => if pruneS st t then st else some (p, t)
  | r :: rs, p, t, st => if pruneS st t then st else (List.range C).foldl (fun st k => if k ∈ p then st else dfsA C rs (p ++ [k]) (t + r.getD k 0) st) st

theorem foldl_ge (b : List Nat) (l : Int) (xs : List (List Nat × Int)) (h : ∀ x ∈ xs, l ≤ x.2) : xs.foldl updS (some (b, l)) = some (b, l) := by
  induction xs with
  | nil => rfl
  | cons x xs ih =>
    have h0 := h x (by simp)
    simp only [List.foldl_cons, updS]
    rw [if_neg (by omega)]
    exact ih fun y hy => h y (by simp [hy])
theorem foldl_flat {α β γ : Type} (f : α → List β) (g : γ → β → γ) (xs : List α) (s : γ) : (xs.flatMap f).foldl g s = xs.foldl (fun s x => (f x).foldl g s) s := by
  induction xs generalizing s with
  | nil => rfl
  | cons x xs ih => simp only [List.flatMap_cons, List.foldl_append, List.foldl_cons, ih]
theorem costA_nonneg (rs : List (List Int)) (q : List Nat) (h : ∀ r ∈ rs, ∀ k, 0 ≤ r.getD k 0) : 0 ≤ costA rs q := by
  induction rs generalizing q with
  | nil => cases q <;> simp [costA]
  | cons r rs ih =>
    cases q with
    | nil => simp [costA]
    | cons k q =>
      have h1 := h r (by simp) k
      have h2 := ih q fun r' hr => h r' (by simp [hr])
      simp only [costA]
      omega
theorem dfsA_eq (C : Nat) (rs : List (List Int)) : ∀ (p : List Nat) (t : Int) (st : St), (∀ r ∈ rs, ∀ k, 0 ≤ r.getD k 0) →
    dfsA C rs p t st = ((allA C rs.length p).map fun q => (p ++ q, t + costA rs q)).foldl updS st := by
  induction rs with
  | nil =>
    intro p t st _
    rcases st with _ | ⟨b, l⟩
    · simp [dfsA, pruneS, allA, costA, updS]
    · by_cases h : l ≤ t
      · simp [dfsA, pruneS, allA, costA, updS, h, Int.not_lt.2 h]
      · have h' : t < l := by omega
        simp [dfsA, pruneS, allA, costA, updS, h, h']
  | cons r rs ih =>
    intro p t st hr
    have hstep : ∀ st : St, ((List.range C).foldl (fun st k => if k ∈ p then st else dfsA C rs (p ++ [k]) (t + r.getD k 0) st) st) =
        ((allA C (rs.length + 1) p).map fun q => (p ++ q, t + costA (r :: rs) q)).foldl updS st := by
      intro st
      rw [allA, List.map_flatMap, foldl_flat]
      congr 1
      funext st k
      by_cases hk : k ∈ p
      · simp [hk]
      · rw [if_neg hk, if_neg hk, ih _ _ _ fun r' h => hr r' (by simp [h]), List.map_map]
        congr 1
        refine List.map_congr_left fun q _ => ?_
        simp [Function.comp, costA, Int.add_assoc]
    simp only [dfsA, List.length_cons]
    by_cases hp : pruneS st t = true
    · rw [if_pos hp]
      rcases st with _ | ⟨b, l⟩
      · simp [pruneS] at hp
      · rw [foldl_ge]
        intro x hx
        obtain ⟨q, _, rfl⟩ := List.mem_map.1 hx
        have := costA_nonneg (r :: rs) q hr
        simp [pruneS] at hp
        show l ≤ t + costA (r :: rs) q
        omega
    · rw [if_neg hp, hstep]

/-- what a fold of candidates in increasing order finds -/
theorem fold_best (xs : List (List Nat × Int)) : ∀ (st : St), (∀ b l, st = some (b, l) → ∀ x ∈ xs, True) →
    match xs.foldl updS st with
    | none => st = none ∧ xs = []
    | some (b, l) => (st = some (b, l) ∧ ∀ x ∈ xs, l ≤ x.2) ∨
        ((∀ b' l', st = some (b', l') → l < l') ∧ ∃ ys zs, xs = ys ++ (b, l) :: zs ∧ (∀ y ∈ ys, l < y.2) ∧ ∀ z ∈ zs, l ≤ z.2) := by
  induction xs with
  | nil =>
    intro st _
    rcases st with _ | ⟨b, l⟩
    · simp
    · simp
  | cons x xs ih =>
    intro st _
    simp only [List.foldl_cons]
    have h := ih (updS st x) (fun _ _ _ _ _ => trivial)
    rcases hf : xs.foldl updS (updS st x) with _ | ⟨b, l⟩
    · rw [hf] at h
      rcases st with _ | ⟨b', l'⟩
      · simp [updS] at h
      · simp only [updS] at h
        split at h <;> simp at h
    · rw [hf] at h
      simp only at h ⊢
      rcases st with _ | ⟨b', l'⟩
      · right
        refine ⟨fun _ _ e => (by cases e), ?_⟩
        rcases h with ⟨h1, h2⟩ | ⟨h1, ys, zs, h2, h3, h4⟩
        · simp only [updS, Option.some.injEq] at h1
          exact ⟨[], xs, by rw [h1]; rfl, by simp, h2⟩
        · refine ⟨x :: ys, zs, by rw [h2]; rfl, ?_, h4⟩
          intro y hy
          rcases List.mem_cons.1 hy with rfl | hy
          · exact h1 y.1 y.2 rfl
          · exact h3 y hy
      · by_cases hx : x.2 < l'
        · right
          simp only [updS, if_pos hx] at h
          rcases h with ⟨h1, h2⟩ | ⟨h1, ys, zs, h2, h3, h4⟩
          · simp only [Option.some.injEq] at h1
            subst h1
            refine ⟨fun _ _ e => ?_, [], xs, rfl, by simp, h2⟩
            injection e with e
            injection e with _ e
            subst e
            exact hx
          · have := h1 x.1 x.2 rfl
            refine ⟨fun _ _ e => ?_, x :: ys, zs, by rw [h2]; rfl, ?_, h4⟩
            · injection e with e
              injection e with _ e
              subst e
              omega
            · intro y hy
              rcases List.mem_cons.1 hy with rfl | hy
              · exact this
              · exact h3 y hy
        · simp only [updS, if_neg hx] at h
          rcases h with ⟨h1, h2⟩ | ⟨h1, ys, zs, h2, h3, h4⟩
          · left
            refine ⟨h1, ?_⟩
            intro y hy
            rcases List.mem_cons.1 hy with rfl | hy
            · simp only [Option.some.injEq, Prod.mk.injEq] at h1
              omega
            · exact h2 y hy
          · right
            have := h1 b' l' rfl
            refine ⟨h1, x :: ys, zs, by rw [h2]; rfl, ?_, h4⟩
            intro y hy
            rcases List.mem_cons.1 hy with rfl | hy
            · omega
            · exact h3 y hy

/-- the order of the choices -/
theorem allA_sorted (C : Nat) : ∀ (m : Nat) (p : List Nat), (allA C m p).Pairwise lexL
  | 0, _ => by simp [allA]
  | m + 1, p => by
    simp only [allA]
    rw [List.pairwise_flatMap]
    refine ⟨fun k _ => ?_, ?_⟩
    · by_cases hk : k ∈ p
      · rw [if_pos hk]; exact List.Pairwise.nil
      · rw [if_neg hk, List.pairwise_map]
        exact (allA_sorted C m (p ++ [k])).imp fun h => .inr ⟨rfl, h⟩
    · refine (List.pairwise_lt_range (n := C)).imp ?_
      intro a b hab x hx y hy
      by_cases ha : a ∈ p
      · rw [if_pos ha] at hx; cases hx
      by_cases hb : b ∈ p
      · rw [if_pos hb] at hy; cases hy
      rw [if_neg ha, List.mem_map] at hx
      rw [if_neg hb, List.mem_map] at hy
      obtain ⟨_, _, rfl⟩ := hx
      obtain ⟨_, _, rfl⟩ := hy
      exact .inl hab

theorem lexL_asymm : ∀ (a b : List Nat), lexL a b → ¬ lexL b a
  | a :: as, b :: bs, h, k => by
    rcases h with h | ⟨rfl, h⟩ <;> rcases k with k | ⟨k1, k⟩
    · omega
    · omega
    · omega
    · exact lexL_asymm as bs h k
  | [], _, h, _ => h
  | _ :: _, [], h, _ => h

def bestF (C : Nat) (rows : List (List Int)) : St := dfsA C rows [] 0 none
theorem bestF_isBest (C : Nat) (rows : List (List Int)) (hnn : ∀ r ∈ rows, ∀ k, 0 ≤ r.getD k 0) (hC : rows.length ≤ C) : ∃ p n, bestF C rows = some (p, n) ∧ IsBest C rows p n := by
  have hid : List.range rows.length ∈ allA C rows.length [] := (mem_allA _ _ _ _).2 ⟨by simp, List.nodup_range, fun k hk => ⟨by simp at hk; omega, by simp⟩⟩
  have hd := dfsA_eq C rows [] 0 none hnn
  have hmap : ((allA C rows.length []).map fun q => (([] : List Nat) ++ q, (0 : Int) + costA rows q)) = (allA C rows.length []).map fun q => (q, costA rows q) := by
    refine List.map_congr_left fun q _ => ?_
    simp
  rw [hmap] at hd
  have hf := fold_best ((allA C rows.length []).map fun q => (q, costA rows q)) none (fun _ _ _ _ _ => trivial)
  rw [← hd] at hf
  unfold bestF
  rcases hb : dfsA C rows [] 0 none with _ | ⟨p, n⟩
  · rw [hb] at hf
    have := hf.2
    rw [List.map_eq_nil_iff] at this
    rw [this] at hid
    cases hid
  · rw [hb] at hf
    simp only at hf
    rcases hf with ⟨h, _⟩ | ⟨_, ys, zs, hx, hy, hz⟩
    · cases h
    · have hmem : (p, n) ∈ (allA C rows.length []).map fun q => (q, costA rows q) := by rw [hx]; simp
      obtain ⟨q, hq, e⟩ := List.mem_map.1 hmem
      injection e with e1 e2
      subst e1
      have hle : ∀ x ∈ (allA C rows.length []).map fun q => (q, costA rows q), n ≤ x.2 := by
        intro x hxm
        rw [hx] at hxm
        rcases List.mem_append.1 hxm with h | h
        · have := hy x h; omega
        · rcases List.mem_cons.1 h with rfl | h
          · exact Int.le_refl _
          · exact hz x h
      refine ⟨q, n, rfl, hq, e2, fun q' hq' => hle (q', costA rows q') (List.mem_map.2 ⟨q', hq', rfl⟩), ?_⟩
      intro q' hq' hc hlex
      have hs : ((allA C rows.length []).map fun q => (q, costA rows q)).Pairwise fun a b => lexL a.1 b.1 := by
        rw [List.pairwise_map]
        exact allA_sorted C _ _
      have hm' : (q', n) ∈ (allA C rows.length []).map fun q => (q, costA rows q) := List.mem_map.2 ⟨q', hq', by rw [hc]⟩
      rw [hx] at hm' hs
      rw [List.pairwise_append] at hs
      rcases List.mem_append.1 hm' with h | h
      · have := hy _ h
        simp at this
      · rcases List.mem_cons.1 h with h | h
        · injection h with h1 _
          subst h1
          exact lexL_irrefl _ hlex
        · exact lexL_asymm _ _ ((List.pairwise_cons.1 hs.2.1).1 _ h) hlex

/-! ### the least cost of the rest, and the first choices -/
/-- the least of f k over the columns k that are not in p, found one after the other; -1 if there is none -/
def leastS (C : Nat) (p : List Nat) (f : Nat → Int) : Int := (List.range C).foldl (fun acc k => if k ∈ p then acc else if acc < 0 ∨ f k < acc then f k else acc) (-1)
def minR (C : Nat) : List (List Int) → List Nat → Int
  | [], _ => 0
  | r :: rs, p => leastS C p fun k => r.getD k 0 + minR C rs (p ++ [k])

theorem leastS_spec (C : Nat) (p : List Nat) (f : Nat → Int) (h0 : ∀ k, k < C → k ∉ p → 0 ≤ f k) :
    (leastS C p f = -1 ∧ ∀ k, k < C → k ∈ p) ∨ (0 ≤ leastS C p f ∧ (∃ k, k < C ∧ k ∉ p ∧ f k = leastS C p f) ∧ ∀ k, k < C → k ∉ p → leastS C p f ≤ f k) := by
  unfold leastS
  induction C with
  | zero => left; simp
  | succ C ih =>
    have ih := ih fun k hk => h0 k (by omega)
    rw [List.range_succ, List.foldl_append]
    simp only [List.foldl_cons, List.foldl_nil]
    generalize (List.range C).foldl (fun acc k => if k ∈ p then acc else if acc < 0 ∨ f k < acc then f k else acc) (-1) = a at ih ⊢
    by_cases hp : C ∈ p
    · rw [if_pos hp]
      rcases ih with ⟨h1, h2⟩ | ⟨h1, ⟨k, hk, hkp, hf⟩, h3⟩
      · left
        refine ⟨h1, fun k hk => ?_⟩
        rcases Nat.lt_succ_iff_lt_or_eq.1 hk with h | rfl
        · exact h2 k h
        · exact hp
      · right
        refine ⟨h1, ⟨k, by omega, hkp, hf⟩, fun k hk hkp => ?_⟩
        rcases Nat.lt_succ_iff_lt_or_eq.1 hk with h | rfl
        · exact h3 k h hkp
        · exact (hkp hp).elim
    · rw [if_neg hp]
      have hC := h0 C (by omega) hp
      right
      rcases ih with ⟨h1, h2⟩ | ⟨h1, ⟨k, hk, hkp, hf⟩, h3⟩
      · rw [if_pos (.inl (by omega))]
        refine ⟨hC, ⟨C, by omega, hp, rfl⟩, fun k hk hkp => ?_⟩
        rcases Nat.lt_succ_iff_lt_or_eq.1 hk with h | rfl
        · exact (hkp (h2 k h)).elim
        · exact Int.le_refl _
      · by_cases hlt : f C < a
        · rw [if_pos (.inr hlt)]
          refine ⟨hC, ⟨C, by omega, hp, rfl⟩, fun k hk hkp => ?_⟩
          rcases Nat.lt_succ_iff_lt_or_eq.1 hk with h | rfl
          · have := h3 k h hkp; omega
          · exact Int.le_refl _
        · rw [if_neg (by omega)]
          refine ⟨h1, ⟨k, by omega, hkp, hf⟩, fun k hk hkp => ?_⟩
          rcases Nat.lt_succ_iff_lt_or_eq.1 hk with h | rfl
          · exact h3 k h hkp
          · omega

/-- more than p columns: one is free -/
theorem free_col (C : Nat) : ∀ (p : List Nat), p.length < C → ∃ k, k < C ∧ k ∉ p := by
  induction C with
  | zero => intro p h; omega
  | succ C ih =>
    intro p h
    by_cases hp : C ∈ p
    · have hl : (p.filter (· ≠ C)).length < p.length := List.length_filter_lt_length_iff_exists.2 ⟨C, hp, by simp⟩
      obtain ⟨k, hk, hkp⟩ := ih (p.filter (· ≠ C)) (by omega)
      refine ⟨k, by omega, fun hm => hkp ?_⟩
      rw [List.mem_filter]
      exact ⟨hm, by simp; omega⟩
    · exact ⟨C, by omega, hp⟩

theorem minR_nonneg (C : Nat) (rs : List (List Int)) : ∀ (p : List Nat), (∀ r ∈ rs, ∀ k, 0 ≤ r.getD k 0) → p.length + rs.length ≤ C → 0 ≤ minR C rs p := by
  induction rs with
  | nil => intro p _ _; simp [minR]
  | cons r rs ih =>
    intro p hr hl
    simp only [List.length_cons] at hl
    have h0 : ∀ k, k < C → k ∉ p → 0 ≤ r.getD k 0 + minR C rs (p ++ [k]) := fun k _ _ => by
      have h1 := hr r (by simp) k
      have h2 := ih (p ++ [k]) (fun r' h => hr r' (by simp [h])) (by simp; omega)
      omega
    rcases leastS_spec C p _ h0 with ⟨_, h2⟩ | ⟨h1, _⟩
    · obtain ⟨k, hk, hkp⟩ := free_col C p (by omega)
      exact (hkp (h2 k hk)).elim
    · exact h1

theorem minR_spec (C : Nat) (r : List Int) (rs : List (List Int)) (p : List Nat) (hr : ∀ r' ∈ r :: rs, ∀ k, 0 ≤ r'.getD k 0) (hl : p.length + (rs.length + 1) ≤ C) :
    (∃ k, k < C ∧ k ∉ p ∧ r.getD k 0 + minR C rs (p ++ [k]) = minR C (r :: rs) p) ∧ ∀ k, k < C → k ∉ p → minR C (r :: rs) p ≤ r.getD k 0 + minR C rs (p ++ [k]) := by
  have h0 : ∀ k, k < C → k ∉ p → 0 ≤ r.getD k 0 + minR C rs (p ++ [k]) := fun k _ _ => by
    have h1 := hr r (by simp) k
    have h2 := minR_nonneg C rs (p ++ [k]) (fun r' h => hr r' (by simp [h])) (by simp; omega)
    omega
  rcases leastS_spec C p _ h0 with ⟨_, h2⟩ | ⟨_, h2, h3⟩
  · obtain ⟨k, hk, hkp⟩ := free_col C p (by omega)
    exact (hkp (h2 k hk)).elim
  · exact ⟨h2, h3⟩

theorem minR_least (C : Nat) (rs : List (List Int)) : ∀ (p : List Nat), (∀ r ∈ rs, ∀ k, 0 ≤ r.getD k 0) → p.length + rs.length ≤ C → ∀ q ∈ allA C rs.length p, minR C rs p ≤ costA rs q := by
  induction rs with
  | nil => intro p _ _ q _; cases q <;> simp [minR, costA]
  | cons r rs ih =>
    intro p hr hl q hq
    obtain ⟨h1, h2, h3⟩ := (mem_allA _ _ _ _).1 hq
    match q, h1 with
    | k :: q', h1 =>
      have hk := h3 k (by simp)
      rw [List.nodup_cons] at h2
      have hq' : q' ∈ allA C rs.length (p ++ [k]) := (mem_allA _ _ _ _).2 ⟨by simpa using h1, h2.2, fun j hj => ⟨(h3 j (by simp [hj])).1, fun hm => by
        rcases List.mem_append.1 hm with hm | hm
        · exact (h3 j (by simp [hj])).2 hm
        · simp at hm
          subst hm
          exact h2.1 hj⟩⟩
      have h4 := ih (p ++ [k]) (fun r' h => hr r' (by simp [h])) (by simp at hl ⊢; omega) q' hq'
      have h5 := (minR_spec C r rs p hr (by simpa using hl)).2 k hk.1 hk.2
      simp only [costA]
      omega

/-- the first column that keeps the least cost, row by row -/
def firstK (C : Nat) (p : List Nat) (f : Nat → Int) (m : Int) : Nat → Nat → Nat
  | 0, k => k
  | n + 1, k => if k ∉ p ∧ f k = m then k else firstK C p f m n (k + 1)

/-- q chooses in each row the first column that keeps the least cost -/
def Greedy (C : Nat) : List (List Int) → List Nat → List Nat → Prop
  | [], _, q => q = []
  | r :: rs, p, q => ∃ k q', q = k :: q' ∧ k < C ∧ k ∉ p ∧ r.getD k 0 + minR C rs (p ++ [k]) = minR C (r :: rs) p ∧
      (∀ j, j < k → j ∉ p → r.getD j 0 + minR C rs (p ++ [j]) ≠ minR C (r :: rs) p) ∧ Greedy C rs (p ++ [k]) q'
theorem greedy_best (C : Nat) (rs : List (List Int)) : ∀ (p q : List Nat), (∀ r ∈ rs, ∀ k, 0 ≤ r.getD k 0) → p.length + rs.length ≤ C → Greedy C rs p q →
    q ∈ allA C rs.length p ∧ costA rs q = minR C rs p ∧ ∀ q' ∈ allA C rs.length p, costA rs q' = minR C rs p → ¬ lexL q' q := by
  induction rs with
  | nil =>
    intro p q _ _ h
    have h' : q = [] := h
    subst h'
    refine ⟨by simp [allA], by simp [costA, minR], fun q' _ _ h => ?_⟩
    cases q' <;> exact h
  | cons r rs ih =>
    rintro p q hr hl ⟨k, q', rfl, hk, hkp, he, hfirst, hg⟩
    obtain ⟨h1, h2, h3⟩ := ih (p ++ [k]) q' (fun r' h => hr r' (by simp [h])) (by simp at hl ⊢; omega) hg
    refine ⟨?_, by simp only [costA]; omega, ?_⟩
    · simp only [allA, List.length_cons, List.mem_flatMap, List.mem_range]
      exact ⟨k, hk, by rw [if_neg hkp]; exact List.mem_map.2 ⟨q', h1, rfl⟩⟩
    · intro x hx hc hlex
      simp only [allA, List.length_cons, List.mem_flatMap, List.mem_range] at hx
      obtain ⟨j, hj, hx⟩ := hx
      by_cases hjp : j ∈ p
      · rw [if_pos hjp] at hx; cases hx
      rw [if_neg hjp, List.mem_map] at hx
      obtain ⟨x', hx', rfl⟩ := hx
      simp only [costA] at hc
      have hm := minR_least C rs (p ++ [j]) (fun r' h => hr r' (by simp [h])) (by simp at hl ⊢; omega) x' hx'
      have hm2 := (minR_spec C r rs p hr (by simpa using hl)).2 j hj hjp
      rcases hlex with h | ⟨rfl, h⟩
      · exact hfirst j h hjp (by omega)
      · exact h3 x' hx' (by omega) h
theorem greedy_isBest (C : Nat) (rows : List (List Int)) (q : List Nat) (hnn : ∀ r ∈ rows, ∀ k, 0 ≤ r.getD k 0) (hC : rows.length ≤ C) (h : Greedy C rows [] q) : IsBest C rows q (minR C rows []) := by
  obtain ⟨h1, h2, h3⟩ := greedy_best C rows [] q hnn (by simpa using hC) h
  exact ⟨h1, h2, minR_least C rows [] hnn (by simpa using hC), h3⟩

end Go.Proofs.Ytbegehooefhiiaa
