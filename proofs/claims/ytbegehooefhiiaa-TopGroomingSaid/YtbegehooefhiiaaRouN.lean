/-
  The plain law of chapter 47: the search that places tasks one after the other finds a plan that ends first. No program is in sight.
-/
import Derived.WalkKit
namespace Go.Proofs.Ytbegehooefhiiaa

structure Sh where
  g : Int
  run : Int
  fr : Int
  tt : Int
def sh0 : Sh := ⟨0, 0, 0, 0⟩
/-- tasks and groomers: cap i k: task i can be done by the groomer with index k -/
structure Prob where
  n : Nat
  w : Nat
  dur : Nat → Int
  run : Nat → Int
  cap : Nat → Nat → Bool
  cl : Nat → Nat → Bool
/-- the least start of a task of a groomer behind the tasks placed, those with index below j looked at -/
def earlN (p : Prob) (plan : List Sh) (i : Nat) (g : Int) : Nat → Int
  | 0 => 0
  | j + 1 => if (plan.getD j sh0).g ≠ 0 ∧ ((plan.getD j sh0).g = g ∨ p.cl i j = true) then max (earlN p plan i g j) (plan.getD j sh0).tt else earlN p plan i g j
def earl (p : Prob) (plan : List Sh) (i : Nat) (g : Int) : Int := earlN p plan i g plan.length
def putSh (p : Prob) (plan : List Sh) (i k : Nat) : List Sh := plan.set i ⟨(k : Int) + 1, p.run i, earl p plan i ((k : Int) + 1), earl p plan i ((k : Int) + 1) + p.dur i⟩
/-- the search: what it has best, and where that ends -/
def placeF (p : Prob) : Nat → List Sh → Int → Int → List Sh × Int → List Sh × Int
  | 0, plan, _, en, s => if s.2 ≤ en then s else (plan, en)
  | left + 1, plan, fr, en, s => if s.2 ≤ en then s else
    (List.range p.n).foldl (fun s i => if (plan.getD i sh0).g ≠ 0 then s else
      (List.range p.w).foldl (fun s k => if p.cap i k = false ∨ earl p plan i ((k : Int) + 1) < fr then s else
        placeF p left (putSh p plan i k) (earl p plan i ((k : Int) + 1)) (max en (earl p plan i ((k : Int) + 1) + p.dur i)) s) s) s
/-- a plan that the search comes to -/
inductive Ext (p : Prob) : Nat → List Sh → Int → Int → List Sh → Int → Prop
  | done (plan : List Sh) (fr en : Int) : Ext p 0 plan fr en plan en
  | step (left : Nat) (plan : List Sh) (fr en : Int) (P : List Sh) (E : Int) (i k : Nat) (hi : i < p.n) (hg : (plan.getD i sh0).g = 0) (hk : k < p.w) (hc : p.cap i k = true) (hf : fr ≤ earl p plan i ((k : Int) + 1))
      (h : Ext p left (putSh p plan i k) (earl p plan i ((k : Int) + 1)) (max en (earl p plan i ((k : Int) + 1) + p.dur i)) P E) : Ext p (left + 1) plan fr en P E
theorem Ext.ge {p : Prob} {left : Nat} {plan P : List Sh} {fr en E : Int} (h : Ext p left plan fr en P E) : en ≤ E := by
  induction h with
  | done => exact Int.le_refl _
  | step _ _ _ _ _ _ _ _ _ _ _ _ _ _ ih => omega
/-- what a part of the search may leave -/
def Found (A : List Sh → Int → Prop) (s s' : List Sh × Int) : Prop := s'.2 ≤ s.2 ∧ (∀ P E, A P E → s'.2 ≤ E) ∧ (s' = s ∨ (A s'.1 s'.2 ∧ s'.2 < s.2))
theorem Found.refl {A : List Sh → Int → Prop} {s : List Sh × Int} (h : ∀ P E, A P E → s.2 ≤ E) : Found A s s := ⟨Int.le_refl _, h, .inl rfl⟩
theorem found_fold {α : Type} (F : List Sh × Int → α → List Sh × Int) (A : α → List Sh → Int → Prop) : ∀ (l : List α) (s : List Sh × Int), (∀ x ∈ l, ∀ s, Found (A x) s (F s x)) → Found (fun P E => ∃ x ∈ l, A x P E) s (l.foldl F s)
  | [], s, _ => ⟨Int.le_refl _, fun P E h => (by obtain ⟨x, hx, _⟩ := h; cases hx), .inl rfl⟩
  | x :: l, s, h => by
    obtain ⟨h1, h2, h3⟩ := h x (by simp) s
    obtain ⟨k1, k2, k3⟩ := found_fold F A l (F s x) fun y hy => h y (by simp [hy])
    rw [List.foldl_cons]
    refine ⟨by omega, fun P E ⟨y, hy, hA⟩ => ?_, ?_⟩
    · rcases List.mem_cons.1 hy with rfl | hy
      · have := h2 P E hA
        omega
      · exact k2 P E ⟨y, hy, hA⟩
    · rcases k3 with k3 | ⟨⟨y, hy, hA⟩, k4⟩
      · rw [k3]
        rcases h3 with h3 | ⟨hA, h4⟩
        · exact .inl h3
        · exact .inr ⟨⟨x, by simp, hA⟩, h4⟩
      · exact .inr ⟨⟨y, by simp [hy], hA⟩, by omega⟩
theorem place_found (p : Prob) : ∀ (left : Nat) (plan : List Sh) (fr en : Int) (s : List Sh × Int), Found (Ext p left plan fr en) s (placeF p left plan fr en s)
  | 0, plan, fr, en, s => by
    unfold placeF
    by_cases h : s.2 ≤ en
    · rw [if_pos h]
      exact Found.refl fun P E hE => Int.le_trans h hE.ge
    · rw [if_neg h]
      refine ⟨by simp only; omega, fun P E hE => ?_, .inr ⟨Ext.done _ _ _, by simp only; omega⟩⟩
      cases hE
      exact Int.le_refl _
  | left + 1, plan, fr, en, s => by
    unfold placeF
    by_cases h : s.2 ≤ en
    · rw [if_pos h]
      exact Found.refl fun P E hE => Int.le_trans h hE.ge
    · rw [if_neg h]
      have key := found_fold (fun s i => if (plan.getD i sh0).g ≠ 0 then s else
        (List.range p.w).foldl (fun s k => if p.cap i k = false ∨ earl p plan i ((k : Int) + 1) < fr then s else
          placeF p left (putSh p plan i k) (earl p plan i ((k : Int) + 1)) (max en (earl p plan i ((k : Int) + 1) + p.dur i)) s) s)
        (fun i P E => (plan.getD i sh0).g = 0 ∧ ∃ k ∈ List.range p.w, (p.cap i k = true ∧ fr ≤ earl p plan i ((k : Int) + 1)) ∧ Ext p left (putSh p plan i k) (earl p plan i ((k : Int) + 1)) (max en (earl p plan i ((k : Int) + 1) + p.dur i)) P E)
        (List.range p.n) s ?_
      · obtain ⟨h1, h2, h3⟩ := key
        refine ⟨h1, fun P E hE => ?_, ?_⟩
        · cases hE with
          | step _ _ _ _ _ _ i k hi hg hk hc hf hx => exact h2 P E ⟨i, List.mem_range.2 hi, hg, k, List.mem_range.2 hk, ⟨hc, hf⟩, hx⟩
        · rcases h3 with h3 | ⟨⟨i, hi, hg, k, hk, ⟨hc, hf⟩, hx⟩, h4⟩
          · exact .inl h3
          · exact .inr ⟨Ext.step _ _ _ _ _ _ i k (List.mem_range.1 hi) hg (List.mem_range.1 hk) hc hf hx, h4⟩
      · intro i hi s
        by_cases hg : (plan.getD i sh0).g = 0
        · have k1 := found_fold (fun s k => if p.cap i k = false ∨ earl p plan i ((k : Int) + 1) < fr then s else
            placeF p left (putSh p plan i k) (earl p plan i ((k : Int) + 1)) (max en (earl p plan i ((k : Int) + 1) + p.dur i)) s)
            (fun k P E => (p.cap i k = true ∧ fr ≤ earl p plan i ((k : Int) + 1)) ∧ Ext p left (putSh p plan i k) (earl p plan i ((k : Int) + 1)) (max en (earl p plan i ((k : Int) + 1) + p.dur i)) P E)
            (List.range p.w) s ?_
          · rw [if_neg (by simpa using hg)]
            obtain ⟨h1, h2, h3⟩ := k1
            refine ⟨h1, fun P E hE => h2 P E hE.2, ?_⟩
            rcases h3 with h3 | ⟨hA, h4⟩
            · exact .inl h3
            · exact .inr ⟨⟨hg, hA⟩, h4⟩
          · intro k hk s
            by_cases hb : p.cap i k = false ∨ earl p plan i ((k : Int) + 1) < fr
            · rw [if_pos hb]
              refine ⟨Int.le_refl _, fun P E hE => ?_, .inl rfl⟩
              rcases hb with hb | hb
              · rw [hE.1.1] at hb; cases hb
              · have := hE.1.2; omega
            · rw [if_neg hb]
              obtain ⟨h1, h2, h3⟩ := place_found p left (putSh p plan i k) (earl p plan i ((k : Int) + 1)) (max en (earl p plan i ((k : Int) + 1) + p.dur i)) s
              have hcf : p.cap i k = true ∧ fr ≤ earl p plan i ((k : Int) + 1) := by
                refine ⟨?_, by omega⟩
                cases hx : p.cap i k with
                | true => rfl
                | false => exact absurd (.inl hx) hb
              refine ⟨h1, fun P E hE => h2 P E hE.2, ?_⟩
              rcases h3 with h3 | ⟨hA, h4⟩
              · exact .inl h3
              · exact .inr ⟨⟨hcf, hA⟩, h4⟩
        · rw [if_pos (by simpa using hg)]
          exact ⟨Int.le_refl _, fun P E hE => absurd hE.1 hg, .inl rfl⟩

/-! ### what the earliest start is -/
theorem earlN_ge (p : Prob) (plan : List Sh) (i : Nat) (g : Int) : ∀ (m : Nat), 0 ≤ earlN p plan i g m ∧ ∀ j, j < m → (plan.getD j sh0).g ≠ 0 → ((plan.getD j sh0).g = g ∨ p.cl i j = true) → (plan.getD j sh0).tt ≤ earlN p plan i g m
  | 0 => ⟨Int.le_refl _, fun j hj => by omega⟩
  | m + 1 => by
    obtain ⟨h1, h2⟩ := earlN_ge p plan i g m
    rw [earlN]
    by_cases hc : (plan.getD m sh0).g ≠ 0 ∧ ((plan.getD m sh0).g = g ∨ p.cl i m = true)
    · rw [if_pos hc]
      refine ⟨by omega, fun j hj h3 h4 => ?_⟩
      rcases Nat.lt_or_ge j m with h5 | h5
      · have := h2 j h5 h3 h4; omega
      · obtain rfl : j = m := by omega
        omega
    · rw [if_neg hc]
      refine ⟨h1, fun j hj h3 h4 => ?_⟩
      rcases Nat.lt_or_ge j m with h5 | h5
      · exact h2 j h5 h3 h4
      · obtain rfl : j = m := by omega
        exact absurd ⟨h3, h4⟩ hc
theorem earlN_le (p : Prob) (plan : List Sh) (i : Nat) (g : Int) (x : Int) (h0 : 0 ≤ x) : ∀ (m : Nat), (∀ j, j < m → (plan.getD j sh0).g ≠ 0 → ((plan.getD j sh0).g = g ∨ p.cl i j = true) → (plan.getD j sh0).tt ≤ x) → earlN p plan i g m ≤ x
  | 0, _ => h0
  | m + 1, h => by
    have ih := earlN_le p plan i g x h0 m fun j hj => h j (by omega)
    rw [earlN]
    by_cases hc : (plan.getD m sh0).g ≠ 0 ∧ ((plan.getD m sh0).g = g ∨ p.cl i m = true)
    · rw [if_pos hc]
      have := h m (by omega) hc.1 hc.2
      omega
    · rw [if_neg hc]; exact ih
theorem earl_ge (p : Prob) (plan : List Sh) (i : Nat) (g : Int) : 0 ≤ earl p plan i g ∧ ∀ j, j < plan.length → (plan.getD j sh0).g ≠ 0 → ((plan.getD j sh0).g = g ∨ p.cl i j = true) → (plan.getD j sh0).tt ≤ earl p plan i g := earlN_ge p plan i g _
theorem getD_setS {l : List Sh} {x : Sh} {a b : Nat} (hb : b < l.length) : (l.set a x).getD b sh0 = if a = b then x else l.getD b sh0 := by
  simp only [List.getD_eq_getElem?_getD, List.getElem?_set]
  by_cases h : a = b
  · subst h; simp [hb]
  · simp [h]

/-! ### plans that the search comes to are plans -/
def unplaced (p : Prob) (plan : List Sh) : Nat := (List.range p.n).countP fun i => decide ((plan.getD i sh0).g = 0)
/-- a part of a plan -/
structure Part (p : Prob) (plan : List Sh) (en : Int) : Prop where
  len : plan.length = p.n
  shape : ∀ i, i < p.n → (plan.getD i sh0).g ≠ 0 → ∃ k, k < p.w ∧ (plan.getD i sh0).g = (k : Int) + 1 ∧ p.cap i k = true ∧ (plan.getD i sh0).run = p.run i ∧ 0 ≤ (plan.getD i sh0).fr ∧ (plan.getD i sh0).tt = (plan.getD i sh0).fr + p.dur i
  apart : ∀ i j, i < p.n → j < p.n → i ≠ j → (plan.getD i sh0).g ≠ 0 → (plan.getD j sh0).g ≠ 0 → ((plan.getD i sh0).g = (plan.getD j sh0).g ∨ p.cl i j = true ∨ p.cl j i = true) → (plan.getD i sh0).tt ≤ (plan.getD j sh0).fr ∨ (plan.getD j sh0).tt ≤ (plan.getD i sh0).fr
  top : ∀ i, i < p.n → (plan.getD i sh0).g ≠ 0 → (plan.getD i sh0).tt ≤ en
  tight : en = 0 ∨ ∃ i, i < p.n ∧ (plan.getD i sh0).g ≠ 0 ∧ (plan.getD i sh0).tt = en
  load : ∀ k, k < p.w → ∃ B, ((List.range p.n).map fun i => if (plan.getD i sh0).g = (k : Int) + 1 then p.dur i else 0).sum ≤ B ∧ B ≤ en ∧ (B = 0 ∨ ∃ i, i < p.n ∧ (plan.getD i sh0).g = (k : Int) + 1 ∧ (plan.getD i sh0).tt = B)
theorem sum_change (n i : Nat) (hi : i < n) (f g : Nat → Int) (h : ∀ j, j ≠ i → f j = g j) : ((List.range n).map f).sum = ((List.range n).map g).sum + f i - g i := by
  induction n with
  | zero => omega
  | succ n ih =>
    rw [List.range_succ, List.map_append, List.map_append, List.sum_append, List.sum_append]
    simp only [List.map_cons, List.map_nil, List.sum_cons, List.sum_nil]
    rcases Nat.lt_or_ge i n with h1 | h1
    · rw [ih h1, h n (by omega)]; omega
    · obtain rfl : i = n := by omega
      have : (List.range i).map f = (List.range i).map g := List.map_congr_left fun j hj => h j (by have := List.mem_range.1 hj; omega)
      rw [this]; omega
theorem Part.put {p : Prob} (hd : ∀ i, i < p.n → 1 ≤ p.dur i) (hsym : ∀ i j, p.cl i j = true → p.cl j i = true) {plan : List Sh} {en : Int} (h : Part p plan en) {i k : Nat} (hi : i < p.n) (hg : (plan.getD i sh0).g = 0) (hk : k < p.w) (hc : p.cap i k = true) (he : 0 ≤ en) :
    Part p (putSh p plan i k) (max en (earl p plan i ((k : Int) + 1) + p.dur i)) := by
  obtain ⟨e0, e1⟩ := earl_ge p plan i ((k : Int) + 1)
  have hdi := hd i hi
  generalize ht : earl p plan i ((k : Int) + 1) = t at *
  have hget : ∀ j, j < p.n → (putSh p plan i k).getD j sh0 = if i = j then ⟨(k : Int) + 1, p.run i, t, t + p.dur i⟩ else plan.getD j sh0 := fun j hj => by
    unfold putSh
    rw [ht]
    exact getD_setS (by rw [h.len]; exact hj)
  refine ⟨by unfold putSh; rw [List.length_set, h.len], fun j hj h1 => ?_, fun a b ha hb hab h1 h2 h3 => ?_, fun j hj h1 => ?_, ?_, fun q hq => ?_⟩
  · rw [hget j hj] at h1 ⊢
    by_cases e : i = j
    · subst e
      rw [if_pos rfl]
      exact ⟨k, hk, rfl, hc, rfl, e0, rfl⟩
    · rw [if_neg e] at h1 ⊢
      exact h.shape j hj h1
  · rw [hget a ha] at h1 h3 ⊢
    rw [hget b hb] at h2 h3 ⊢
    by_cases ea : i = a
    · subst ea
      rw [if_pos rfl] at h3 ⊢
      rw [if_neg hab] at h2 h3 ⊢
      refine .inr (e1 b (by rw [h.len]; exact hb) h2 ?_)
      rcases h3 with h3 | h3 | h3
      · exact .inl h3.symm
      · exact .inr h3
      · exact .inr (hsym _ _ h3)
    · rw [if_neg ea] at h1 h3 ⊢
      by_cases eb : i = b
      · subst eb
        rw [if_pos rfl] at h3 ⊢
        refine .inl (e1 a (by rw [h.len]; exact ha) h1 ?_)
        rcases h3 with h3 | h3 | h3
        · exact .inl h3
        · exact .inr (hsym _ _ h3)
        · exact .inr h3
      · rw [if_neg eb] at h2 h3 ⊢
        exact h.apart a b ha hb hab h1 h2 h3
  · rw [hget j hj] at h1 ⊢
    by_cases e : i = j
    · rw [if_pos e]; simp only; omega
    · rw [if_neg e] at h1 ⊢
      have := h.top j hj h1
      omega
  · by_cases hm : en ≤ t + p.dur i
    · exact .inr ⟨i, hi, by rw [hget i hi, if_pos rfl]; simp only; omega, by rw [hget i hi, if_pos rfl]; simp only; omega⟩
    · rcases h.tight with h0 | ⟨j, hj, h1, h2⟩
      · omega
      · have hne : i ≠ j := fun e => by subst e; exact h1 hg
        exact .inr ⟨j, hj, by rw [hget j hj, if_neg hne]; exact h1, by rw [hget j hj, if_neg hne, h2]; omega⟩
  · obtain ⟨B, b1, b2, b3⟩ := h.load q hq
    have hcongr : ((List.range p.n).map fun j => if ((putSh p plan i k).getD j sh0).g = (q : Int) + 1 then p.dur j else 0) = (List.range p.n).map fun j => if ((if i = j then (⟨(k : Int) + 1, p.run i, t, t + p.dur i⟩ : Sh) else plan.getD j sh0)).g = (q : Int) + 1 then p.dur j else 0 :=
      List.map_congr_left fun j hj => by rw [hget j (List.mem_range.1 hj)]
    have hs2 := sum_change p.n i hi (fun j => if ((if i = j then (⟨(k : Int) + 1, p.run i, t, t + p.dur i⟩ : Sh) else plan.getD j sh0)).g = (q : Int) + 1 then p.dur j else 0) (fun j => if (plan.getD j sh0).g = (q : Int) + 1 then p.dur j else 0) fun j hj => by
      rw [if_neg (show ¬ i = j from fun e => hj e.symm)]
    rw [hcongr, hs2, if_pos (rfl : i = i)]
    dsimp only
    have hz : ¬ ((plan.getD i sh0).g = (q : Int) + 1) := by rw [hg]; omega
    rw [if_neg hz]
    by_cases hq2 : (k : Int) + 1 = (q : Int) + 1
    · rw [if_pos hq2]
      have hBt : B ≤ t := by
        rcases b3 with b3 | ⟨j, hj, j1, j2⟩
        · omega
        · rw [← j2]
          exact e1 j (by rw [h.len]; exact hj) (by omega) (.inl (by omega))
      exact ⟨t + p.dur i, by omega, by omega, .inr ⟨i, hi, by rw [hget i hi, if_pos rfl]; exact hq2, by rw [hget i hi, if_pos rfl]⟩⟩
    · rw [if_neg hq2]
      refine ⟨B, by omega, by omega, ?_⟩
      rcases b3 with b3 | ⟨j, hj, j1, j2⟩
      · exact .inl b3
      · have hne : i ≠ j := fun e => by subst e; omega
        exact .inr ⟨j, hj, by rw [hget j hj, if_neg hne]; exact j1, by rw [hget j hj, if_neg hne]; exact j2⟩
theorem count_set {p : Prob} {plan : List Sh} (hl : plan.length = p.n) {i : Nat} (hi : i < p.n) (hg : (plan.getD i sh0).g = 0) (x : Sh) (hx : x.g ≠ 0) : unplaced p (plan.set i x) + 1 = unplaced p plan := by
  have key : ∀ n, n ≤ p.n → (List.range n).countP (fun j => decide (((plan.set i x).getD j sh0).g = 0)) + (if i < n then 1 else 0) = (List.range n).countP fun j => decide ((plan.getD j sh0).g = 0) := by
    intro n
    induction n with
    | zero => intro _; simp
    | succ n ih =>
      intro hn
      have h := ih (by omega)
      rw [List.range_succ, List.countP_append, List.countP_append, List.countP_singleton, List.countP_singleton, getD_setS (by omega)]
      by_cases e : i = n
      · subst e
        rw [if_neg (Nat.lt_irrefl i)] at h
        rw [if_pos (rfl : i = i), if_pos (Nat.lt_succ_self i), decide_eq_true hg, decide_eq_false hx, if_pos rfl, if_neg Bool.false_ne_true]
        omega
      · rw [if_neg e]
        by_cases h2 : i < n
        · rw [if_pos h2] at h; rw [if_pos (show i < n + 1 by omega)]; omega
        · rw [if_neg h2] at h; rw [if_neg (show ¬ i < n + 1 by omega)]; omega
  have := key p.n (Nat.le_refl _)
  rw [if_pos hi] at this
  exact this
theorem unplaced_zero {p : Prob} {plan : List Sh} (h : unplaced p plan = 0) : ∀ i, i < p.n → (plan.getD i sh0).g ≠ 0 := fun i hi => by
  have := List.countP_eq_zero.1 h i (List.mem_range.2 hi)
  simpa using this
theorem Ext.part {p : Prob} (hd : ∀ i, i < p.n → 1 ≤ p.dur i) (hsym : ∀ i j, p.cl i j = true → p.cl j i = true) {left : Nat} {plan P : List Sh} {fr en E : Int} (h : Ext p left plan fr en P E) :
    Part p plan en → 0 ≤ en → unplaced p plan = left → Part p P E ∧ ∀ i, i < p.n → (P.getD i sh0).g ≠ 0 := by
  induction h with
  | done plan fr en => exact fun h _ hu => ⟨h, unplaced_zero hu⟩
  | step left plan fr en P E i k hi hg hk hc hf _ ih =>
    intro hp he hu
    have h1 := hp.put hd hsym hi hg hk hc he
    refine ih h1 (by omega) ?_
    have := count_set hp.len hi hg ⟨(k : Int) + 1, p.run i, earl p plan i ((k : Int) + 1), earl p plan i ((k : Int) + 1) + p.dur i⟩ (by simp only; omega)
    unfold putSh
    omega
def plan0 (p : Prob) : List Sh := List.replicate p.n sh0
theorem plan0_get (p : Prob) (i : Nat) : (plan0 p).getD i sh0 = sh0 := by
  unfold plan0
  rw [List.getD_eq_getElem?_getD, List.getElem?_replicate]
  split <;> rfl
theorem plan0_part (p : Prob) : Part p (plan0 p) 0 := by
  refine ⟨by simp [plan0], fun i _ h => ?_, fun i j _ _ _ h => ?_, fun i _ h => ?_, .inl rfl, fun k _ => ⟨0, ?_, Int.le_refl _, .inl rfl⟩⟩
  · rw [plan0_get] at h; exact absurd rfl h
  · rw [plan0_get] at h; exact absurd rfl h
  · rw [plan0_get] at h; exact absurd rfl h
  · have : ((List.range p.n).map fun i => if ((plan0 p).getD i sh0).g = (k : Int) + 1 then p.dur i else 0) = (List.range p.n).map fun _ => (0 : Int) :=
      List.map_congr_left fun i _ => by rw [plan0_get, if_neg (by show ¬ (0 : Int) = _; omega)]
    rw [this]
    have hz : ∀ l : List Nat, (l.map fun _ => (0 : Int)).sum = 0 := fun l => by induction l with | nil => rfl | cons a l ih => simpa using ih
    rw [hz]
    exact Int.le_refl _
theorem plan0_unplaced (p : Prob) : unplaced p (plan0 p) = p.n := by
  unfold unplaced
  rw [List.countP_eq_length.2 fun i _ => by rw [plan0_get]; rfl]
  simp

/-! ### no plan ends earlier than the search's -/
structure Feas (p : Prob) (st : Nat → Int) (gr : Nat → Nat) (T : Int) : Prop where
  nn : ∀ i, i < p.n → 0 ≤ st i
  who : ∀ i, i < p.n → gr i < p.w ∧ p.cap i (gr i) = true
  apart : ∀ i j, i < p.n → j < p.n → i ≠ j → (gr i = gr j ∨ p.cl i j = true) → st i + p.dur i ≤ st j ∨ st j + p.dur j ≤ st i
  top : ∀ i, i < p.n → st i + p.dur i ≤ T
def total (p : Prob) (st : Nat → Int) : Int := ((List.range p.n).map st).sum
/-- the plan is a part of the one that is told by starts and groomers -/
structure Agree (p : Prob) (st : Nat → Int) (gr : Nat → Nat) (plan : List Sh) (fr : Int) : Prop where
  len : plan.length = p.n
  at_ : ∀ i, i < p.n → (plan.getD i sh0).g = 0 ∨ ((plan.getD i sh0).g = (gr i : Int) + 1 ∧ (plan.getD i sh0).fr = st i ∧ (plan.getD i sh0).tt = st i + p.dur i ∧ st i ≤ fr)
  rest : ∀ i, i < p.n → (plan.getD i sh0).g = 0 → fr ≤ st i
theorem least_of (n : Nat) (q : Nat → Bool) (f : Nat → Int) : (∃ i, i < n ∧ q i = true) → ∃ i, i < n ∧ q i = true ∧ ∀ j, j < n → q j = true → f i ≤ f j := by
  induction n with
  | zero => rintro ⟨i, hi, _⟩; omega
  | succ n ih =>
    rintro ⟨i, hi, hq⟩
    by_cases h : ∃ i, i < n ∧ q i = true
    · obtain ⟨m, h1, h2, h3⟩ := ih h
      by_cases hn : q n = true ∧ f n < f m
      · refine ⟨n, by omega, hn.1, fun j hj hqj => ?_⟩
        rcases Nat.lt_or_ge j n with h4 | h4
        · have := h3 j h4 hqj; omega
        · obtain rfl : j = n := by omega
          exact Int.le_refl _
      · refine ⟨m, by omega, h2, fun j hj hqj => ?_⟩
        rcases Nat.lt_or_ge j n with h4 | h4
        · exact h3 j h4 hqj
        · obtain rfl : j = n := by omega
          have : ¬ f j < f m := fun h5 => hn ⟨hqj, h5⟩
          omega
    · have e : i = n := by
        rcases Nat.lt_or_ge i n with h4 | h4
        · exact absurd ⟨i, h4, hq⟩ h
        · omega
      subst e
      refine ⟨i, hi, hq, fun j hj hqj => ?_⟩
      rcases Nat.lt_or_ge j i with h4 | h4
      · exact absurd ⟨j, h4, hqj⟩ h
      · obtain rfl : j = i := by omega
        exact Int.le_refl _
theorem follow {p : Prob} (hd : ∀ i, i < p.n → 1 ≤ p.dur i) (hsym : ∀ i j, p.cl i j = true → p.cl j i = true) {st : Nat → Int} {gr : Nat → Nat} {T : Int} (hF : Feas p st gr T) : ∀ (left : Nat) (plan : List Sh) (fr en : Int), Agree p st gr plan fr → unplaced p plan = left → en ≤ T →
    (∃ P E, Ext p left plan fr en P E ∧ E ≤ T) ∨ ∃ st', Feas p st' gr T ∧ total p st' < total p st
  | 0, plan, fr, en, _, _, he => .inl ⟨plan, en, Ext.done _ _ _, he⟩
  | left + 1, plan, fr, en, hA, hu, he => by
    have hex : ∃ i, i < p.n ∧ decide ((plan.getD i sh0).g = 0) = true := by
      have hpos : 0 < unplaced p plan := by omega
      obtain ⟨i, hi, h1⟩ := List.countP_pos_iff.1 hpos
      exact ⟨i, List.mem_range.1 hi, h1⟩
    obtain ⟨i, hi, hq, hmin⟩ := least_of p.n (fun i => decide ((plan.getD i sh0).g = 0)) st hex
    have hg : (plan.getD i sh0).g = 0 := by simpa using hq
    have hfr := hA.rest i hi hg
    obtain ⟨hk, hc⟩ := hF.who i hi
    obtain ⟨e0, e1⟩ := earl_ge p plan i ((gr i : Int) + 1)
    have hle : earl p plan i ((gr i : Int) + 1) ≤ st i := by
      refine earlN_le p plan i _ (st i) (hF.nn i hi) _ fun j hj h1 h2 => ?_
      rw [hA.len] at hj
      rcases hA.at_ j hj with h3 | ⟨h3, h4, h5, h6⟩
      · exact absurd h3 h1
      · have hij : i ≠ j := fun e => by subst e; exact h1 hg
        have hcf : gr i = gr j ∨ p.cl i j = true := by
          rcases h2 with h2 | h2
          · exact .inl (by omega)
          · exact .inr h2
        have h7 := hd i hi
        rcases hF.apart i j hi hj hij hcf with h8 | h8
        · omega
        · rw [h5]; exact h8
    by_cases heq : earl p plan i ((gr i : Int) + 1) = st i
    · have hget : ∀ j, j < p.n → (putSh p plan i (gr i)).getD j sh0 = if i = j then ⟨(gr i : Int) + 1, p.run i, st i, st i + p.dur i⟩ else plan.getD j sh0 := fun j hj => by
        unfold putSh
        rw [heq]
        exact getD_setS (by rw [hA.len]; exact hj)
      have hA2 : Agree p st gr (putSh p plan i (gr i)) (st i) := by
        refine ⟨by unfold putSh; rw [List.length_set, hA.len], fun j hj => ?_, fun j hj h1 => ?_⟩
        · rw [hget j hj]
          by_cases e : i = j
          · subst e
            rw [if_pos rfl]
            exact .inr ⟨rfl, rfl, rfl, Int.le_refl _⟩
          · rw [if_neg e]
            rcases hA.at_ j hj with h3 | ⟨h3, h4, h5, h6⟩
            · exact .inl h3
            · exact .inr ⟨h3, h4, h5, by omega⟩
        · rw [hget j hj] at h1
          by_cases e : i = j
          · subst e; exact Int.le_refl _
          · rw [if_neg e] at h1
            exact hmin j hj (by simpa using h1)
      have hu2 : unplaced p (putSh p plan i (gr i)) = left := by
        have := count_set hA.len hi hg ⟨(gr i : Int) + 1, p.run i, earl p plan i ((gr i : Int) + 1), earl p plan i ((gr i : Int) + 1) + p.dur i⟩ (by simp only; omega)
        unfold putSh
        omega
      have htop := hF.top i hi
      rcases follow hd hsym hF left (putSh p plan i (gr i)) (st i) (max en (st i + p.dur i)) hA2 hu2 (by omega) with ⟨P, E, hE, hT⟩ | h
      · refine .inl ⟨P, E, Ext.step left plan fr en P E i (gr i) hi hg hk hc (by omega) ?_, hT⟩
        rw [heq]
        exact hE
      · exact .inr h
    · refine .inr ⟨fun j => if j = i then earl p plan i ((gr i : Int) + 1) else st j, ?_, ?_⟩
      · have hdi := hd i hi
        have hside : ∀ j, j < p.n → j ≠ i → (gr i = gr j ∨ p.cl i j = true) → earl p plan i ((gr i : Int) + 1) + p.dur i ≤ st j ∨ st j + p.dur j ≤ earl p plan i ((gr i : Int) + 1) := fun j hj hne hcf => by
          rcases hA.at_ j hj with h3 | ⟨h3, h4, h5, h6⟩
          · have h7 := hmin j hj (by simpa using h3)
            have h8 := hd j hj
            rcases hF.apart i j hi hj (fun e => hne e.symm) hcf with h9 | h9
            · exact .inl (by omega)
            · omega
          · refine .inr ?_
            rw [← h5]
            refine e1 j (by rw [hA.len]; exact hj) (by omega) ?_
            rcases hcf with h | h
            · exact .inl (by omega)
            · exact .inr h
        refine ⟨fun j hj => ?_, hF.who, fun a b ha hb hab hcf => ?_, fun j hj => ?_⟩
        · show 0 ≤ if j = i then _ else _
          split
          · exact e0
          · exact hF.nn j hj
        · show (if a = i then _ else _) + _ ≤ (if b = i then _ else _) ∨ (if b = i then _ else _) + _ ≤ (if a = i then _ else _)
          by_cases ea : a = i
          · subst ea
            rw [if_pos rfl, if_neg (fun e => hab e.symm)]
            exact hside b hb (fun e => hab e.symm) hcf
          · rw [if_neg ea]
            by_cases eb : b = i
            · subst eb
              rw [if_pos rfl]
              have hcf2 : gr b = gr a ∨ p.cl b a = true := by
                rcases hcf with h | h
                · exact .inl h.symm
                · exact .inr (hsym _ _ h)
              rcases hside a ha ea hcf2 with h | h
              · exact .inr h
              · exact .inl h
            · rw [if_neg eb]
              exact hF.apart a b ha hb hab hcf
        · show (if j = i then _ else _) + _ ≤ T
          have := hF.top j hj
          split
          · rename_i e; subst e; omega
          · exact this
      · unfold total
        rw [sum_change p.n i hi (fun j => if j = i then earl p plan i ((gr i : Int) + 1) else st j) st fun j hj => by rw [if_neg hj], if_pos (rfl : i = i)]
        omega
theorem total_nonneg {p : Prob} {st : Nat → Int} (h : ∀ i, i < p.n → 0 ≤ st i) : 0 ≤ total p st := by
  unfold total
  have key : ∀ n, n ≤ p.n → 0 ≤ ((List.range n).map st).sum := by
    intro n
    induction n with
    | zero => intro _; simp
    | succ n ih =>
      intro hn
      have := ih (by omega)
      have := h n (by omega)
      rw [List.range_succ, List.map_append, List.sum_append]
      simp only [List.map_cons, List.map_nil, List.sum_cons, List.sum_nil]
      omega
  exact key p.n (Nat.le_refl _)
/-- whatever plan there is, the search comes to one that ends no later -/
theorem search_best {p : Prob} (hd : ∀ i, i < p.n → 1 ≤ p.dur i) (hsym : ∀ i j, p.cl i j = true → p.cl j i = true) {gr : Nat → Nat} {T : Int} (hT : 0 ≤ T) (m : Nat) : ∀ (st : Nat → Int), Feas p st gr T → (total p st).toNat ≤ m → ∃ P E, Ext p p.n (plan0 p) 0 0 P E ∧ E ≤ T := by
  induction m with
  | zero =>
    intro st hF hm
    have hA : Agree p st gr (plan0 p) 0 := ⟨by simp [plan0], fun i _ => .inl (by rw [plan0_get]; rfl), fun i hi _ => hF.nn i hi⟩
    rcases follow hd hsym hF p.n (plan0 p) 0 0 hA (plan0_unplaced p) hT with h | ⟨st', hF', hlt⟩
    · exact h
    · have := total_nonneg hF'.nn
      omega
  | succ m ih =>
    intro st hF hm
    have hA : Agree p st gr (plan0 p) 0 := ⟨by simp [plan0], fun i _ => .inl (by rw [plan0_get]; rfl), fun i hi _ => hF.nn i hi⟩
    rcases follow hd hsym hF p.n (plan0 p) 0 0 hA (plan0_unplaced p) hT with h | ⟨st', hF', hlt⟩
    · exact h
    · have := total_nonneg hF'.nn
      exact ih st' hF' (by omega)
/-- all tasks one after the other -/
def seqSt (p : Prob) : Nat → Int
  | 0 => 0
  | i + 1 => seqSt p i + p.dur i
theorem seq_total (p : Prob) : ∀ n, seqSt p n = ((List.range n).map p.dur).sum
  | 0 => rfl
  | n + 1 => by rw [seqSt, seq_total p n, List.range_succ, List.map_append, List.sum_append]; simp
theorem seq_mono {p : Prob} (hd : ∀ i, i < p.n → 1 ≤ p.dur i) {i j : Nat} (hij : i ≤ j) (hj : j ≤ p.n) : seqSt p i ≤ seqSt p j := by
  induction j with
  | zero => rw [show i = 0 by omega]; exact Int.le_refl _
  | succ j ih =>
    rcases Nat.lt_or_ge i (j + 1) with h | h
    · have h1 := ih (by omega) (by omega)
      have h2 := hd j (by omega)
      rw [seqSt]; omega
    · obtain rfl : i = j + 1 := by omega
      exact Int.le_refl _
theorem seq_feas {p : Prob} (hd : ∀ i, i < p.n → 1 ≤ p.dur i) (hw : ∀ i, i < p.n → ∃ k, k < p.w ∧ p.cap i k = true) : ∃ gr, Feas p (seqSt p) gr (seqSt p p.n) := by
  have hch : ∃ gr : Nat → Nat, ∀ i, i < p.n → gr i < p.w ∧ p.cap i (gr i) = true := by
    refine ⟨fun i => if h : i < p.n then Classical.choose (hw i h) else 0, fun i hi => ?_⟩
    simp only [dif_pos hi]
    exact Classical.choose_spec (hw i hi)
  obtain ⟨gr, hgr⟩ := hch
  refine ⟨gr, fun i hi => ?_, hgr, fun i j hi hj hij _ => ?_, fun i hi => ?_⟩
  · exact seq_mono hd (Nat.zero_le i) (by omega)
  · rcases Nat.lt_or_ge i j with h | h
    · exact .inl (seq_mono hd (i := i + 1) (by omega) (by omega))
    · exact .inr (seq_mono hd (i := j + 1) (by omega) (by omega))
  · exact seq_mono hd (i := i + 1) (by omega) (Nat.le_refl _)
/-- what the whole search leaves -/
theorem search_is {p : Prob} (hd : ∀ i, i < p.n → 1 ≤ p.dur i) (hsym : ∀ i j, p.cl i j = true → p.cl j i = true) (hw : ∀ i, i < p.n → ∃ k, k < p.w ∧ p.cap i k = true) (b : List Sh) :
    ∃ P E, placeF p p.n (plan0 p) 0 0 (b, 1 + seqSt p p.n) = (P, E) ∧ Part p P E ∧ (∀ i, i < p.n → (P.getD i sh0).g ≠ 0) ∧ 0 ≤ E ∧ E ≤ seqSt p p.n ∧ ∀ (gr : Nat → Nat) (st : Nat → Int) (T : Int), 0 ≤ T → Feas p st gr T → E ≤ T := by
  obtain ⟨h1, h2, h3⟩ := place_found p p.n (plan0 p) 0 0 (b, 1 + seqSt p p.n)
  generalize hr : placeF p p.n (plan0 p) 0 0 (b, 1 + seqSt p p.n) = r at *
  obtain ⟨P, E⟩ := r
  obtain ⟨gr, hF⟩ := seq_feas hd hw
  have h0 : 0 ≤ seqSt p p.n := seq_mono hd (Nat.zero_le _) (Nat.le_refl _)
  obtain ⟨Q, F, hQ, hFT⟩ := search_best hd hsym h0 (total p (seqSt p)).toNat (seqSt p) hF (Nat.le_refl _)
  have h4 := h2 Q F hQ
  dsimp only at h1 h2 h3 h4
  rcases h3 with h3 | ⟨hE, h5⟩
  · have : E = 1 + seqSt p p.n := congrArg Prod.snd h3
    omega
  · obtain ⟨g1, g2⟩ := hE.part hd hsym (plan0_part p) (Int.le_refl _) (plan0_unplaced p)
    refine ⟨P, E, rfl, g1, g2, hE.ge, by omega, fun gr st T hT hF => ?_⟩
    obtain ⟨Q', F', hQ', hFT'⟩ := search_best hd hsym hT (total p st).toNat st hF (Nat.le_refl _)
    have := h2 Q' F' hQ'
    omega
end Go.Proofs.Ytbegehooefhiiaa
