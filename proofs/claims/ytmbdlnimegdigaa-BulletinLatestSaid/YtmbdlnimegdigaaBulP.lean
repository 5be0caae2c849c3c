/-
  The plain laws of chapter 49. No program is in sight.
-/
import Derived.Test.YtmbdlnimegdigaaBulN
namespace Go.Proofs.Ytmbdlnimegdigaa

theorem rightF_spec : ∀ {l : List Bu} {p : Int}, rightF p l = 0 → ∀ b ∈ l, InR b ∧ zonesB b.zs = true ∧ p ≤ b.ver
  | [], _, _, b, hb => by cases hb
  | c :: l, p, h, b, hb => by
    unfold rightF at h
    by_cases h1 : InR c
    · rw [if_neg (fun h => h h1)] at h
      by_cases h2 : zonesB c.zs = false
      · rw [if_pos h2] at h; cases h
      · rw [if_neg h2] at h
        by_cases h3 : c.ver < p
        · rw [if_pos h3] at h; cases h
        · rw [if_neg h3] at h
          rcases List.mem_cons.1 hb with rfl | hb
          · exact ⟨h1, by simpa using h2, by omega⟩
          · obtain ⟨g1, g2, g3⟩ := rightF_spec h b hb
            exact ⟨g1, g2, by omega⟩
    · rw [if_pos h1] at h; cases h
theorem rightN_spec {l : List Bu} (h : rightN l = 0) : ∀ b ∈ l, InR b ∧ zonesB b.zs = true := by
  unfold rightN at h
  split at h
  · cases h
  · exact fun b hb => ⟨(rightF_spec h b hb).1, (rightF_spec h b hb).2.1⟩
theorem zonesF_spec : ∀ {l : List Int} {p : Int}, zonesF p l = true → ∀ z ∈ l, p < z ∧ z ≤ 32
  | [], _, _, z, hz => by cases hz
  | c :: l, p, h, z, hz => by
    unfold zonesF at h
    simp only [Bool.and_eq_true, decide_eq_true_eq] at h
    rcases List.mem_cons.1 hz with rfl | hz
    · exact ⟨h.1.1, h.1.2⟩
    · have := zonesF_spec h.2 z hz
      exact ⟨by omega, this.2⟩
theorem zonesB_spec {l : List Int} (h : zonesB l = true) : (∀ z ∈ l, 1 ≤ z ∧ z ≤ 32) ∧ ∃ z, z ∈ l := by
  unfold zonesB at h
  simp only [Bool.and_eq_true, decide_eq_true_eq] at h
  refine ⟨fun z hz => ?_, ?_⟩
  · have := zonesF_spec h.1 z hz
    omega
  · match l, h.2 with
    | z :: l, _ => exact ⟨z, by simp⟩

/- the greatest one of some -/
theorem levF_ge (c : Bu → Bool) : ∀ (l : List Bu) (p : Int), p ≤ levF c p l ∧ ∀ b ∈ l, c b = true → b.lev ≤ levF c p l
  | [], p => ⟨Int.le_refl _, fun _ h => by cases h⟩
  | a :: l, p => by
    have e : levF c p (a :: l) = levF c (if c a = true ∧ p < a.lev then a.lev else p) l := rfl
    rw [e]
    obtain ⟨h1, h2⟩ := levF_ge c l (if c a = true ∧ p < a.lev then a.lev else p)
    refine ⟨?_, fun b hb hc => ?_⟩
    · exact Int.le_trans (by split <;> omega) h1
    · rcases List.mem_cons.1 hb with rfl | hb
      · by_cases h : p < b.lev
        · rw [if_pos ⟨hc, h⟩] at h1 ⊢; exact h1
        · rw [if_neg (fun g => h g.2)] at h1 ⊢; omega
      · exact h2 b hb hc
theorem levF_at (c : Bu → Bool) : ∀ (l : List Bu) (p : Int), levF c p l = p ∨ ∃ b ∈ l, c b = true ∧ levF c p l = b.lev
  | [], p => Or.inl rfl
  | a :: l, p => by
    have e : levF c p (a :: l) = levF c (if c a = true ∧ p < a.lev then a.lev else p) l := rfl
    rw [e]
    by_cases h : c a = true ∧ p < a.lev
    · rw [if_pos h]
      rcases levF_at c l a.lev with g | ⟨b, hb, hc, g⟩
      · exact Or.inr ⟨a, by simp, h.1, g⟩
      · exact Or.inr ⟨b, by simp [hb], hc, g⟩
    · rw [if_neg h]
      rcases levF_at c l p with g | ⟨b, hb, hc, g⟩
      · exact Or.inl g
      · exact Or.inr ⟨b, by simp [hb], hc, g⟩
theorem curF_ge (t : Int) : ∀ (l : List Bu) (p : Int), p ≤ curF t p l ∧ ∀ b ∈ l, hasB b t = true → b.ver ≤ curF t p l
  | [], p => ⟨Int.le_refl _, fun _ h => by cases h⟩
  | a :: l, p => by
    have e : curF t p (a :: l) = curF t (if hasB a t = true ∧ p < a.ver then a.ver else p) l := rfl
    rw [e]
    obtain ⟨h1, h2⟩ := curF_ge t l (if hasB a t = true ∧ p < a.ver then a.ver else p)
    refine ⟨?_, fun b hb hc => ?_⟩
    · exact Int.le_trans (by split <;> omega) h1
    · rcases List.mem_cons.1 hb with rfl | hb
      · by_cases h : p < b.ver
        · rw [if_pos ⟨hc, h⟩] at h1 ⊢; exact h1
        · rw [if_neg (fun g => h g.2)] at h1 ⊢; omega
      · exact h2 b hb hc
theorem curF_at (t : Int) : ∀ (l : List Bu) (p : Int), curF t p l = p ∨ ∃ b ∈ l, hasB b t = true ∧ curF t p l = b.ver
  | [], p => Or.inl rfl
  | a :: l, p => by
    have e : curF t p (a :: l) = curF t (if hasB a t = true ∧ p < a.ver then a.ver else p) l := rfl
    rw [e]
    by_cases h : hasB a t = true ∧ p < a.ver
    · rw [if_pos h]
      rcases curF_at t l a.ver with g | ⟨b, hb, hc, g⟩
      · exact Or.inr ⟨a, by simp, h.1, g⟩
      · exact Or.inr ⟨b, by simp [hb], hc, g⟩
    · rw [if_neg h]
      rcases curF_at t l p with g | ⟨b, hb, hc, g⟩
      · exact Or.inl g
      · exact Or.inr ⟨b, by simp [hb], hc, g⟩
theorem levF_nn (c : Bu → Bool) (l : List Bu) : 0 ≤ levF c 0 l := (levF_ge c l 0).1
theorem levF_mono {c d : Bu → Bool} {l : List Bu} (h : ∀ b ∈ l, c b = true → d b = true) : levF c 0 l ≤ levF d 0 l := by
  rcases levF_at c l 0 with g | ⟨b, hb, hc, g⟩
  · rw [g]; exact levF_nn d l
  · rw [g]; exact (levF_ge d l 0).2 b hb (h b hb hc)
theorem levF_none {c : Bu → Bool} {l : List Bu} (h : ∀ b ∈ l, c b = false) : levF c 0 l = 0 := by
  rcases levF_at c l 0 with g | ⟨b, hb, hc, g⟩
  · exact g
  · rw [h b hb] at hc; cases hc
theorem curN_nn (l : List Bu) (t : Int) : 0 ≤ curN l t := (curF_ge t l 0).1
theorem worN_nn (l : List Bu) (t : Int) : 0 ≤ worN l t := levF_nn _ l
theorem levN_nn (l : List Bu) (z a b t : Int) : 0 ≤ levN l z a b t := levF_nn _ l
theorem worN_5 {l : List Bu} (h : rightN l = 0) (t : Int) : worN l t ≤ 5 := by
  rcases levF_at (countB (curN l t) t) l 0 with g | ⟨b, hb, _, g⟩
  · unfold worN; omega
  · have := (rightN_spec h b hb).1
    unfold InR at this
    unfold worN
    omega
theorem levN_wor (l : List Bu) (z a b t : Int) : levN l z a b t ≤ worN l t := by
  refine levF_mono fun b _ h => ?_
  unfold placeB at h
  simp only [Bool.and_eq_true] at h
  exact h.1.1.1
theorem wor_pos {l : List Bu} (h : rightN l = 0) (t : Int) : (0 < worN l t) ↔ (0 < curN l t) := by
  constructor
  · intro hw
    rcases levF_at (countB (curN l t) t) l 0 with g | ⟨b, hb, hc, g⟩
    · unfold worN at hw; omega
    · have := (rightN_spec h b hb).1
      unfold InR at this
      unfold countB at hc
      simp only [Bool.and_eq_true, decide_eq_true_eq] at hc
      omega
  · intro hc
    rcases curF_at t l 0 with g | ⟨b, hb, hh, g⟩
    · unfold curN at hc; omega
    · have hl := (rightN_spec h b hb).1
      unfold InR at hl
      have := (levF_ge (countB (curN l t) t) l 0).2 b hb (by unfold countB curN; rw [g, hh]; simp)
      unfold worN
      omega
theorem lev_wide {l : List Bu} (z a b a' b' t : Int) (ha : a' ≤ a) (hb : b ≤ b') : levN l z a b t ≤ levN l z a' b' t := by
  refine levF_mono fun c _ h => ?_
  unfold placeB at h ⊢
  simp only [Bool.and_eq_true, decide_eq_true_eq] at h ⊢
  exact ⟨⟨h.1.1, by omega⟩, by omega⟩
theorem lev_zero {l : List Bu} (h : rightN l = 0) (a b t : Int) : levN l 0 a b t = 0 := by
  refine levF_none fun c hc => ?_
  have hz := (zonesB_spec (rightN_spec h c hc).2).1
  have : c.zs.contains 0 = false := by
    cases hq : c.zs.contains 0 with
    | false => rfl
    | true =>
      have := hz 0 (by simpa using hq)
      omega
  unfold placeB
  rw [this]
  simp
/-- the greatest level of the first zones -/
def mostN (l : List Bu) (t : Int) : Nat → Int
  | 0 => 0
  | k + 1 => max (mostN l t k) (levN l ((k : Int) + 1) 0 6000 t)
theorem most_le (l : List Bu) (t : Int) : ∀ k, mostN l t k ≤ worN l t ∧ 0 ≤ mostN l t k
  | 0 => ⟨worN_nn l t, Int.le_refl _⟩
  | k + 1 => by
    have h := most_le l t k
    have := levN_wor l ((k : Int) + 1) 0 6000 t
    unfold mostN
    omega
theorem most_ge (l : List Bu) (t : Int) (z : Nat) : ∀ k, z < k → levN l ((z : Int) + 1) 0 6000 t ≤ mostN l t k
  | 0, h => by omega
  | k + 1, h => by
    unfold mostN
    rcases Nat.lt_or_ge z k with g | g
    · have := most_ge l t z k g
      omega
    · obtain rfl : z = k := by omega
      omega
theorem most_all {l : List Bu} (h : rightN l = 0) (t : Int) : mostN l t 32 = worN l t := by
  have h1 := most_le l t 32
  have h2 : worN l t ≤ mostN l t 32 := by
    rcases levF_at (countB (curN l t) t) l 0 with g | ⟨b, hb, hc, g⟩
    · unfold worN; omega
    · have hr := rightN_spec h b hb
      have hi := hr.1
      unfold InR at hi
      obtain ⟨hz, z, hzm⟩ := zonesB_spec hr.2
      have hz1 := hz z hzm
      have hp := (levF_ge (placeB (curN l t) z 0 6000 t) l 0).2 b hb (by
        unfold placeB
        rw [hc, show b.zs.contains z = true by simpa using hzm]
        simp only [Bool.true_and, Bool.and_eq_true, decide_eq_true_eq]
        omega)
      have hm := most_ge l t (z - 1).toNat 32 (by omega)
      rw [show (((z - 1).toNat : Nat) : Int) + 1 = z by omega] at hm
      unfold worN
      rw [g]
      exact Int.le_trans hp hm
  omega

/- one bulletin more -/
theorem rightF_last : ∀ {l : List Bu} {p : Int}, rightF p l = 0 → ∀ c ∈ l, c.ver ≤ (l.getD (l.length - 1) ⟨0, 0, 0, 0, 0, 0, []⟩).ver
  | [], _, _, c, hc => by cases hc
  | [a], _, _, c, hc => by
    rcases List.mem_cons.1 hc with rfl | hc
    · exact Int.le_refl _
    · cases hc
  | a :: b :: l, p, h, c, hc => by
    have h' : rightF a.ver (b :: l) = 0 := by
      unfold rightF at h
      split at h
      · cases h
      · split at h
        · cases h
        · split at h
          · cases h
          · exact h
    have ih := rightF_last h'
    have e : (a :: b :: l).getD ((a :: b :: l).length - 1) ⟨0, 0, 0, 0, 0, 0, []⟩ = (b :: l).getD ((b :: l).length - 1) ⟨0, 0, 0, 0, 0, 0, []⟩ := by simp
    rw [e]
    rcases List.mem_cons.1 hc with rfl | hc
    · have := (rightF_spec h' b (by simp)).2.2
      have := ih b (by simp)
      omega
    · exact ih c hc
theorem new_ver {l : List Bu} {b : Bu} (h : rightN l = 0) (hb : l.length = 0 ∨ (l.getD (l.length - 1) ⟨0, 0, 0, 0, 0, 0, []⟩).ver < b.ver) : ∀ c ∈ l, c.ver < b.ver := by
  unfold rightN at h
  split at h
  · cases h
  · intro c hc
    have := rightF_last h c hc
    rcases hb with hb | hb
    · rw [List.length_eq_zero_iff.1 hb] at hc; cases hc
    · omega
theorem cur_lt {l : List Bu} {b : Bu} (hv : ∀ c ∈ l, c.ver < b.ver) (h1 : 1 ≤ b.ver) (t : Int) : curN l t < b.ver := by
  rcases curF_at t l 0 with g | ⟨c, hc, _, g⟩
  · unfold curN; omega
  · have := hv c hc
    unfold curN
    omega
theorem cur_in {l : List Bu} {b : Bu} (hv : ∀ c ∈ l, c.ver < b.ver) (h1 : 1 ≤ b.ver) {t : Int} (ht : hasB b t = true) : curN (l ++ [b]) t = b.ver := by
  have h := cur_lt hv h1 t
  unfold curN at h ⊢
  rw [curF_snoc, if_pos ⟨ht, h⟩]
theorem cur_out {l : List Bu} {b : Bu} {t : Int} (ht : hasB b t = false) : curN (l ++ [b]) t = curN l t := by
  unfold curN
  rw [curF_snoc, if_neg (fun h => by rw [ht] at h; cases h.1)]
theorem countB_old {l : List Bu} {b : Bu} (hv : ∀ c ∈ l, c.ver < b.ver) (t : Int) : ∀ c ∈ l, countB b.ver t c = false := by
  intro c hc
  have := hv c hc
  unfold countB
  rw [decide_eq_false (by omega)]
  rfl
theorem wor_in {l : List Bu} {b : Bu} (hv : ∀ c ∈ l, c.ver < b.ver) (hr : InR b) {t : Int} (ht : hasB b t = true) : worN (l ++ [b]) t = b.lev := by
  unfold InR at hr
  unfold worN
  rw [cur_in hv (by omega) ht, levF_snoc, levF_none (countB_old hv t), if_pos ⟨by unfold countB; rw [ht]; simp, by omega⟩]
theorem lev_in {l : List Bu} {b : Bu} (hv : ∀ c ∈ l, c.ver < b.ver) (hr : InR b) {t : Int} (ht : hasB b t = true) (z lo hi : Int) :
    levN (l ++ [b]) z lo hi t = if (b.zs.contains z && decide (b.lo < hi) && decide (lo < b.hi)) = true then b.lev else 0 := by
  unfold InR at hr
  unfold levN
  rw [cur_in hv (by omega) ht, levF_snoc, levF_none (fun c hc => by unfold placeB; rw [countB_old hv t c hc]; rfl)]
  have e : placeB b.ver z lo hi t b = (b.zs.contains z && decide (b.lo < hi) && decide (lo < b.hi)) := by
    unfold placeB countB
    rw [ht]
    simp
  rw [e]
  by_cases h : (b.zs.contains z && decide (b.lo < hi) && decide (lo < b.hi)) = true
  · rw [if_pos h, if_pos ⟨h, by omega⟩]
  · rw [if_neg h, if_neg (fun g => h g.1)]
theorem wor_out {l : List Bu} {b : Bu} {t : Int} (ht : hasB b t = false) : worN (l ++ [b]) t = worN l t := by
  unfold worN
  rw [cur_out ht, levF_snoc, if_neg (fun h => by have := h.1; unfold countB at this; rw [ht, Bool.and_false] at this; cases this)]
theorem lev_out {l : List Bu} {b : Bu} {t : Int} (ht : hasB b t = false) (z lo hi : Int) : levN (l ++ [b]) z lo hi t = levN l z lo hi t := by
  unfold levN
  rw [cur_out ht, levF_snoc, if_neg (fun h => by have := h.1; unfold placeB countB at this; rw [ht] at this; simp at this)]

/- only the latest version counts -/
/-- the bulletins of a version, and all with another level for the others -/
def latestN (n : Int) (l : List Bu) : List Bu := l.filter fun b => decide (b.ver = n)
def otherB (n other : Int) (b : Bu) : Bu := if b.ver = n then b else { b with lev := other }
def changedN (n other : Int) (l : List Bu) : List Bu := l.map (otherB n other)
theorem hasB_other (n o : Int) (b : Bu) (t : Int) : hasB (otherB n o b) t = hasB b t := by unfold otherB hasB; split <;> rfl
theorem ver_other (n o : Int) (b : Bu) : (otherB n o b).ver = b.ver := by unfold otherB; split <;> rfl
theorem levF_filter (c : Bu → Bool) (q : Bu → Bool) (h : ∀ b, c b = true → q b = true) : ∀ (l : List Bu) (p : Int), levF c p (l.filter q) = levF c p l
  | [], _ => rfl
  | a :: l, p => by
    have e : levF c p (a :: l) = levF c (if c a = true ∧ p < a.lev then a.lev else p) l := rfl
    rw [e, ← levF_filter c q h l]
    by_cases hq : q a = true
    · rw [List.filter_cons_of_pos hq]; rfl
    · rw [List.filter_cons_of_neg hq, if_neg (fun g => hq (h a g.1))]
theorem levF_map (c : Bu → Bool) (f : Bu → Bu) (h1 : ∀ b, c (f b) = c b) (h2 : ∀ b, c b = true → f b = b) : ∀ (l : List Bu) (p : Int), levF c p (l.map f) = levF c p l
  | [], _ => rfl
  | a :: l, p => by
    have e : levF c p (a :: l) = levF c (if c a = true ∧ p < a.lev then a.lev else p) l := rfl
    have e' : levF c p ((a :: l).map f) = levF c (if c (f a) = true ∧ p < (f a).lev then (f a).lev else p) (l.map f) := rfl
    rw [e, e', levF_map c f h1 h2 l, h1]
    by_cases hc : c a = true
    · rw [h2 a hc]
    · rw [if_neg (fun g => hc g.1), if_neg (fun g => hc g.1)]
theorem curF_map (t : Int) (f : Bu → Bu) (h1 : ∀ b, hasB (f b) t = hasB b t) (h2 : ∀ b, (f b).ver = b.ver) : ∀ (l : List Bu) (p : Int), curF t p (l.map f) = curF t p l
  | [], _ => rfl
  | a :: l, p => by
    have e : curF t p (a :: l) = curF t (if hasB a t = true ∧ p < a.ver then a.ver else p) l := rfl
    have e' : curF t p ((a :: l).map f) = curF t (if hasB (f a) t = true ∧ p < (f a).ver then (f a).ver else p) (l.map f) := rfl
    rw [e, e', curF_map t f h1 h2 l, h1, h2]
theorem cur_latest {l : List Bu} (h : rightN l = 0) (t : Int) : curN (latestN (curN l t) l) t = curN l t := by
  rcases curF_at t (latestN (curN l t) l) 0 with g | ⟨b, hb, hh, g⟩
  · rcases curF_at t l 0 with k | ⟨b, hb, hh, k⟩
    · have k' : curN l t = 0 := k
      have g' : curN (latestN (curN l t) l) t = 0 := g
      rw [g', k']
    · have hm : b ∈ latestN (curN l t) l := by
        unfold latestN
        rw [List.mem_filter]
        exact ⟨hb, decide_eq_true k.symm⟩
      have h1 := (curF_ge t (latestN (curN l t) l) 0).2 b hm hh
      have h2 := (rightN_spec h b hb).1
      unfold InR at h2
      omega
  · unfold latestN at hb
    rw [List.mem_filter] at hb
    have := hb.2
    simp only [decide_eq_true_eq] at this
    exact g.trans this
theorem lev_latest {l : List Bu} (h : rightN l = 0) (z lo hi t : Int) : levN (latestN (curN l t) l) z lo hi t = levN l z lo hi t := by
  unfold levN
  rw [cur_latest h t]
  exact levF_filter _ _ (fun b hb => by unfold placeB countB at hb; simp only [Bool.and_eq_true] at hb; exact hb.1.1.1.1) _ _
theorem cur_changed (l : List Bu) (n o t : Int) : curN (changedN n o l) t = curN l t := curF_map t _ (fun b => hasB_other n o b t) (fun b => ver_other n o b) l 0
theorem countB_other (n o t : Int) (b : Bu) : countB n t (otherB n o b) = countB n t b := by unfold countB; rw [ver_other, hasB_other]
theorem placeB_other (n o z lo hi t : Int) (b : Bu) : placeB n z lo hi t (otherB n o b) = placeB n z lo hi t b := by
  unfold placeB
  rw [countB_other]
  unfold otherB
  split <;> rfl
theorem other_same {n o t : Int} {b : Bu} (h : countB n t b = true) : otherB n o b = b := by
  unfold countB at h
  simp only [Bool.and_eq_true, decide_eq_true_eq] at h
  unfold otherB
  rw [if_pos h.1]
theorem lev_changed (l : List Bu) (o z lo hi t : Int) : levN (changedN (curN l t) o l) z lo hi t = levN l z lo hi t := by
  unfold levN
  rw [cur_changed]
  exact levF_map _ _ (fun b => placeB_other _ o z lo hi t b) (fun b hb => other_same (t := t) (by unfold placeB at hb; simp only [Bool.and_eq_true] at hb; exact hb.1.1.1)) l 0
theorem wor_changed (l : List Bu) (o t : Int) : worN (changedN (curN l t) o l) t = worN l t := by
  unfold worN
  rw [cur_changed]
  exact levF_map _ _ (fun b => countB_other _ o t b) (fun b hb => other_same hb) l 0
end Go.Proofs.Ytmbdlnimegdigaa
