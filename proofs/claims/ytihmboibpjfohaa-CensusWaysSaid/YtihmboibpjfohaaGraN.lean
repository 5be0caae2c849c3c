/-
  The plain law of least ways: lengths of the graph's package (cost, then edges) are those of the least walks. No program is in sight.
-/
import Derived.WalkKit
namespace Go.Proofs.Ytihmboibpjfohaa

structure Ed where
  eid : Int
  fr : Int
  tt : Int
  cst : Int
abbrev DM := Int → Option (Int × Int)
def lessL (a b : Int × Int) : Bool := decide (a.1 < b.1) || (decide (a.1 = b.1) && decide (a.2 < b.2))
def leL (a b : Int × Int) : Prop := a.1 < b.1 ∨ (a.1 = b.1 ∧ a.2 ≤ b.2)
theorem lessL_iff {a b : Int × Int} : lessL a b = true ↔ ¬ leL b a := by
  unfold lessL leL
  simp only [Bool.or_eq_true, Bool.and_eq_true, decide_eq_true_eq]
  omega
theorem lessL_not {a b : Int × Int} (h : ¬ lessL a b = true) : leL b a := by
  rw [lessL_iff] at h
  exact Classical.not_not.1 h
theorem leL.refl (a : Int × Int) : leL a a := .inr ⟨rfl, Int.le_refl _⟩
theorem leL.trans {a b c : Int × Int} (h : leL a b) (k : leL b c) : leL a c := by unfold leL at *; omega
theorem leL.antisymm {a b : Int × Int} (h : leL a b) (k : leL b a) : a = b := by
  unfold leL at *
  exact Prod.ext (by omega) (by omega)
theorem leL.add {a b : Int × Int} (h : leL a b) (c d : Int) : leL (a.1 + c, a.2 + d) (b.1 + c, b.2 + d) := by
  unfold leL at *
  simp only
  omega
def updM (f : DM) (k : Int) (v : Int × Int) : DM := fun x => if x = k then some v else f x
theorem updM_same (f : DM) (k : Int) (v : Int × Int) : updM f k v k = some v := by simp [updM]
theorem updM_other (f : DM) {k x : Int} (h : x ≠ k) (v : Int × Int) : updM f k v x = f x := by simp [updM, h]
/-- one edge is looked at -/
def relax (s : DM × Bool) (e : Ed) : DM × Bool :=
  match s.1 e.tt with
  | none => s
  | some a => match s.1 e.fr with
    | none => (updM s.1 e.fr (a.1 + e.cst, a.2 + 1), true)
    | some old => if lessL (a.1 + e.cst, a.2 + 1) old = true then (updM s.1 e.fr (a.1 + e.cst, a.2 + 1), true) else s
def roundD (es : List Ed) (f : DM) : DM × Bool := es.foldl relax (f, false)
def lenF (es : List Ed) : Nat → DM → DM
  | 0, f => f
  | n + 1, f => if (roundD es f).2 = true then lenF es n (roundD es f).1 else (roundD es f).1
def startD (t : Int) : DM := fun x => if x = t then some (0, 0) else none
def lengthsD (es : List Ed) (t : Int) : DM := lenF es es.length (startD t)

/-- a walk along edges -/
def IsW (es : List Ed) : Int → List Ed → Int → Prop
  | u, [], v => u = v
  | u, e :: p, v => e ∈ es ∧ e.fr = u ∧ IsW es e.tt p v
def costW (p : List Ed) : Int := (p.map Ed.cst).sum
theorem costW_nil : costW [] = 0 := rfl
theorem costW_cons (e : Ed) (p : List Ed) : costW (e :: p) = e.cst + costW p := by simp [costW]
theorem costW_app (p q : List Ed) : costW (p ++ q) = costW p + costW q := by simp [costW]
theorem IsW.app {es : List Ed} : ∀ {p q : List Ed} {u v x : Int}, IsW es u p v → IsW es v q x → IsW es u (p ++ q) x
  | [], _, _, _, _, h, k => by
    have h' : _ = _ := h
    subst h'
    exact k
  | _ :: _, _, _, _, _, h, k => ⟨h.1, h.2.1, IsW.app h.2.2 k⟩
theorem IsW.split {es : List Ed} : ∀ {p q : List Ed} {u x : Int}, IsW es u (p ++ q) x → ∃ v, IsW es u p v ∧ IsW es v q x
  | [], _, _, _, h => ⟨_, rfl, h⟩
  | _ :: _, _, _, _, h => by
    obtain ⟨v, h1, h2⟩ := IsW.split h.2.2
    exact ⟨v, ⟨h.1, h.2.1, h1⟩, h2⟩
theorem IsW.mem {es : List Ed} : ∀ {p : List Ed} {u v : Int}, IsW es u p v → ∀ e ∈ p, e ∈ es
  | [], _, _, _, _, h => by cases h
  | _ :: _, _, _, h, e, he => by
    rcases List.mem_cons.1 he with rfl | he
    · exact h.1
    · exact IsW.mem h.2.2 e he
theorem costW_nonneg {es : List Ed} (hc : ∀ e ∈ es, 0 ≤ e.cst) : ∀ (p : List Ed), (∀ e ∈ p, e ∈ es) → 0 ≤ costW p
  | [], _ => by simp [costW]
  | e :: p, h => by
    have h1 := hc e (h e (by simp))
    have h2 := costW_nonneg hc p fun x hx => h x (by simp [hx])
    rw [costW_cons]
    omega
/-- a list that names a thing twice -/
theorem twice_of {α β : Type} (f : α → β) : ∀ (l : List α), ¬ (l.map f).Nodup → ∃ p x q y r, l = p ++ x :: (q ++ y :: r) ∧ f x = f y
  | [], h => by simp at h
  | a :: l, h => by
    rw [List.map_cons, List.nodup_cons] at h
    by_cases h1 : f a ∈ l.map f
    · obtain ⟨y, hy, e⟩ := List.mem_map.1 h1
      obtain ⟨q, r, rfl⟩ := List.append_of_mem hy
      exact ⟨[], a, q, y, r, rfl, e.symm⟩
    · obtain ⟨p, x, q, y, r, rfl, e⟩ := twice_of f l fun h2 => h ⟨h1, h2⟩
      exact ⟨a :: p, x, q, y, r, rfl, e⟩
/-- no node twice, and it is no longer and costs no more -/
theorem IsW.simple {es : List Ed} (hc : ∀ e ∈ es, 0 ≤ e.cst) (n : Nat) : ∀ {p : List Ed} {u v : Int}, p.length ≤ n → IsW es u p v → ∃ q, IsW es u q v ∧ (q.map Ed.fr).Nodup ∧ costW q ≤ costW p ∧ q.length ≤ p.length := by
  induction n with
  | zero =>
    intro p u v hn h
    have : p = [] := List.eq_nil_of_length_eq_zero (by omega)
    subst this
    exact ⟨[], h, by simp, Int.le_refl _, Nat.le_refl _⟩
  | succ n ih =>
    intro p u v hn h
    by_cases hd : (p.map Ed.fr).Nodup
    · exact ⟨p, h, hd, Int.le_refl _, Nat.le_refl _⟩
    · obtain ⟨a, x, b, y, c, rfl, e⟩ := twice_of Ed.fr p hd
      obtain ⟨m, h1, h2⟩ := IsW.split h
      have h3 : IsW es x.tt (b ++ y :: c) v := h2.2.2
      obtain ⟨m2, h4, h5⟩ := IsW.split h3
      have hm : x.fr = m := h2.2.1
      have hw : IsW es u (a ++ y :: c) v := h1.app ⟨h5.1, by rw [← e, hm], h5.2.2⟩
      have hx := hc x (h.mem x (by simp))
      have hb := costW_nonneg hc b fun e he => h.mem e (by simp [he])
      obtain ⟨q, g1, g2, g3, g4⟩ := ih (by simp at hn ⊢; omega) hw
      refine ⟨q, g1, g2, ?_, ?_⟩
      · rw [costW_app, costW_cons, costW_app] at *
        rw [costW_cons] at *
        omega
      · simp at g4 ⊢; omega
theorem len_le_of_nodup {α : Type} [DecidableEq α] : ∀ (l out : List α), l.Nodup → (∀ x ∈ l, x ∈ out) → l.length ≤ out.length
  | [], _, _, _ => Nat.zero_le _
  | x :: l, out, h1, h2 => by
    have hx := h2 x (by simp)
    obtain ⟨h3, h4⟩ := List.nodup_cons.1 h1
    have h5 := len_le_of_nodup l (out.erase x) h4 fun y hy => by
      have hne : y ≠ x := fun e => by subst e; exact h3 hy
      exact (List.mem_erase_of_ne hne).2 (h2 y (by simp [hy]))
    rw [List.length_erase_of_mem hx] at h5
    have := List.length_pos_of_mem hx
    simp only [List.length_cons]
    omega
theorem simple_len {q : List Ed} (hd : (q.map Ed.fr).Nodup) (ns : List Int) (h : ∀ e ∈ q, e.fr ∈ ns) : q.length ≤ ns.length := by
  have := len_le_of_nodup (q.map Ed.fr) ns hd fun x hx => by
    obtain ⟨e, he, rfl⟩ := List.mem_map.1 hx
    exact h e he
  simpa using this

/-! ### what the rounds find -/
def pairW (p : List Ed) : Int × Int := (costW p, (p.length : Int))
theorem pairW_cons (e : Ed) (p : List Ed) : pairW (e :: p) = ((pairW p).1 + e.cst, (pairW p).2 + 1) := by
  unfold pairW
  rw [costW_cons, List.length_cons]
  exact Prod.ext (by simp only; omega) (by simp)
/-- what is written is a walk -/
def Sound (es : List Ed) (t : Int) (f : DM) : Prop := ∀ v a, f v = some a → ∃ p, IsW es v p t ∧ pairW p = a
/-- what is written is no more than the walks of at most n edges -/
def Upto (es : List Ed) (t : Int) (n : Nat) (f : DM) : Prop := ∀ v p, IsW es v p t → p.length ≤ n → ∃ a, f v = some a ∧ leL a (pairW p)
def Less (f g : DM) : Prop := ∀ v a, f v = some a → ∃ b, g v = some b ∧ leL b a
theorem Less.refl (f : DM) : Less f f := fun _ a h => ⟨a, h, leL.refl _⟩
theorem Less.trans {f g h : DM} (a : Less f g) (b : Less g h) : Less f h := fun v x hx => by
  obtain ⟨y, hy, h1⟩ := a v x hx
  obtain ⟨z, hz, h2⟩ := b v y hy
  exact ⟨z, hz, h2.trans h1⟩
theorem relax_less (s : DM × Bool) (e : Ed) : Less s.1 (relax s e).1 := by
  unfold relax
  split
  · exact Less.refl _
  · rename_i a ha
    split
    · rename_i hn
      intro v x hx
      by_cases hv : v = e.fr
      · subst hv; rw [hn] at hx; cases hx
      · exact ⟨x, by show updM _ _ _ v = _; rw [updM_other _ hv]; exact hx, leL.refl _⟩
    · rename_i old ho
      split
      · rename_i hl
        intro v x hx
        by_cases hv : v = e.fr
        · subst hv
          rw [ho] at hx
          injection hx with hx
          subst hx
          refine ⟨_, updM_same _ _ _, ?_⟩
          have := lessL_iff.1 hl
          unfold leL at *
          omega
        · exact ⟨x, by show updM _ _ _ v = _; rw [updM_other _ hv]; exact hx, leL.refl _⟩
      · exact Less.refl _
theorem relax_sound {es : List Ed} {t : Int} {s : DM × Bool} {e : Ed} (he : e ∈ es) (h : Sound es t s.1) : Sound es t (relax s e).1 := by
  have key : ∀ a, s.1 e.tt = some a → Sound es t (updM s.1 e.fr (a.1 + e.cst, a.2 + 1)) := fun a ha v b hb => by
    by_cases hv : v = e.fr
    · subst hv
      rw [updM_same] at hb
      injection hb with hb
      obtain ⟨p, hp, hpa⟩ := h _ _ ha
      exact ⟨e :: p, ⟨he, rfl, hp⟩, by rw [pairW_cons, hpa, hb]⟩
    · rw [updM_other _ hv] at hb
      exact h v b hb
  unfold relax
  split
  · exact h
  · rename_i a ha
    split
    · exact key a ha
    · split
      · exact key a ha
      · exact h
/-- the edge is satisfied -/
theorem relax_edge (s : DM × Bool) (e : Ed) : ∀ a, s.1 e.tt = some a → ∃ b, (relax s e).1 e.fr = some b ∧ leL b (a.1 + e.cst, a.2 + 1) := by
  intro a ha
  unfold relax
  rw [ha]
  dsimp only
  split
  · exact ⟨_, updM_same _ _ _, leL.refl _⟩
  · rename_i old ho
    split
    · exact ⟨_, updM_same _ _ _, leL.refl _⟩
    · rename_i hl
      exact ⟨old, ho, lessL_not hl⟩
theorem fold_less : ∀ (l : List Ed) (s : DM × Bool), Less s.1 (l.foldl relax s).1
  | [], _ => Less.refl _
  | e :: l, s => (relax_less s e).trans (fold_less l (relax s e))
theorem fold_sound {es : List Ed} {t : Int} : ∀ (l : List Ed) (s : DM × Bool), (∀ e ∈ l, e ∈ es) → Sound es t s.1 → Sound es t (l.foldl relax s).1
  | [], _, _, h => h
  | e :: l, s, hl, h => fold_sound l (relax s e) (fun x hx => hl x (by simp [hx])) (relax_sound (hl e (by simp)) h)
theorem fold_edge : ∀ (l : List Ed) (s : DM × Bool) (e : Ed), e ∈ l → ∀ a, s.1 e.tt = some a → ∃ b, (l.foldl relax s).1 e.fr = some b ∧ leL b (a.1 + e.cst, a.2 + 1)
  | [], _, _, h, _, _ => by cases h
  | x :: l, s, e, h, a, ha => by
    rcases List.mem_cons.1 h with rfl | h
    · obtain ⟨b, hb, h1⟩ := relax_edge s e a ha
      obtain ⟨c, hc, h2⟩ := fold_less l (relax s e) _ _ hb
      exact ⟨c, hc, h2.trans h1⟩
    · obtain ⟨a', ha', h1⟩ := relax_less s x _ _ ha
      obtain ⟨b, hb, h2⟩ := fold_edge l (relax s x) e h a' ha'
      exact ⟨b, hb, h2.trans (h1.add _ _)⟩
theorem round_upto {es : List Ed} {t : Int} {n : Nat} {f : DM} (h : Upto es t n f) (h0 : ∃ a, f t = some a ∧ leL a (0, 0)) : Upto es t (n + 1) (roundD es f).1 := by
  intro v p hw hl
  match p, hw with
  | [], hw =>
    have hv : v = t := hw
    subst hv
    obtain ⟨a, ha, h1⟩ := h0
    obtain ⟨b, hb, h2⟩ := fold_less es (f, false) _ _ ha
    exact ⟨b, hb, h2.trans h1⟩
  | e :: p, hw =>
    obtain ⟨a, ha, h1⟩ := h e.tt p hw.2.2 (by simpa using hl)
    obtain ⟨b, hb, h2⟩ := fold_edge es (f, false) e hw.1 a ha
    have hf : e.fr = v := hw.2.1
    rw [hf] at hb
    exact ⟨b, hb, h2.trans (by rw [pairW_cons]; exact h1.add _ _)⟩
/-- nothing was changed: the map is as it was -/
theorem relax_flag (s : DM × Bool) (e : Ed) : (relax s e).2 = false → relax s e = s := by
  unfold relax
  split
  · exact fun _ => rfl
  · split
    · intro h; cases h
    · split
      · intro h; cases h
      · exact fun _ => rfl
theorem relax_keep (s : DM × Bool) (e : Ed) : s.2 = true → (relax s e).2 = true := by
  intro h
  unfold relax
  split
  · exact h
  · split
    · rfl
    · split
      · rfl
      · exact h
theorem fold_keep : ∀ (l : List Ed) (s : DM × Bool), s.2 = true → (l.foldl relax s).2 = true
  | [], _, h => h
  | e :: l, s, h => fold_keep l (relax s e) (relax_keep s e h)
theorem fold_flag : ∀ (l : List Ed) (s : DM × Bool), (l.foldl relax s).2 = false → l.foldl relax s = s
  | [], _, _ => rfl
  | e :: l, s, h => by
    have h1 : (relax s e).2 = false := by
      cases hx : (relax s e).2 with
      | false => rfl
      | true =>
        have := fold_keep l (relax s e) hx
        rw [List.foldl_cons] at h
        rw [h] at this
        cases this
    rw [List.foldl_cons] at h ⊢
    rw [relax_flag s e h1] at h ⊢
    exact fold_flag l s h
/-- where nothing is left to change, all walks are told -/
theorem fixed_all {es : List Ed} {t : Int} {f : DM} (h : (roundD es f).2 = false) (h0 : ∃ a, f t = some a ∧ leL a (0, 0)) : ∀ (n : Nat), Upto es t n f := by
  intro n
  induction n with
  | zero =>
    intro v p hw hl
    have : p = [] := List.eq_nil_of_length_eq_zero (by omega)
    subst this
    have hv : v = t := hw
    subst hv
    exact h0
  | succ n ih =>
    have := round_upto ih h0
    unfold roundD at h this
    rw [fold_flag es (f, false) h] at this
    exact this
/-- the least walk -/
structure IsLen (es : List Ed) (t : Int) (f : DM) : Prop where
  sound : Sound es t f
  all : ∀ v p, IsW es v p t → ∃ a, f v = some a ∧ leL a (pairW p)
theorem lenF_is {es : List Ed} {t : Int} (hc : ∀ e ∈ es, 0 ≤ e.cst) : ∀ (n k : Nat) (f : DM), Sound es t f → Upto es t k f → (∃ a, f t = some a ∧ leL a (0, 0)) → es.length ≤ n + k → IsLen es t (lenF es n f)
  | 0, k, f, hs, hu, _, hk => ⟨hs, fun v p hw => by
    obtain ⟨q, g1, g2, g3, g4⟩ := IsW.simple hc p.length (Nat.le_refl _) hw
    have hq : q.length ≤ es.length := by
      have h2 := simple_len g2 (es.map Ed.fr) fun e he => List.mem_map.2 ⟨e, g1.mem e he, rfl⟩
      simpa using h2
    obtain ⟨a, ha, h1⟩ := hu v q g1 (by omega)
    refine ⟨a, ha, h1.trans ?_⟩
    unfold leL pairW
    simp only
    omega⟩
  | n + 1, k, f, hs, hu, h0, hk => by
    rw [lenF]
    have hs' : Sound es t (roundD es f).1 := fold_sound es (f, false) (fun _ h => h) hs
    have h0' : ∃ a, (roundD es f).1 t = some a ∧ leL a (0, 0) := by
      obtain ⟨a, ha, h1⟩ := h0
      obtain ⟨b, hb, h2⟩ := fold_less es (f, false) _ _ ha
      exact ⟨b, hb, h2.trans h1⟩
    by_cases hch : (roundD es f).2 = true
    · rw [if_pos hch]
      exact lenF_is hc n (k + 1) _ hs' (round_upto hu h0) h0' (by omega)
    · rw [if_neg hch]
      have hch' : (roundD es f).2 = false := by simpa using hch
      have he : (roundD es f).1 = f := by
        have := fold_flag es (f, false) hch'
        exact congrArg Prod.fst this
      rw [he]
      exact ⟨hs, fun v p hw => fixed_all hch' h0 p.length v p hw (Nat.le_refl _)⟩
theorem lengths_is {es : List Ed} (hc : ∀ e ∈ es, 0 ≤ e.cst) (t : Int) : IsLen es t (lengthsD es t) := by
  have h0 : startD t t = some (0, 0) := by simp [startD]
  refine lenF_is hc es.length 0 (startD t) ?_ ?_ ⟨_, h0, leL.refl _⟩ (by omega)
  · intro v a h
    unfold startD at h
    by_cases hv : v = t
    · rw [if_pos hv] at h
      injection h with h
      exact ⟨[], hv, h⟩
    · rw [if_neg hv] at h; cases h
  · intro v p hw hl
    have : p = [] := List.eq_nil_of_length_eq_zero (by omega)
    subst this
    have hv : v = t := hw
    subst hv
    exact ⟨_, h0, leL.refl _⟩
/-- from a node that is not the end an edge leads on along a least walk -/
theorem IsLen.next {es : List Ed} {t : Int} {f : DM} (h : IsLen es t f) {v : Int} {a : Int × Int} (ha : f v = some a) (hv : v ≠ t) : ∃ e ∈ es, e.fr = v ∧ ∃ b, f e.tt = some b ∧ a = (b.1 + e.cst, b.2 + 1) := by
  obtain ⟨p, hp, hpa⟩ := h.sound v a ha
  match p, hp with
  | [], hp => exact absurd hp hv
  | e :: p, hp =>
    obtain ⟨b, hb, h1⟩ := h.all e.tt p hp.2.2
    obtain ⟨q, hq, hqb⟩ := h.sound _ _ hb
    obtain ⟨a', ha', h2⟩ := h.all v (e :: q) ⟨hp.1, hp.2.1, hq⟩
    rw [ha] at ha'
    injection ha' with ha'
    subst ha'
    rw [pairW_cons, hqb] at h2
    refine ⟨e, hp.1, hp.2.1, b, hb, leL.antisymm h2 ?_⟩
    rw [← hpa, pairW_cons]
    exact h1.add _ _
theorem IsLen.at_end {es : List Ed} {t : Int} {f : DM} (h : IsLen es t f) (hc : ∀ e ∈ es, 0 ≤ e.cst) : f t = some (0, 0) := by
  obtain ⟨a, ha, h1⟩ := h.all t [] rfl
  obtain ⟨p, hp, hpa⟩ := h.sound t a ha
  have := costW_nonneg hc p fun e he => hp.mem e he
  rw [ha, ← hpa]
  rw [← hpa] at h1
  unfold leL pairW at h1
  unfold pairW
  simp only [costW_nil, List.length_nil] at h1
  congr 1
  exact Prod.ext (by simp only; omega) (by simp only; omega)
theorem IsLen.nonneg {es : List Ed} {t : Int} {f : DM} (h : IsLen es t f) (hc : ∀ e ∈ es, 0 ≤ e.cst) {v : Int} {a : Int × Int} (ha : f v = some a) : 0 ≤ a.1 ∧ 0 ≤ a.2 := by
  obtain ⟨p, hp, rfl⟩ := h.sound v a ha
  exact ⟨costW_nonneg hc p fun e he => hp.mem e he, by simp [pairW]⟩
/-- the least cost of a walk -/
def IsCost (es : List Ed) (u t : Int) (c : Int) : Prop := (∃ p, IsW es u p t ∧ costW p = c) ∧ ∀ p, IsW es u p t → c ≤ costW p
theorem IsCost.unique {es : List Ed} {u t c d : Int} (h : IsCost es u t c) (k : IsCost es u t d) : c = d := by
  obtain ⟨⟨p, hp, rfl⟩, h2⟩ := h
  obtain ⟨⟨q, hq, rfl⟩, k2⟩ := k
  have := h2 q hq
  have := k2 p hp
  omega
theorem IsLen.cost {es : List Ed} {t : Int} {f : DM} (h : IsLen es t f) {v : Int} {a : Int × Int} (ha : f v = some a) : IsCost es v t a.1 := by
  obtain ⟨p, hp, hpa⟩ := h.sound v a ha
  refine ⟨⟨p, hp, by rw [← hpa]; rfl⟩, fun q hq => ?_⟩
  obtain ⟨b, hb, h1⟩ := h.all v q hq
  rw [ha] at hb
  injection hb with hb
  subst hb
  unfold leL pairW at h1
  simp only at h1
  omega
theorem IsLen.none_ {es : List Ed} {t : Int} {f : DM} (h : IsLen es t f) {v : Int} (ha : f v = none) (p : List Ed) : ¬ IsW es v p t := fun hp => by
  obtain ⟨b, hb, _⟩ := h.all v p hp
  rw [ha] at hb
  cases hb
/-! ### walks there and back -/
def turnE (e : Ed) : Ed := ⟨e.eid, e.tt, e.fr, e.cst⟩
def Both (es : List Ed) : Prop := ∀ e ∈ es, ∃ d ∈ es, d.fr = e.tt ∧ d.tt = e.fr ∧ d.cst = e.cst
theorem IsW.back {es : List Ed} (hb : Both es) : ∀ {p : List Ed} {u v : Int}, IsW es u p v → ∃ q, IsW es v q u ∧ costW q = costW p
  | [], _, _, h => ⟨[], Eq.symm h, rfl⟩
  | e :: p, u, v, h => by
    obtain ⟨q, hq, hc⟩ := IsW.back hb h.2.2
    obtain ⟨d, hd, d1, d2, d3⟩ := hb e h.1
    refine ⟨q ++ [d], hq.app ⟨hd, d1, ?_⟩, ?_⟩
    · show d.tt = u
      rw [d2]; exact h.2.1
    · rw [costW_app, costW_cons, costW_cons, costW_nil, hc, d3]; omega
theorem IsCost.back {es : List Ed} (hb : Both es) {u t c : Int} (h : IsCost es u t c) : IsCost es t u c := by
  obtain ⟨⟨p, hp, rfl⟩, h2⟩ := h
  obtain ⟨q, hq, hc⟩ := hp.back hb
  refine ⟨⟨q, hq, hc⟩, fun r hr => ?_⟩
  obtain ⟨s, hs, hd⟩ := hr.back hb
  have := h2 s hs
  omega
theorem IsCost.tri {es : List Ed} {u v t a b c : Int} (h : IsCost es u v a) (k : IsCost es v t b) (m : IsCost es u t c) : c ≤ a + b := by
  obtain ⟨⟨p, hp, rfl⟩, _⟩ := h
  obtain ⟨⟨q, hq, rfl⟩, _⟩ := k
  have := m.2 (p ++ q) (hp.app hq)
  rw [costW_app] at this
  exact this
end Go.Proofs.Ytihmboibpjfohaa
