/-
  The plain law of least ways, as the reference of chapter 45 finds them: rounds over an array. No program is in sight.
-/
import Derived.Test.YtegijfmdjaehjaaGraN
namespace Go.Proofs.Ytegijfmdjaehjaa

structure Sp where
  a : Int
  b : Int
  len : Int
def nearN (old from_ step : Int) : Int := if from_ < 0 ∨ (0 ≤ old ∧ old ≤ from_ + step) then old else from_ + step
theorem nearN_old {old f s : Int} (h : 0 ≤ old) (hs : 0 ≤ s) : 0 ≤ nearN old f s ∧ nearN old f s ≤ old := by
  unfold nearN
  split <;> omega
theorem nearN_new {old f s : Int} (h : 0 ≤ f) (hs : 0 ≤ s) : 0 ≤ nearN old f s ∧ nearN old f s ≤ f + s := by
  unfold nearN
  split <;> omega
theorem nearN_is {old f s : Int} : nearN old f s = old ∨ (0 ≤ f ∧ nearN old f s = f + s) := by
  unfold nearN
  split
  · exact .inl rfl
  · exact .inr ⟨by omega, rfl⟩
/-- the index of a node -/
def atN (ids : List Int) (v : Int) : Nat := ids.findIdx (· == v)
theorem atN_lt {ids : List Int} {v : Int} (h : v ∈ ids) : atN ids v < ids.length := List.findIdx_lt_length_of_exists ⟨v, h, by simp⟩
theorem atN_get {ids : List Int} {v : Int} (h : v ∈ ids) : ids.getD (atN ids v) 0 = v := by
  have h1 := atN_lt h
  have h2 : (ids[atN ids v] == v) = true := List.findIdx_getElem (p := (· == v)) (w := h1)
  rw [List.getD_eq_getElem?_getD, List.getElem?_eq_getElem h1]
  simpa using h2
theorem atN_ne {ids : List Int} {u v : Int} (hu : u ∈ ids) (hv : v ∈ ids) (h : u ≠ v) : atN ids u ≠ atN ids v := fun e => h (by rw [← atN_get hu, ← atN_get hv, e])
theorem atN_not {ids : List Int} {v : Int} (h : v ∉ ids) : atN ids v = ids.length := List.findIdx_eq_length.2 fun x hx => by simpa using fun e : x = v => h (e ▸ hx)
def stepB (l : List Int) (a b : Nat) (c : Int) : List Int :=
  (l.set b (nearN (l.getD b 0) (l.getD a 0) c)).set a (nearN ((l.set b (nearN (l.getD b 0) (l.getD a 0) c)).getD a 0) ((l.set b (nearN (l.getD b 0) (l.getD a 0) c)).getD b 0) c)
theorem stepB_len (l : List Int) (a b : Nat) (c : Int) : (stepB l a b c).length = l.length := by simp [stepB]
def roundB (ids : List Int) (st : List Sp) (l : List Int) : List Int := st.foldl (fun l s => stepB l (atN ids s.a) (atN ids s.b) s.len) l
theorem foldB_len (ids : List Int) : ∀ (st : List Sp) (l : List Int), (st.foldl (fun l s => stepB l (atN ids s.a) (atN ids s.b) s.len) l).length = l.length
  | [], _ => rfl
  | s :: st, l => by rw [List.foldl_cons, foldB_len ids st, stepB_len]
theorem roundB_len (ids : List Int) (st : List Sp) (l : List Int) : (roundB ids st l).length = l.length := foldB_len ids st l
def roundsB (ids : List Int) (st : List Sp) : Nat → List Int → List Int
  | 0, l => l
  | n + 1, l => roundsB ids st n (roundB ids st l)
theorem roundsB_len (ids : List Int) (st : List Sp) : ∀ (n : Nat) (l : List Int), (roundsB ids st n l).length = l.length
  | 0, _ => rfl
  | n + 1, l => by rw [roundsB, roundsB_len ids st n, roundB_len]
theorem roundsB_succ (ids : List Int) (st : List Sp) : ∀ (n : Nat) (l : List Int), roundsB ids st (n + 1) l = roundB ids st (roundsB ids st n l)
  | 0, _ => rfl
  | n + 1, l => by rw [roundsB, roundsB_succ ids st n, ← roundsB]
def startB (ids : List Int) (u : Int) : List Int := (List.replicate ids.length (-1)).set (atN ids u) 0
theorem startB_len (ids : List Int) (u : Int) : (startB ids u).length = ids.length := by simp [startB]
theorem getD_setI {l : List Int} {x : Int} {a b : Nat} (hb : b < l.length) : (l.set a x).getD b 0 = if a = b then x else l.getD b 0 := by
  simp only [List.getD_eq_getElem?_getD, List.getElem?_set]
  by_cases h : a = b
  · subst h; simp [hb]
  · simp [h]

/-- one way of looking at the numbers: what is written at the node v -/
def valB (ids : List Int) (l : List Int) (v : Int) : Int := l.getD (atN ids v) 0
def LessB (ids : List Int) (f g : List Int) : Prop := ∀ v ∈ ids, 0 ≤ valB ids f v → 0 ≤ valB ids g v ∧ valB ids g v ≤ valB ids f v
theorem LessB.refl (ids f : List Int) : LessB ids f f := fun _ _ h => ⟨h, Int.le_refl _⟩
theorem LessB.trans {ids f g h : List Int} (a : LessB ids f g) (b : LessB ids g h) : LessB ids f h := fun v hv h0 => by
  obtain ⟨h1, h2⟩ := a v hv h0
  obtain ⟨h3, h4⟩ := b v hv h1
  exact ⟨h3, Int.le_trans h4 h2⟩
structure RelB (ids : List Int) (st : List Sp) (es : List Ed) : Prop where
  ins : ∀ s ∈ st, s.a ∈ ids ∧ s.b ∈ ids ∧ 0 ≤ s.len
  out : ∀ s ∈ st, (∃ e ∈ es, e.fr = s.a ∧ e.tt = s.b ∧ e.cst = s.len) ∧ ∃ e ∈ es, e.fr = s.b ∧ e.tt = s.a ∧ e.cst = s.len
  inn : ∀ e ∈ es, ∃ s ∈ st, (e.fr = s.a ∧ e.tt = s.b ∧ e.cst = s.len) ∨ (e.fr = s.b ∧ e.tt = s.a ∧ e.cst = s.len)
theorem RelB.both {ids : List Int} {st : List Sp} {es : List Ed} (h : RelB ids st es) : Both es := fun e he => by
  obtain ⟨s, hs, h1 | h1⟩ := h.inn e he
  · obtain ⟨_, d, hd, d1, d2, d3⟩ := h.out s hs
    exact ⟨d, hd, by rw [d1, h1.2.1], by rw [d2, h1.1], by rw [d3, h1.2.2]⟩
  · obtain ⟨⟨d, hd, d1, d2, d3⟩, _⟩ := h.out s hs
    exact ⟨d, hd, by rw [d1, h1.2.1], by rw [d2, h1.1], by rw [d3, h1.2.2]⟩
theorem RelB.cost {ids : List Int} {st : List Sp} {es : List Ed} (h : RelB ids st es) : ∀ e ∈ es, 0 ≤ e.cst := fun e he => by
  obtain ⟨s, hs, h1 | h1⟩ := h.inn e he <;> rw [h1.2.2] <;> exact (h.ins s hs).2.2
theorem RelB.frm {ids : List Int} {st : List Sp} {es : List Ed} (h : RelB ids st es) : ∀ e ∈ es, e.fr ∈ ids ∧ e.tt ∈ ids := fun e he => by
  obtain ⟨s, hs, h1 | h1⟩ := h.inn e he <;> rw [h1.1, h1.2.1]
  · exact ⟨(h.ins s hs).1, (h.ins s hs).2.1⟩
  · exact ⟨(h.ins s hs).2.1, (h.ins s hs).1⟩
def SoundB (ids : List Int) (es : List Ed) (u : Int) (l : List Int) : Prop := ∀ v ∈ ids, valB ids l v = -1 ∨ ∃ p, IsW es v p u ∧ costW p = valB ids l v
def UptoB (ids : List Int) (es : List Ed) (u : Int) (n : Nat) (l : List Int) : Prop := ∀ v ∈ ids, ∀ p, IsW es v p u → p.length ≤ n → 0 ≤ valB ids l v ∧ valB ids l v ≤ costW p
section
variable {ids : List Int} {l : List Int} {a b : Int} {c : Int}
theorem val_set (hl : l.length = ids.length) (x : Int) {v w : Int} (hv : v ∈ ids) (hw : w ∈ ids) : valB ids (l.set (atN ids w) x) v = if w = v then x else valB ids l v := by
  unfold valB
  rw [getD_setI (by rw [hl]; exact atN_lt hv)]
  by_cases e : w = v
  · subst e; simp
  · rw [if_neg (atN_ne hw hv e), if_neg e]
/-- what a step leaves at the nodes -/
theorem val_step (hl : l.length = ids.length) (ha : a ∈ ids) (hb : b ∈ ids) {v : Int} (hv : v ∈ ids) : valB ids (stepB l (atN ids a) (atN ids b) c) v =
    if a = v then nearN (if b = a then nearN (valB ids l b) (valB ids l a) c else valB ids l a) (nearN (valB ids l b) (valB ids l a) c) c else if b = v then nearN (valB ids l b) (valB ids l a) c else valB ids l v := by
  have e1 : (l.set (atN ids b) (nearN (valB ids l b) (valB ids l a) c)).getD (atN ids a) 0 = if b = a then nearN (valB ids l b) (valB ids l a) c else valB ids l a := val_set hl _ ha hb
  have e2 : (l.set (atN ids b) (nearN (valB ids l b) (valB ids l a) c)).getD (atN ids b) 0 = nearN (valB ids l b) (valB ids l a) c := by
    have := val_set hl (nearN (valB ids l b) (valB ids l a) c) hb hb
    rwa [if_pos rfl] at this
  have : stepB l (atN ids a) (atN ids b) c = (l.set (atN ids b) (nearN (valB ids l b) (valB ids l a) c)).set (atN ids a) (nearN (if b = a then nearN (valB ids l b) (valB ids l a) c else valB ids l a) (nearN (valB ids l b) (valB ids l a) c) c) := by
    unfold stepB
    rw [show l.getD (atN ids b) 0 = valB ids l b from rfl, show l.getD (atN ids a) 0 = valB ids l a from rfl, e1, e2]
  rw [this, val_set (by rw [List.length_set, hl]) _ hv ha, val_set hl _ hv hb]
theorem step_less (hl : l.length = ids.length) (ha : a ∈ ids) (hb : b ∈ ids) (hc : 0 ≤ c) : LessB ids l (stepB l (atN ids a) (atN ids b) c) := fun v hv h0 => by
  rw [val_step hl ha hb hv]
  by_cases e1 : a = v
  · subst e1
    rw [if_pos rfl]
    by_cases e2 : b = a
    · subst e2
      rw [if_pos rfl]
      obtain ⟨h1, h2⟩ := nearN_old (f := valB ids l b) h0 hc
      obtain ⟨h3, h4⟩ := nearN_old (f := nearN (valB ids l b) (valB ids l b) c) h1 hc
      omega
    · rw [if_neg e2]
      exact nearN_old h0 hc
  · rw [if_neg e1]
    by_cases e2 : b = v
    · subst e2
      rw [if_pos rfl]
      exact nearN_old h0 hc
    · rw [if_neg e2]
      exact ⟨h0, Int.le_refl _⟩
/-- both directions of a step are satisfied -/
theorem step_edge (hl : l.length = ids.length) (ha : a ∈ ids) (hb : b ∈ ids) (hc : 0 ≤ c) :
    (0 ≤ valB ids l a → 0 ≤ valB ids (stepB l (atN ids a) (atN ids b) c) b ∧ valB ids (stepB l (atN ids a) (atN ids b) c) b ≤ valB ids l a + c) ∧
    (0 ≤ valB ids l b → 0 ≤ valB ids (stepB l (atN ids a) (atN ids b) c) a ∧ valB ids (stepB l (atN ids a) (atN ids b) c) a ≤ valB ids l b + c) := by
  refine ⟨fun h0 => ?_, fun h0 => ?_⟩
  · rw [val_step hl ha hb hb]
    obtain ⟨h1, h2⟩ := nearN_new (old := valB ids l b) h0 hc
    by_cases e : a = b
    · subst e
      rw [if_pos rfl, if_pos rfl]
      obtain ⟨h3, h4⟩ := nearN_old (f := nearN (valB ids l a) (valB ids l a) c) h1 hc
      omega
    · rw [if_neg e, if_pos rfl]
      exact ⟨h1, h2⟩
  · rw [val_step hl ha hb ha, if_pos rfl]
    obtain ⟨h1, h2⟩ := nearN_old (f := valB ids l a) h0 hc
    obtain ⟨h3, h4⟩ := nearN_new (old := if b = a then nearN (valB ids l b) (valB ids l a) c else valB ids l a) h1 hc
    omega
theorem step_sound {es : List Ed} {u : Int} (hl : l.length = ids.length) (ha : a ∈ ids) (hb : b ∈ ids) (h1 : ∃ e ∈ es, e.fr = a ∧ e.tt = b ∧ e.cst = c) (h2 : ∃ e ∈ es, e.fr = b ∧ e.tt = a ∧ e.cst = c) (h : SoundB ids es u l) : SoundB ids es u (stepB l (atN ids a) (atN ids b) c) := by
  have key : ∀ {x y : Int}, (∃ e ∈ es, e.fr = x ∧ e.tt = y ∧ e.cst = c) → ∀ {m n : Int}, (m = -1 ∨ ∃ p, IsW es y p u ∧ costW p = m) → (n = -1 ∨ ∃ p, IsW es x p u ∧ costW p = n) → (nearN n m c = -1 ∨ ∃ p, IsW es x p u ∧ costW p = nearN n m c) := by
    intro x y he m n hm hn
    obtain ⟨e, he, e1, e2, e3⟩ := he
    rcases nearN_is (old := n) (f := m) (s := c) with h | ⟨h0, h⟩
    · rw [h]; exact hn
    · rcases hm with hm | ⟨p, hp, hpc⟩
      · omega
      · rw [h]
        exact .inr ⟨e :: p, ⟨he, e1, by rw [e2]; exact hp⟩, by rw [costW_cons, hpc, e3]; omega⟩
  have hB := key h2 (h a ha) (h b hb)
  intro v hv
  rw [val_step hl ha hb hv]
  by_cases e1 : a = v
  · subst e1
    rw [if_pos rfl]
    by_cases e2 : b = a
    · subst e2
      rw [if_pos rfl]
      exact key h1 hB hB
    · rw [if_neg e2]
      exact key h1 hB (h a ha)
  · rw [if_neg e1]
    by_cases e2 : b = v
    · subst e2
      rw [if_pos rfl]
      exact hB
    · rw [if_neg e2]
      exact h v hv
end
section
variable {ids : List Int} {st : List Sp} {es : List Ed}
theorem foldB_less (hin : ∀ s ∈ st, s.a ∈ ids ∧ s.b ∈ ids ∧ 0 ≤ s.len) : ∀ (l : List Int), l.length = ids.length → LessB ids l (st.foldl (fun l s => stepB l (atN ids s.a) (atN ids s.b) s.len) l) := by
  induction st with
  | nil => exact fun l _ => LessB.refl _ _
  | cons s st ih =>
    intro l hl
    obtain ⟨h1, h2, h3⟩ := hin s (by simp)
    exact (step_less hl h1 h2 h3).trans (ih (fun x hx => hin x (by simp [hx])) _ (by rw [stepB_len, hl]))
theorem foldB_edge (hin : ∀ s ∈ st, s.a ∈ ids ∧ s.b ∈ ids ∧ 0 ≤ s.len) : ∀ (l : List Int), l.length = ids.length → ∀ s ∈ st,
    (0 ≤ valB ids l s.a → 0 ≤ valB ids (st.foldl (fun l s => stepB l (atN ids s.a) (atN ids s.b) s.len) l) s.b ∧ valB ids (st.foldl (fun l s => stepB l (atN ids s.a) (atN ids s.b) s.len) l) s.b ≤ valB ids l s.a + s.len) ∧
    (0 ≤ valB ids l s.b → 0 ≤ valB ids (st.foldl (fun l s => stepB l (atN ids s.a) (atN ids s.b) s.len) l) s.a ∧ valB ids (st.foldl (fun l s => stepB l (atN ids s.a) (atN ids s.b) s.len) l) s.a ≤ valB ids l s.b + s.len) := by
  induction st with
  | nil => exact fun l _ s hs => by cases hs
  | cons x st ih =>
    intro l hl s hs
    obtain ⟨h1, h2, h3⟩ := hin x (by simp)
    have hl' : (stepB l (atN ids x.a) (atN ids x.b) x.len).length = ids.length := by rw [stepB_len, hl]
    rw [List.foldl_cons]
    rcases List.mem_cons.1 hs with rfl | hs
    · obtain ⟨e1, e2⟩ := step_edge hl h1 h2 h3
      have hle := foldB_less (st := st) (fun x hx => hin x (by simp [hx])) _ hl'
      refine ⟨fun h0 => ?_, fun h0 => ?_⟩
      · obtain ⟨g1, g2⟩ := e1 h0
        obtain ⟨g3, g4⟩ := hle s.b h2 g1
        omega
      · obtain ⟨g1, g2⟩ := e2 h0
        obtain ⟨g3, g4⟩ := hle s.a h1 g1
        omega
    · obtain ⟨k1, k2, k3⟩ := hin s (by simp [hs])
      have hle := step_less hl h1 h2 h3
      obtain ⟨e1, e2⟩ := ih (fun x hx => hin x (by simp [hx])) _ hl' s hs
      refine ⟨fun h0 => ?_, fun h0 => ?_⟩
      · obtain ⟨g1, g2⟩ := hle s.a k1 h0
        obtain ⟨g3, g4⟩ := e1 g1
        omega
      · obtain ⟨g1, g2⟩ := hle s.b k2 h0
        obtain ⟨g3, g4⟩ := e2 g1
        omega
theorem foldB_sound {u : Int} (hin : ∀ s ∈ st, s.a ∈ ids ∧ s.b ∈ ids ∧ 0 ≤ s.len) (hout : ∀ s ∈ st, (∃ e ∈ es, e.fr = s.a ∧ e.tt = s.b ∧ e.cst = s.len) ∧ ∃ e ∈ es, e.fr = s.b ∧ e.tt = s.a ∧ e.cst = s.len) : ∀ (l : List Int), l.length = ids.length → SoundB ids es u l → SoundB ids es u (st.foldl (fun l s => stepB l (atN ids s.a) (atN ids s.b) s.len) l) := by
  induction st with
  | nil => exact fun l _ h => h
  | cons s st ih =>
    intro l hl h
    obtain ⟨h1, h2, _⟩ := hin s (by simp)
    obtain ⟨g1, g2⟩ := hout s (by simp)
    exact ih (fun x hx => hin x (by simp [hx])) (fun x hx => hout x (by simp [hx])) _ (by rw [stepB_len, hl]) (step_sound hl h1 h2 g1 g2 h)
theorem roundsB_upto {u : Int} (h : RelB ids st es) (hu : u ∈ ids) : ∀ (n : Nat), SoundB ids es u (roundsB ids st n (startB ids u)) ∧ UptoB ids es u n (roundsB ids st n (startB ids u)) ∧ 0 ≤ valB ids (roundsB ids st n (startB ids u)) u ∧ valB ids (roundsB ids st n (startB ids u)) u ≤ 0 := by
  have hs0 : ∀ v ∈ ids, valB ids (startB ids u) v = if u = v then 0 else -1 := fun v hv => by
    have := val_set (ids := ids) (l := List.replicate ids.length (-1)) (by simp) 0 hv hu
    rw [startB, this]
    by_cases e : u = v
    · rw [if_pos e, if_pos e]
    · rw [if_neg e, if_neg e]
      unfold valB
      simp [List.getD_eq_getElem?_getD, atN_lt hv]
  intro n
  induction n with
  | zero =>
    refine ⟨fun v hv => ?_, fun v hv p hp hl => ?_, ?_, ?_⟩
    · rw [roundsB, hs0 v hv]
      by_cases e : u = v
      · rw [if_pos e]; exact .inr ⟨[], e.symm, rfl⟩
      · rw [if_neg e]; exact .inl rfl
    · have : p = [] := List.eq_nil_of_length_eq_zero (by omega)
      subst this
      have e : v = u := hp
      rw [roundsB, hs0 v hv, if_pos e.symm, costW_nil]
      omega
    · rw [roundsB, hs0 u hu, if_pos rfl]; omega
    · rw [roundsB, hs0 u hu, if_pos rfl]; omega
  | succ n ih =>
    obtain ⟨i1, i2, i3, i4⟩ := ih
    rw [roundsB_succ]
    have hl : (roundsB ids st n (startB ids u)).length = ids.length := by rw [roundsB_len, startB_len]
    have hle := foldB_less h.ins _ hl
    refine ⟨foldB_sound h.ins h.out _ hl i1, fun v hv p hp hpl => ?_, (hle u hu i3).1, Int.le_trans (hle u hu i3).2 i4⟩
    match p, hp with
    | [], hp =>
      have e : v = u := hp
      subst e
      have := hle v hv i3
      rw [costW_nil]
      exact ⟨this.1, Int.le_trans this.2 i4⟩
    | e :: p, hp =>
      have he := h.frm e hp.1
      obtain ⟨j1, j2⟩ := i2 e.tt he.2 p hp.2.2 (by simpa using hpl)
      obtain ⟨s, hs, h1 | h1⟩ := h.inn e hp.1
      · obtain ⟨_, g⟩ := foldB_edge h.ins _ hl s hs
        rw [← h1.1, ← h1.2.1, ← h1.2.2, hp.2.1] at g
        obtain ⟨g1, g2⟩ := g j1
        rw [costW_cons]
        exact ⟨g1, by show valB ids (roundB ids st _) v ≤ _; unfold roundB; omega⟩
      · obtain ⟨g, _⟩ := foldB_edge h.ins _ hl s hs
        rw [← h1.1, ← h1.2.1, ← h1.2.2, hp.2.1] at g
        obtain ⟨g1, g2⟩ := g j1
        rw [costW_cons]
        exact ⟨g1, by show valB ids (roundB ids st _) v ≤ _; unfold roundB; omega⟩
/-- behind as many rounds as there are nodes: the least cost, or -1 where there is no walk -/
theorem roundsB_is {u v : Int} (h : RelB ids st es) (hu : u ∈ ids) (hv : v ∈ ids) :
    (valB ids (roundsB ids st ids.length (startB ids u)) v = -1 ∧ ∀ p, ¬ IsW es u p v) ∨ (0 ≤ valB ids (roundsB ids st ids.length (startB ids u)) v ∧ IsCost es u v (valB ids (roundsB ids st ids.length (startB ids u)) v)) := by
  obtain ⟨h1, h2, _, _⟩ := roundsB_upto h hu ids.length
  have hall : ∀ p, IsW es v p u → 0 ≤ valB ids (roundsB ids st ids.length (startB ids u)) v ∧ valB ids (roundsB ids st ids.length (startB ids u)) v ≤ costW p := fun p hp => by
    obtain ⟨q, g1, g2, g3, g4⟩ := IsW.simple h.cost p.length (Nat.le_refl _) hp
    have := h2 v hv q g1 (simple_len g2 ids fun e he => (h.frm e (g1.mem e he)).1)
    exact ⟨this.1, Int.le_trans this.2 g3⟩
  rcases h1 v hv with e | ⟨p, hp, hc⟩
  · refine .inl ⟨e, fun p hp => ?_⟩
    obtain ⟨q, hq, _⟩ := hp.back h.both
    have := (hall q hq).1
    omega
  · refine .inr ⟨(hall p hp).1, IsCost.back h.both ⟨⟨p, hp, hc⟩, fun q hq => (hall q hq).2⟩⟩
end
end Go.Proofs.Ytegijfmdjaehjaa
