/-
  The plain law of decoding a medium. No program is in sight.
-/
import Derived.Test.YthlhphifibldnaaMedN
namespace Go.Proofs.Ythlhphifibldnaa

/-- a body of eight numbers and eight bytes -/
def Enc8 (body : List UInt8) (L : List Int) (tl : List UInt8) : Prop := L.length = 8 ∧ (∀ z ∈ L, 0 ≤ z ∧ z ≤ 20000001) ∧ tl.length = 8 ∧ body = putsN L ++ tl
def de8 (l : List UInt8) : Nat := l.foldl (fun s c => s * 256 + c.toNat) 0
theorem de8_snoc (l : List UInt8) (c : UInt8) : de8 (l ++ [c]) = de8 l * 256 + c.toNat := by simp [de8]
theorem de8_lt : ∀ l : List UInt8, de8 l < 256 ^ l.length := by
  intro l
  have key : ∀ (l : List UInt8) (s : Nat), l.foldl (fun s c => s * 256 + c.toNat) s < (s + 1) * 256 ^ l.length := by
    intro l
    induction l with
    | nil => intro s; simp
    | cons c l ih =>
      intro s
      have h := ih (s * 256 + c.toNat)
      have hc := c.toNat_lt
      simp only [List.foldl_cons, List.length_cons]
      refine Nat.lt_of_lt_of_le h ?_
      rw [Nat.pow_succ, Nat.mul_comm (256 ^ l.length) 256, ← Nat.mul_assoc]
      exact Nat.mul_le_mul_right _ (by omega)
  have := key l 0
  unfold de8
  simpa using this
theorem de8_be8 (T : Nat) (h : T < 18446744073709551616) : de8 (be8 T) = T := by
  simp only [de8, be8, List.foldl_cons, List.foldl_nil, UInt8.toNat_ofNat']
  omega
theorem be8_len (T : Nat) : (be8 T).length = 8 := rfl
/-- the medium of eight numbers and a tag -/
def mkM (L : List Int) (T : Nat) : Med := ⟨L.getD 0 0, L.getD 1 0, L.getD 2 0, L.getD 3 0 - 1, L.getD 4 0, L.getD 5 0 - 1, L.getD 6 0, L.getD 7 0 - 1, (T : Int)⟩
def zeroM : Med := ⟨0, 0, 0, 0, 0, 0, 0, 0, 0⟩
def GoodM (m : Med) : Prop := RangeM m ∧ StateM m ∧ ∃ T : Nat, T < 18446744073709551616 ∧ m.tag = (T : Int)
theorem mkM_back (m : Med) (T : Nat) (ht : m.tag = (T : Int)) (hT : T < 18446744073709551616) : mkM (bodyL m) (de8 (be8 T)) = m := by
  rw [de8_be8 T hT]
  obtain ⟨a, b, c, d, e, f, g, i, t⟩ := m
  simp only at ht
  subst ht
  simp [mkM, bodyL]
theorem enc8_of {m : Med} (h : RangeM m) (T : Nat) : Enc8 (bodyN m ++ be8 T) (bodyL m) (be8 T) := by
  refine ⟨rfl, ?_, be8_len T, rfl⟩
  obtain ⟨h1, h2, h3, h4, h5, h6, h7, h8, h9, h10, h11, h12, h13, h14, h15, h16⟩ := h
  intro z hz
  simp only [bodyL, List.mem_cons, List.not_mem_nil, or_false] at hz
  rcases hz with rfl | rfl | rfl | rfl | rfl | rfl | rfl | rfl <;> omega

/-! ### reading the numbers -/
/-- after k numbers: the rest is r, the numbers are f -/
def InvP (body : List UInt8) (k : Nat) (r : List UInt8) (f : List Int) : Prop := ∀ L tl, Enc8 body L tl → r = putsN (L.drop k) ++ tl ∧ f = L.take k
theorem inv_0 (body : List UInt8) : InvP body 0 body [] := fun L tl h => ⟨by simpa using h.2.2.2, by simp⟩
theorem getN_next {L : List Int} (hL : ∀ z ∈ L, 0 ≤ z ∧ z ≤ 20000001) (k : Nat) (hk : k < L.length) (tl : List UInt8) :
    getN (putsN (L.drop k) ++ tl) = ((L.getD k 0).toNat, (putN (L.getD k 0).toNat).length, 0) ∧ putsN (L.drop k) = putN (L.getD k 0).toNat ++ putsN (L.drop (k + 1)) := by
  have e : L.getD k 0 = L[k] := by simp [List.getElem?_eq_getElem hk]
  have e2 : putsN (L.drop k) = putN (L.getD k 0).toNat ++ putsN (L.drop (k + 1)) := by
    have e3 : L.drop k = L[k] :: L.drop (k + 1) := List.drop_eq_getElem_cons hk
    rw [e3, e]
    rfl
  refine ⟨?_, e2⟩
  rw [e2, List.append_assoc]
  refine getN_put _ ?_ _
  have := hL _ (List.getElem_mem hk)
  rw [e]
  omega
theorem inv_step {body r : List UInt8} {k N K : Nat} {f : List Int} (h : InvP body k r f) (hk : k < 8) (hg : getN r = (N, K, 0)) : InvP body (k + 1) (r.drop K) (f ++ [(N : Int)]) := by
  intro L tl hE
  obtain ⟨h1, h2⟩ := h L tl hE
  obtain ⟨g1, g2⟩ := getN_next hE.2.1 k (by rw [hE.1]; exact hk) tl
  rw [h1, g1] at hg
  injection hg with a1 a2
  injection a2 with a2 _
  have hkl : k < L.length := by rw [hE.1]; exact hk
  have e : L.getD k 0 = L[k] := by simp [List.getElem?_eq_getElem hkl]
  refine ⟨?_, ?_⟩
  · rw [h1, g2, ← a2, List.append_assoc, List.drop_left]
  · rw [List.take_succ_eq_append_getElem hkl, h2, ← a1, e]
    have := hE.2.1 _ (List.getElem_mem hkl)
    congr 2
    omega
theorem inv_bad {body r : List UInt8} {k N K E : Nat} {f : List Int} (h : InvP body k r f) (hk : k < 8) (hg : getN r = (N, K, E)) (hE : E ≠ 0 ∨ 20000001 < N) (L : List Int) (tl : List UInt8) : ¬ Enc8 body L tl := by
  intro hE8
  obtain ⟨h1, h2⟩ := h L tl hE8
  have hkl : k < L.length := by rw [hE8.1]; exact hk
  obtain ⟨g1, g2⟩ := getN_next hE8.2.1 k hkl tl
  rw [h1, g1] at hg
  injection hg with a1 a2
  injection a2 with a2 a3
  have e : L.getD k 0 = L[k] := by simp [List.getElem?_eq_getElem hkl]
  have := hE8.2.1 _ (List.getElem_mem hkl)
  rw [e] at a1
  omega
/-- what was parsed: the medium of the numbers, if the body is that of one -/
def ParseP (body : List UInt8) (m : Med) (ok : Bool) : Prop := ∀ L tl, Enc8 body L tl → ok = true ∧ m = mkM L (de8 tl)
theorem parse_none {body : List UInt8} {m : Med} {ok : Bool} (h : ∀ L tl, ¬ Enc8 body L tl) : ParseP body m ok := fun L tl hE => (h L tl hE).elim
theorem parse_short {body r : List UInt8} {f : List Int} (h : InvP body 8 r f) (hr : r.length ≠ 8) : ∀ L tl, ¬ Enc8 body L tl := by
  intro L tl hE
  obtain ⟨h1, _⟩ := h L tl hE
  rw [List.drop_of_length_le (by rw [hE.1]; exact Nat.le_refl _)] at h1
  simp only [putsN, List.flatMap_nil, List.nil_append] at h1
  exact hr (by rw [h1]; exact hE.2.2.1)
theorem parse_end {body r : List UInt8} {f : List Int} (h : InvP body 8 r f) (T : Nat) (hT : r.length = 8 → T = de8 r) : ParseP body (mkM f T) true := by
  intro L tl hE
  obtain ⟨h1, h2⟩ := h L tl hE
  rw [List.drop_of_length_le (by rw [hE.1]; exact Nat.le_refl _)] at h1
  simp only [putsN, List.flatMap_nil, List.nil_append] at h1
  rw [List.take_of_length_le (by rw [hE.1]; exact Nat.le_refl _)] at h2
  subst h1 h2
  exact ⟨rfl, by rw [hT hE.2.2.1]⟩

/-! ### decoding -/
/-- what Decode returns -/
def DecP (l : List UInt8) (m : Med) (e : Int) : Prop := ∃ (body : List UInt8) (k E : Nat), unfG l = (body, k, E) ∧
  ((E ≠ 0 ∧ m = zeroM ∧ e = (E : Int)) ∨ (E = 0 ∧ k < l.length ∧ m = zeroM ∧ e = 4) ∨
    (E = 0 ∧ k = l.length ∧ ((GoodM m ∧ encN m = l ∧ e = 0) ∨ ((∀ m', GoodM m' → encN m' ≠ l) ∧ m = zeroM ∧ e = 3))))
theorem encN_unf {m : Med} (h : GoodM m) : ∃ T : Nat, T < 18446744073709551616 ∧ m.tag = (T : Int) ∧ unfG (encN m) = (bodyN m ++ be8 T, (encN m).length, 0) := by
  obtain ⟨h1, h2, T, h3, h4⟩ := h
  refine ⟨T, h3, h4, ?_⟩
  have e : encN m = frameN (bodyN m ++ be8 T) := by rw [encN, h4]; rfl
  have hb := unfG_back (bodyN m ++ be8 T) [] (by rw [List.length_append, be8_len]; have := bodyN_len m; omega)
  rw [List.append_nil] at hb
  rw [e, hb]
theorem parse_good {l body : List UInt8} {k E : Nat} {m m' : Med} {ok : Bool} (hu : unfG l = (body, k, E)) (hp : ParseP body m ok) (hg : GoodM m') (he : encN m' = l) : ok = true ∧ m = m' ∧ k = l.length ∧ E = 0 := by
  obtain ⟨T, h1, h2, h3⟩ := encN_unf hg
  rw [he, hu] at h3
  injection h3 with a1 a2
  injection a2 with a2 a3
  subst a1
  obtain ⟨b1, b2⟩ := hp _ _ (enc8_of hg.1 T)
  rw [mkM_back m' T h2 h1] at b2
  exact ⟨b1, b2, a2, a3⟩
theorem encN_inj {m m' : Med} (h : GoodM m) (h' : GoodM m') (he : encN m = encN m') : m = m' := by
  obtain ⟨T, h1, h2, h3⟩ := encN_unf h
  obtain ⟨T', h1', h2', h3'⟩ := encN_unf h'
  have hp : ParseP (bodyN m ++ be8 T) m true := by
    intro L tl hE
    -- reading from the start gives the numbers back, so both agree
    have hE2 := enc8_of h.1 T
    refine ⟨rfl, ?_⟩
    have key : ∀ k, k ≤ 8 → ∃ r f, (∀ L tl, Enc8 (bodyN m ++ be8 T) L tl → r = putsN (L.drop k) ++ tl ∧ f = L.take k) := by
      intro k
      induction k with
      | zero => intro _; exact ⟨_, _, inv_0 _⟩
      | succ k ih =>
        intro hk
        obtain ⟨r, f, hi⟩ := ih (by omega)
        obtain ⟨g1, _⟩ := getN_next hE2.2.1 k (by rw [hE2.1]; omega) (be8 T)
        rw [← (hi _ _ hE2).1] at g1
        exact ⟨_, _, inv_step hi (by omega) g1⟩
    obtain ⟨r, f, hi⟩ := key 8 (Nat.le_refl _)
    obtain ⟨a1, a2⟩ := hi _ _ hE
    obtain ⟨b1, b2⟩ := hi _ _ hE2
    rw [List.take_of_length_le (by rw [hE.1]; exact Nat.le_refl _)] at a2
    rw [List.take_of_length_le (by rw [hE2.1]; exact Nat.le_refl _)] at b2
    rw [List.drop_of_length_le (by rw [hE.1]; exact Nat.le_refl _)] at a1
    rw [List.drop_of_length_le (by rw [hE2.1]; exact Nat.le_refl _)] at b1
    have eL : L = bodyL m := by rw [← a2, ← b2]
    have et : tl = be8 T := by simpa [putsN] using a1.symm.trans b1
    rw [eL, et, mkM_back m T h2 h1]
  exact (parse_good h3 hp h' he.symm).2.1
theorem DecP.unique {l : List UInt8} {m m' : Med} {e e' : Int} (h : DecP l m e) (h' : DecP l m' e') : m = m' ∧ e = e' := by
  obtain ⟨b, k, E, hu, hc⟩ := h
  obtain ⟨b', k', E', hu', hc'⟩ := h'
  rw [hu] at hu'
  injection hu' with a1 a2
  injection a2 with a2 a3
  subst a1 a2 a3
  rcases hc with ⟨c1, rfl, rfl⟩ | ⟨c1, c2, rfl, rfl⟩ | ⟨c1, c2, hx⟩ <;> rcases hc' with ⟨d1, rfl, rfl⟩ | ⟨d1, d2, rfl, rfl⟩ | ⟨d1, d2, hy⟩
  · exact ⟨rfl, rfl⟩
  · exact (c1 d1).elim
  · exact (c1 d1).elim
  · exact (d1 c1).elim
  · exact ⟨rfl, rfl⟩
  · omega
  · exact (d1 c1).elim
  · omega
  · rcases hx with ⟨x1, x2, rfl⟩ | ⟨x1, rfl, rfl⟩ <;> rcases hy with ⟨y1, y2, rfl⟩ | ⟨y1, rfl, rfl⟩
    · exact ⟨encN_inj x1 y1 (x2.trans y2.symm), rfl⟩
    · exact (y1 _ x1 x2).elim
    · exact (x1 _ y1 y2).elim
    · exact ⟨rfl, rfl⟩
theorem dec_err {l body : List UInt8} {k E : Nat} (hu : unfG l = (body, k, E)) (hE : E ≠ 0) : DecP l zeroM (E : Int) := ⟨body, k, E, hu, .inl ⟨hE, rfl, rfl⟩⟩
theorem dec_long {l body : List UInt8} {k E : Nat} (hu : unfG l = (body, k, E)) (hE : E = 0) (hk : k < l.length) : DecP l zeroM 4 := ⟨body, k, E, hu, .inr (.inl ⟨hE, hk, rfl, rfl⟩)⟩
theorem dec_no {l body : List UInt8} {k E : Nat} {m : Med} {ok : Bool} (hu : unfG l = (body, k, E)) (hE : E = 0) (hk : k = l.length) (hp : ParseP body m ok) (h : ok = false ∨ ¬ (RangeM m ∧ StateM m) ∨ encN m ≠ l) : DecP l zeroM 3 := by
  refine ⟨body, k, E, hu, .inr (.inr ⟨hE, hk, .inr ⟨fun m' hg he => ?_, rfl, rfl⟩⟩)⟩
  obtain ⟨a1, a2, _⟩ := parse_good hu hp hg he
  subst a2
  rcases h with h | h | h
  · rw [a1] at h; cases h
  · exact h ⟨hg.1, hg.2.1⟩
  · exact h he
theorem dec_yes {l body : List UInt8} {k E : Nat} {m : Med} (hu : unfG l = (body, k, E)) (hE : E = 0) (hk : k = l.length) (hg : GoodM m) (he : encN m = l) : DecP l m 0 := ⟨body, k, E, hu, .inr (.inr ⟨hE, hk, .inl ⟨hg, he, rfl⟩⟩)⟩
/-- what was written is decoded -/
theorem dec_back {m : Med} (hg : GoodM m) : DecP (encN m) m 0 := by
  obtain ⟨T, _, _, h3⟩ := encN_unf hg
  exact dec_yes h3 rfl rfl hg rfl
/-- what was written, and a byte more -/
theorem dec_more {m : Med} (hg : GoodM m) (x : UInt8) (rest : List UInt8) : DecP (encN m ++ x :: rest) zeroM 4 := by
  obtain ⟨_, _, T, h3, h4⟩ := hg
  have e : encN m = frameN (bodyN m ++ be8 T) := by rw [encN, h4]; rfl
  have hb := unfG_back (bodyN m ++ be8 T) (x :: rest) (by rw [List.length_append, be8_len]; have := bodyN_len m; omega)
  rw [← e] at hb
  exact dec_long hb rfl (by simp)
end Go.Proofs.Ythlhphifibldnaa
