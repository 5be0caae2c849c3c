/-
  The plain law of chapter 3, on reading back what was put, on forms, and on damage.
-/
import Derived.Test.YtdmkkpnjakdnnaaCodecN
namespace Go.Proofs.Ytdmkkpnjakdnnaa

def toI (l : List Nat) : List Int := l.map fun n : Nat => (n : Int)
theorem take_two (l : List UInt8) (a b : Nat) : l.take (a + b) = l.take a ++ (l.drop a).take b := List.take_add

/-! ### forms -/
theorem textG_form {l t : List UInt8} {k : Nat} (h : textG l = (t, k, 0)) : 1 ≤ k ∧ k ≤ l.length ∧ t.length ≤ 2000 ∧ textP t = l.take k := by
  unfold textG at h
  rcases getN_cases l with ⟨N, K, hg, hk1, hk9, hkl, hN, hp, _⟩ | ⟨E, hg, hE, _⟩
  · rw [hg] at h
    simp only [ne_eq, not_true_eq_false, if_false] at h
    split at h
    · simp at h
    · split at h
      · simp at h
      · simp only [Prod.mk.injEq] at h
        obtain ⟨rfl, rfl, _⟩ := h
        have hl : ((l.drop K).take N).length = N := by rw [List.length_take, List.length_drop]; omega
        refine ⟨by omega, by omega, by omega, ?_⟩
        rw [textP, hl, hp, take_two]
  · rw [hg, if_pos hE] at h
    simp only [Prod.mk.injEq] at h
    exact (hE h.2.2).elim
theorem numsG_form (l : List UInt8) : ∀ (c at_ : Nat) (out t : List Nat) (k : Nat), at_ ≤ l.length → numsG l c at_ out = (t, k, 0) →
    ∃ more, t = out ++ more ∧ more.length = c ∧ at_ ≤ k ∧ k ≤ l.length ∧ (∀ x ∈ more, x < 9223372036854775808) ∧ putsN (toI more) = (l.drop at_).take (k - at_) := by
  intro c
  induction c with
  | zero =>
    intro at_ out t k hl h
    simp only [numsG, Prod.mk.injEq] at h
    obtain ⟨rfl, rfl, _⟩ := h
    exact ⟨[], by simp, rfl, Nat.le_refl _, hl, by simp, by simp [toI, putsN]⟩
  | succ c ih =>
    intro at_ out t k hl h
    rw [numsG] at h
    rcases getN_cases (l.drop at_) with ⟨N, K, hg, hk1, hk9, hkl, hN, hp, _⟩ | ⟨E, hg, hE, _⟩
    · rw [hg] at h
      simp only [ne_eq, not_true_eq_false, if_false] at h
      rw [List.length_drop] at hkl
      obtain ⟨more, rfl, hml, h1, h2, h3, h4⟩ := ih (at_ + K) (out ++ [N]) t k (by omega) h
      refine ⟨N :: more, by simp, by simp [hml], by omega, h2, ?_, ?_⟩
      · intro x hx
        rcases List.mem_cons.1 hx with rfl | hx
        · exact hN
        · exact h3 x hx
      · have e : putsN (toI (N :: more)) = putN N ++ putsN (toI more) := by simp [toI, putsN]
        rw [e, hp, h4, show k - at_ = K + (k - (at_ + K)) by omega, take_two, List.drop_drop]
    · rw [hg, if_pos hE] at h
      simp only [Prod.mk.injEq] at h
      exact (hE h.2.2).elim
theorem listG_form {l : List UInt8} {t : List Nat} {k : Nat} (h : listG l = (t, k, 0)) : 1 ≤ k ∧ k ≤ l.length ∧ t.length ≤ 10000 ∧ (∀ x ∈ t, x < 9223372036854775808) ∧ listP (toI t) = l.take k := by
  unfold listG at h
  rcases getN_cases l with ⟨N, K, hg, hk1, hk9, hkl, hN, hp, _⟩ | ⟨E, hg, hE, _⟩
  · rw [hg] at h
    simp only [ne_eq, not_true_eq_false, if_false] at h
    split at h
    · simp at h
    · obtain ⟨more, ht, hml, h1, h2, h3, h4⟩ := numsG_form l N K [] t k hkl h
      obtain rfl : t = more := by simpa using ht
      refine ⟨by omega, h2, by omega, h3, ?_⟩
      rw [listP, h4, show (toI t).length = N by simp [toI, hml], hp]
      have := take_two l K (k - K)
      rw [← this]
      congr 1
      omega
  · rw [hg, if_pos hE] at h
    simp only [Prod.mk.injEq] at h
    exact (hE h.2.2).elim
theorem frame_eq' (l bd tl : List UInt8) (N K : Nat) (hp : putN N = l.take K) (hb : (l.drop K).take N = bd) (ht : (l.drop (K + N)).take 4 = tl) (hl : K + N + 4 ≤ l.length) :
    frameN bd = l.take (K + N + 4) ↔ de4 tl = sumN bd := by
  have hbl : bd.length = N := by rw [← hb, List.length_take, List.length_drop]; omega
  have htl : tl.length = 4 := by rw [← ht, List.length_take, List.length_drop]; omega
  have e : l.take (K + N + 4) = putN N ++ bd ++ tl := by
    rw [List.take_add, List.take_add, hp, hb, ht]
  rw [e, frameN, hbl, be4_de4 tl htl _ (sumN_lt bd)]
  constructor
  · intro h
    exact (List.append_cancel_left h).symm
  · intro h
    rw [h]
theorem unfG_form {l t : List UInt8} {k : Nat} (h : unfG l = (t, k, 0)) : 5 ≤ k ∧ k ≤ l.length ∧ t.length ≤ 65536 ∧ frameN t = l.take k := by
  unfold unfG at h
  rcases getN_cases l with ⟨N, K, hg, hk1, hk9, hkl, hN, hp, _⟩ | ⟨E, hg, hE, _⟩
  · rw [hg] at h
    simp only [ne_eq, not_true_eq_false, if_false] at h
    split at h
    · simp at h
    · split at h
      · simp at h
      · split at h
        · simp at h
        · rename_i h1 h2 h3
          simp only [Prod.mk.injEq] at h
          obtain ⟨rfl, rfl, _⟩ := h
          refine ⟨by omega, by omega, by rw [List.length_take]; omega, ?_⟩
          exact (frame_eq' l _ _ N K hp rfl rfl (by omega)).2 (by simpa using h3)
  · rw [hg, if_pos hE] at h
    simp only [Prod.mk.injEq] at h
    exact (hE h.2.2).elim

/-! ### what was put is read back -/
theorem textG_back (s rest : List UInt8) (hs : s.length ≤ 2000) : textG (textP s ++ rest) = (s, (textP s).length, 0) := by
  have hg : getN (textP s ++ rest) = (s.length, (putN s.length).length, 0) := by
    rw [textP, List.append_assoc]
    exact getN_put _ (by omega) _
  unfold textG
  rw [hg]
  simp only [ne_eq, not_true_eq_false, if_false]
  rw [if_neg (by omega), if_neg (by simp [textP])]
  congr 1
  · rw [textP, List.append_assoc, List.drop_left' rfl, List.take_left' rfl]
  · simp [textP]
theorem numsG_back (pre : List UInt8) (l : List Nat) (hl : ∀ x ∈ l, x < 9223372036854775808) (rest : List UInt8) : ∀ (out : List Nat),
    numsG (pre ++ (putsN (toI l) ++ rest)) l.length pre.length out = (out ++ l, pre.length + (putsN (toI l)).length, 0) := by
  induction l generalizing pre with
  | nil => intro out; simp [numsG, toI, putsN]
  | cons x l ih =>
    intro out
    have e : putsN (toI (x :: l)) = putN x ++ putsN (toI l) := by simp [toI, putsN]
    have hg : getN ((pre ++ (putsN (toI (x :: l)) ++ rest)).drop pre.length) = (x, (putN x).length, 0) := by
      rw [List.drop_left' rfl, e, List.append_assoc]
      exact getN_put x (hl x (by simp)) _
    rw [List.length_cons, numsG, hg]
    simp only [ne_eq, not_true_eq_false, if_false]
    have h := ih (pre ++ putN x) (fun y hy => hl y (by simp [hy])) (out ++ [x])
    rw [List.length_append] at h
    rw [e]
    simp only [List.append_assoc] at h ⊢
    rw [h]
    simp [Nat.add_assoc]
theorem listG_back (l : List Nat) (hl : ∀ x ∈ l, x < 9223372036854775808) (h300 : l.length ≤ 300) (rest : List UInt8) : listG (listP (toI l) ++ rest) = (l, (listP (toI l)).length, 0) := by
  have hlen : (toI l).length = l.length := by simp [toI]
  have hg : getN (listP (toI l) ++ rest) = (l.length, (putN l.length).length, 0) := by
    rw [listP, hlen, List.append_assoc]
    exact getN_put _ (by omega) _
  unfold listG
  rw [hg]
  simp only [ne_eq, not_true_eq_false, if_false]
  rw [if_neg (by omega)]
  have h := numsG_back (putN l.length) l hl rest []
  rw [listP, hlen, List.append_assoc, h]
  simp
theorem unfG_of (n : Nat) (body tl rest : List UInt8) (hn : body.length = n) (h6 : n ≤ 65536) (ht : tl.length = 4) :
    unfG (putN n ++ body ++ tl ++ rest) = if de4 tl ≠ sumN body then ([], 0, 6) else (body, (putN n ++ body ++ tl).length, 0) := by
  have hg : getN (putN n ++ body ++ tl ++ rest) = (n, (putN n).length, 0) := by
    rw [List.append_assoc, List.append_assoc]
    exact getN_put _ (by omega) _
  have e1 : (putN n ++ body ++ tl ++ rest).drop (putN n).length = body ++ (tl ++ rest) := by
    rw [List.append_assoc, List.append_assoc, List.drop_left' rfl]
  have e2 : (putN n ++ body ++ tl ++ rest).drop ((putN n).length + n) = tl ++ rest := by
    rw [← List.drop_drop, e1, List.drop_left' hn]
  unfold unfG
  rw [hg]
  simp only [ne_eq, not_true_eq_false, if_false]
  rw [if_neg (by omega), if_neg (by simp; omega), e1, e2, List.take_left' hn, List.take_left' ht]
  congr 2
  congr 1
  simp
  omega
theorem unfG_back (body rest : List UInt8) (h6 : body.length ≤ 65536) : unfG (frameN body ++ rest) = (body, (frameN body).length, 0) := by
  rw [frameN, unfG_of _ body (be4 (sumN body)) rest rfl h6 rfl, if_neg (by rw [de4_be4 _ (sumN_lt body)]; simp)]

/-! ### damage -/
theorem frame_damaged (body rest : List UInt8) (i : Nat) (x : UInt8) (h6 : body.length ≤ 65536) (hi : (putN body.length).length ≤ i) (hi2 : i < (frameN body).length) (hx : x ≠ (frameN body).getD i 0) :
    unfG ((frameN body).set i x ++ rest) = ([], 0, 6) := by
  obtain ⟨d, rfl⟩ : ∃ d, i = (putN body.length).length + d := ⟨i - (putN body.length).length, by omega⟩
  have hfl : (frameN body).length = (putN body.length).length + body.length + 4 := by simp [frameN, be4_len]; omega
  rcases Nat.lt_or_ge d body.length with hd | hd
  · have hset : (frameN body).set ((putN body.length).length + d) x = putN body.length ++ body.set d x ++ be4 (sumN body) := by
      rw [frameN, List.append_assoc, List.set_append_right _ _ (by omega), Nat.add_sub_cancel_left, List.set_append_left _ _ hd, List.append_assoc]
    have hget : (frameN body).getD ((putN body.length).length + d) 0 = body.getD d 0 := by
      rw [frameN, List.append_assoc, List.getD_eq_getElem?_getD, List.getElem?_append_right (by omega), Nat.add_sub_cancel_left, List.getElem?_append_left hd, List.getD_eq_getElem?_getD]
    rw [hset, unfG_of body.length (body.set d x) (be4 (sumN body)) rest (by simp) h6 rfl, if_pos]
    rw [de4_be4 _ (sumN_lt body)]
    intro e
    rw [hget] at hx
    have hb : body = body.take d ++ body.getD d 0 :: body.drop (d + 1) := by
      have e3 : body.getD d 0 = body[d] := by simp [List.getElem?_eq_getElem hd]
      rw [e3, List.getElem_cons_drop]
      simp
    have hb2 : body.set d x = body.take d ++ x :: body.drop (d + 1) := by
      rw [List.set_eq_take_append_cons_drop, if_pos hd]
    rw [hb2] at e
    have e2 : sumN (body.take d ++ body.getD d 0 :: body.drop (d + 1)) = sumN (body.take d ++ x :: body.drop (d + 1)) := by rw [← hb]; exact e
    exact hx (sumN_change _ _ _ _ e2).symm
  · obtain ⟨j, rfl⟩ : ∃ j, d = body.length + j := ⟨d - body.length, by omega⟩
    have hj : j < 4 := by omega
    have hset : (frameN body).set ((putN body.length).length + (body.length + j)) x = putN body.length ++ body ++ (be4 (sumN body)).set j x := by
      rw [frameN, ← Nat.add_assoc, List.set_append_right _ _ (by simp)]
      congr 2
      simp
    have hget : (frameN body).getD ((putN body.length).length + (body.length + j)) 0 = (be4 (sumN body)).getD j 0 := by
      have e1 : ((putN body.length) ++ body).length = (putN body.length).length + body.length := by simp
      rw [frameN, List.getD_eq_getElem?_getD, List.getElem?_append_right (by rw [e1]; omega), e1, show (putN body.length).length + (body.length + j) - ((putN body.length).length + body.length) = j by omega, List.getD_eq_getElem?_getD]
    rw [hset, unfG_of body.length body _ rest rfl h6 (by simp [be4_len]), if_pos ?_]
    intro e
    have h1 := (be4_de4 _ (by simp [be4_len]) _ (sumN_lt body)).1 e
    rw [hget] at hx
    apply hx
    have h2 : ((be4 (sumN body)).set j x).getD j 0 = x := by simp [be4_len, hj]
    rw [← h2, h1]
end Go.Proofs.Ytdmkkpnjakdnnaa
