/-
  The plain law of chapter 29, on changed and removed frames. No program is in sight.
-/
import Derived.Test.YtdmkkpnjakdnnaaJouN
namespace Go.Proofs.Ytdmkkpnjakdnnaa

theorem split_at (l : List Rd) (i : Nat) (h : i < l.length) : ∃ r, l[i]? = some r ∧ l = l.take i ++ r :: l.drop (i + 1) ∧ l.take (i + 1) = l.take i ++ [r] :=
  ⟨l[i], List.getElem?_eq_getElem h, by rw [← List.drop_eq_getElem_cons h, List.take_append_drop], List.take_succ_eq_append_getElem h⟩
theorem take_ok {l : List Rd} (h : ∀ r ∈ l, okB r = true) (i : Nat) : ∀ r ∈ l.take i, okB r = true := fun r hr => h r (List.mem_of_mem_take hr)
/-- where the frame of ride i begins -/
def begR (l : List Rd) (i : Nat) : Nat := (wrR 0 (l.take i)).length
theorem begR_len (l : List Rd) : begR l l.length = (wrR 0 l).length := by unfold begR; rw [List.take_length]
theorem begR_succ {l : List Rd} {i : Nat} {r : Rd} (h : l[i]? = some r) : begR l (i + 1) = begR l i + (frmR (lkR 0 (l.take i)) r).length := by
  obtain ⟨hi, hr⟩ := List.getElem?_eq_some_iff.1 h
  unfold begR
  rw [List.take_succ_eq_append_getElem hi, hr, wrR_snoc, List.length_append]
theorem begR_le {l : List Rd} (h : ∀ r ∈ l, okB r = true) (i : Nat) (hi : i < l.length) : begR l i + 20 ≤ begR l (i + 1) ∧ begR l (i + 1) ≤ begR l i + 41 := by
  obtain ⟨r, hr, _⟩ := split_at l i hi
  have := frmR_le (lkR 0 (l.take i)) (h r (List.mem_of_getElem? hr))
  rw [begR_succ hr]
  omega
theorem wr_split (l : List Rd) (i : Nat) : wrR 0 l = wrR 0 (l.take i) ++ wrR (lkR 0 (l.take i)) (l.drop i) := by
  conv => lhs; rw [← List.take_append_drop i l, wrR_append]
theorem begR_all (l : List Rd) (i : Nat) : begR l i ≤ (wrR 0 l).length := by
  rw [wr_split l i, List.length_append]
  exact Nat.le_add_right _ _
theorem wr_take (l : List Rd) (i : Nat) : (wrR 0 l).take (begR l i) = wrR 0 (l.take i) := by
  rw [wr_split l i]
  exact List.take_left' rfl
theorem wr_drop (l : List Rd) (i : Nat) : (wrR 0 l).drop (begR l i) = wrR (lkR 0 (l.take i)) (l.drop i) := by
  conv => lhs; rw [wr_split l i]
  exact List.drop_left' rfl
theorem last_front {l : List Rd} (h : ∀ r ∈ l, okB r = true) (i : Nat) : (scanR 0 ((wrR 0 l).take (begR l i))).2.2 = lkR 0 (l.take i) := by
  rw [wr_take, scanR_back _ _ (take_ok h i)]
/-- a byte of a frame other than its length is changed -/
theorem scanR_changed {l : List Rd} (h : ∀ r ∈ l, okB r = true) {i : Nat} (hi : i < l.length) {k : Nat} (h1 : begR l i + 1 ≤ k) (h2 : k < begR l (i + 1)) {x : UInt8} (hx : x ≠ (wrR 0 l).getD k 0) :
    scanR 0 ((wrR 0 l).set k x) = (l.take i, begR l i, lkR 0 (l.take i)) := by
  obtain ⟨r, hr, hl, _⟩ := split_at l i hi
  have hok := h r (List.mem_of_getElem? hr)
  obtain ⟨d, rfl⟩ : ∃ d, k = begR l i + d := ⟨k - begR l i, by omega⟩
  rw [begR_succ hr] at h2
  have hb := bodyR_len (lkR 0 (l.take i)) hok
  have e : wrR 0 l = wrR 0 (l.take i) ++ (frmR (lkR 0 (l.take i)) r ++ wrR (lnkR (lkR 0 (l.take i)) r) (l.drop (i + 1))) := by
    have e1 := wr_split l i
    obtain ⟨hi', hr'⟩ := List.getElem?_eq_some_iff.1 hr
    rw [List.drop_eq_getElem_cons hi, hr', wrR] at e1
    exact e1
  have hx2 : x ≠ (frmR (lkR 0 (l.take i)) r).getD d 0 := by
    rw [e, List.getD_eq_getElem?_getD, List.getElem?_append_right (by show begR l i ≤ _; omega), show begR l i + d - (wrR 0 (l.take i)).length = d by show begR l i + d - begR l i = d; omega, List.getElem?_append_left (by omega), ← List.getD_eq_getElem?_getD] at hx
    exact hx
  have hset : (wrR 0 l).set (begR l i + d) x = wrR 0 (l.take i) ++ ((frmR (lkR 0 (l.take i)) r).set d x ++ wrR (lnkR (lkR 0 (l.take i)) r) (l.drop (i + 1))) := by
    rw [e, List.set_append_right _ _ (by show begR l i ≤ _; omega), show begR l i + d - (wrR 0 (l.take i)).length = d by show begR l i + d - begR l i = d; omega, List.set_append_left _ _ (by omega)]
  have hn : nextR (lkR 0 (l.take i)) ((frmR (lkR 0 (l.take i)) r).set d x ++ wrR (lnkR (lkR 0 (l.take i)) r) (l.drop (i + 1))) = none := by
    unfold nextR
    have hd := frame_damaged (bodyR (lkR 0 (l.take i)) r) (wrR (lnkR (lkR 0 (l.take i)) r) (l.drop (i + 1))) d x (by omega) (by rw [putN_low _ (by omega)]; simp; omega) (by have : (frameN (bodyR (lkR 0 (l.take i)) r)).length = (frmR (lkR 0 (l.take i)) r).length := rfl; omega) hx2
    rw [show (frmR (lkR 0 (l.take i)) r).set d x = (frameN (bodyR (lkR 0 (l.take i)) r)).set d x from rfl, hd]
    rfl
  rw [hset, scanR_app _ _ _ (take_ok h i), scanR_none hn]
  simp [begR]
/-- the frame of a ride that is not the last one is removed -/
theorem scanR_dropped {l : List Rd} (h : ∀ r ∈ l, okB r = true) {i : Nat} (hi : i + 1 < l.length) (hne : lkR 0 (l.take i) ≠ lkR 0 (l.take (i + 1))) :
    scanR 0 ((wrR 0 l).take (begR l i) ++ (wrR 0 l).drop (begR l (i + 1))) = (l.take i, begR l i, lkR 0 (l.take i)) := by
  rw [wr_take, wr_drop, scanR_app _ _ _ (take_ok h i), List.drop_eq_getElem_cons hi, wrR,
    scanR_none (nextR_other _ _ (h _ (List.getElem_mem hi)) _ (lkR_lt _ _ (by omega)) (lkR_lt _ _ (by omega)) hne)]
  simp [begR]
end Go.Proofs.Ytdmkkpnjakdnnaa
