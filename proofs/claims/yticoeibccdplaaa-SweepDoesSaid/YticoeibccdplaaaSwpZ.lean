/-
  Plain laws of chapter 56: the program and the reference agree. No program is in sight.
-/
import Derived.Test.YticoeibccdplaaaSwpQ
namespace Go.Proofs.Yticoeibccdplaaa

theorem mem_at {l : List Int} {k : Nat} (h : k < l.length) : l.getD k 0 ∈ l := by
  rw [show l.getD k 0 = l[k] by simp [List.getElem?_eq_getElem h]]
  exact List.getElem_mem h
theorem at_mem {l : List Int} {x : Int} (h : x ∈ l) : ∃ k, k < l.length ∧ l.getD k 0 = x := by
  obtain ⟨k, hk, rfl⟩ := List.getElem_of_mem h
  exact ⟨k, hk, by simp [List.getElem?_eq_getElem hk]⟩
theorem idxF_congr {f g : Int → Bool} : ∀ {l : List Int} {k : Nat}, (∀ x ∈ l, f x = g x) → idxF f l k = idxF g l k
  | [], _, _ => rfl
  | x :: l, k, h => by
    rw [idxF, idxF, h x (by simp), idxF_congr fun y hy => h y (by simp [hy])]
theorem all_congr' {f g : Int → Bool} : ∀ {l : List Int}, (∀ x ∈ l, f x = g x) → l.all f = l.all g
  | [], _ => rfl
  | x :: l, h => by rw [List.all_cons, List.all_cons, h x (by simp), all_congr' fun y hy => h y (by simp [hy])]
theorem filter_congr' {f g : Int → Bool} : ∀ {l : List Int}, (∀ x ∈ l, f x = g x) → l.filter f = l.filter g
  | [], _ => rfl
  | x :: l, h => by rw [List.filter_cons, List.filter_cons, h x (by simp), filter_congr' fun y hy => h y (by simp [hy])]
section
variable {rs : List Rn} {bs runs : List Int}
theorem bef_eq {a b : Int} (ha : hasR rs a = true) (hb : hasR rs b = true) : befR rs a b = befP rs a b := by unfold befR; rw [ha, hb]; rfl
theorem out_eq {a : Int} (ha : hasR rs a = true) : outR rs bs a = outP rs bs a := by unfold outR; rw [ha]; rfl
variable (hall : ∀ x ∈ runs, hasR rs x = true)
include hall
theorem low_eq {x : Int} (hx : x ∈ runs) : lowI (befR rs) runs x = lowI (befP rs) runs x := idxF_congr fun y hy => bef_eq (hall x hx) (hall y hy)
theorem poss_eq {done : List Int} {x : Int} (hx : x ∈ runs) : possB (befR rs) runs done x = possB (befP rs) runs done x := all_congr' fun y hy => by rw [bef_eq (hall y hy) (hall x hx)]
theorem ready_eq (done : List Int) : readyL (befR rs) runs done = readyL (befP rs) runs done := filter_congr' fun x hx => by rw [poss_eq hall hx]
theorem ordGo_eq : ∀ (m : Nat) (out : List Int), ordGo (befR rs) runs m out = ordGo (befP rs) runs m out
  | 0, _ => rfl
  | m + 1, out => by
    rw [ordGo, ordGo, ready_eq hall out]
    cases readyL (befP rs) runs out with
    | nil => rfl
    | cons x t => exact ordGo_eq m (out ++ [x])
theorem ord_eq : ordN (befR rs) runs = ordN (befP rs) runs := ordGo_eq hall _ _
theorem push_eq {people : List Int} {i : Nat} (hi : i < runs.length) : pushN (befR rs) (outR rs bs) runs people i = pushN (befP rs) (outP rs bs) runs people i := by
  have hm := mem_at hi
  unfold pushN
  rw [out_eq (hall _ hm), low_eq hall hm]
theorem allGo_eq : ∀ (l : List Int) (p : List Int) (left : Int), (∀ x ∈ l, x ∈ runs) → allGo (befR rs) (outR rs bs) runs l p left = allGo (befP rs) (outP rs bs) runs l p left
  | [], _, _, _ => rfl
  | x :: l, p, left, h => by
    obtain ⟨j, hj, hjl, _⟩ := ind_of (h x (by simp))
    rw [allGo, allGo, hj, show ((j : Int)).toNat = j from rfl, push_eq hall hjl]
    exact allGo_eq l _ _ fun y hy => h y (by simp [hy])
theorem chk2_eq (k : Nat) (hk : k < runs.length) : chk2 (befR rs) (outR rs bs) runs k = chk2 (befP rs) (outP rs bs) runs k := by
  have hm := mem_at hk
  unfold chk2
  rw [out_eq (hall _ hm), low_eq hall hm]
theorem chk3_eq (bg : Int) (sw : List Sw) (k : Nat) : chk3 (befR rs) runs bg sw k = chk3 (befP rs) runs bg sw k := by
  unfold chk3
  cases hc : runs.contains (sw.getD k sw0).run with
  | false => rfl
  | true => rw [poss_eq hall (by simpa using hc)]
end
theorem has_of1 {rs : List Rn} {runs : List Int} (h : errF (chk1 (hasR rs) runs) 0 runs.length = 0) : ∀ x ∈ runs, hasR rs x = true := fun x hx => by
  obtain ⟨k, hk, rfl⟩ := at_mem hx
  have h1 := errF_zero.1 h k (by omega) (by omega)
  unfold chk1 at h1
  cases hh : hasR rs (runs.getD k 0) with
  | true => rfl
  | false => rw [hh, if_pos rfl] at h1; omega
theorem right_eq (rs : List Rn) (bs runs : List Int) (bg : Int) (sw : List Sw) : rightP rs bs runs bg sw = rightR rs bs runs bg sw := by
  unfold rightP rightR rightG runE
  by_cases h1 : errF (chk1 (hasR rs) runs) 0 runs.length = 0
  · have hall := has_of1 h1
    have e2 : errF (chk2 (befP rs) (outP rs bs) runs) 0 runs.length = errF (chk2 (befR rs) (outR rs bs) runs) 0 runs.length := errF_congr fun i _ hi => (chk2_eq hall i (by omega)).symm
    have e3 : errF (chk3 (befP rs) runs bg sw) 0 sw.length = errF (chk3 (befR rs) runs bg sw) 0 sw.length := errF_congr fun i _ _ => (chk3_eq hall bg sw i).symm
    rw [e2, e3]
  · rw [if_pos h1, if_pos h1, if_pos h1, if_pos h1]
/-- what it says that a sweep is right -/
theorem right_says {rs : List Rn} {bs runs : List Int} {bg : Int} {sw : List Sw} (h : rightR rs bs runs bg sw = 0) :
    runs.length ≤ 64 ∧ (∀ x ∈ runs, hasR rs x = true) ∧ (∀ x ∈ runs, outR rs bs x = false → 0 ≤ lowI (befR rs) runs x) ∧ (∀ k, k < sw.length → chk3 (befR rs) runs bg sw k = 0) ∧ sw.length ≤ 64 ∧ errF (chk1 (hasR rs) runs) 0 runs.length = 0 := by
  unfold rightR rightG at h
  by_cases h1 : 64 < runs.length
  · rw [if_pos h1] at h; omega
  rw [if_neg h1] at h
  by_cases h2 : runE (hasR rs) (befR rs) (outR rs bs) runs ≠ 0
  · rw [if_pos h2] at h; exact absurd h h2
  rw [if_neg h2] at h
  by_cases h3 : bg < 0 ∨ 20000000 < bg
  · rw [if_pos h3] at h; omega
  rw [if_neg h3] at h
  have h4 : runE (hasR rs) (befR rs) (outR rs bs) runs = 0 := by simpa using h2
  unfold runE at h4
  by_cases h5 : errF (chk1 (hasR rs) runs) 0 runs.length ≠ 0
  · rw [if_pos h5] at h4; exact absurd h4 h5
  rw [if_neg h5] at h4
  have h6 : errF (chk1 (hasR rs) runs) 0 runs.length = 0 := by simpa using h5
  have h7 := errF_zero.1 h
  refine ⟨by omega, has_of1 h6, fun x hx ho => ?_, fun k hk => h7 k (by omega) (by omega), ?_, h6⟩
  · obtain ⟨k, hk, rfl⟩ := at_mem hx
    have h8 := errF_zero.1 h4 k (by omega) (by omega)
    unfold chk2 at h8
    rcases Int.lt_or_le (lowI (befR rs) runs (runs.getD k 0)) 0 with hl | hl
    · rw [if_pos ⟨ho, hl⟩] at h8; omega
    · exact hl
  · have := chk3_len (Nat.le_refl _) fun i hi => h7 i (by omega) (by omega)
    omega
end Go.Proofs.Yticoeibccdplaaa
