/-
  Plain laws of chapter 56: the order is complete where runs lead down, and its elements are the least that are possible. No program is in sight.
-/
import Derived.Test.YticoeibccdplaaaSwpZ
namespace Go.Proofs.Yticoeibccdplaaa

theorem max_of (f : Int → Int) : ∀ {l : List Int}, l ≠ [] → ∃ x, x ∈ l ∧ ∀ y ∈ l, f y ≤ f x
  | [], h => absurd rfl h
  | [x], _ => ⟨x, by simp, fun y hy => by obtain rfl : y = x := by simpa using hy
                                          exact Int.le_refl _⟩
  | x :: y :: l, _ => by
    obtain ⟨z, hz, hm⟩ := max_of f (l := y :: l) (by simp)
    rcases Int.le_total (f x) (f z) with h | h
    · exact ⟨z, by simp [hz], fun u hu => by
        rcases List.mem_cons.1 hu with rfl | hu
        · exact h
        · exact hm u hu⟩
    · exact ⟨x, by simp, fun u hu => by
        rcases List.mem_cons.1 hu with rfl | hu
        · exact Int.le_refl _
        · exact Int.le_trans (hm u hu) h⟩
theorem getR_mem {rs : List Rn} {a : Int} (h : hasR rs a = true) : getR rs a ∈ rs := by
  unfold hasR at h
  unfold getR
  cases hf : findF rs a with
  | none => rw [hf] at h; cases h
  | some r => exact List.mem_of_find?_eq_some hf
section
variable {rs : List Rn} {runs : List Int} {alt : Int → Int} (hdown : ∀ r ∈ rs, alt r.tt < alt r.fr) (hall : ∀ x ∈ runs, hasR rs x = true)
include hdown hall
theorem ready_ne {done : List Int} {x0 : Int} (h0 : x0 ∈ runs) (h1 : done.contains x0 = false) : readyL (befP rs) runs done ≠ [] := by
  obtain ⟨x, hx, hm⟩ := max_of (fun a => alt (getR rs a).fr) (l := runs.filter fun r => !done.contains r) (by
    intro h
    have : x0 ∈ runs.filter fun r => !done.contains r := List.mem_filter.2 ⟨h0, by rw [h1]; rfl⟩
    rw [h] at this
    cases this)
  obtain ⟨hxr, hxd⟩ := List.mem_filter.1 hx
  intro h
  have hr : x ∈ readyL (befP rs) runs done := by
    unfold readyL
    refine List.mem_filter.2 ⟨hxr, ?_⟩
    rw [hxd, Bool.true_and]
    unfold possB
    rw [List.all_eq_true]
    intro y hy
    cases hb : befP rs y x with
    | false => rfl
    | true =>
      cases hd : done.contains y with
      | true => rfl
      | false =>
        have h2 : y ∈ runs.filter fun r => !done.contains r := List.mem_filter.2 ⟨hy, by rw [hd]; rfl⟩
        have h3 : alt (getR rs y).fr ≤ alt (getR rs x).fr := hm y h2
        have h4 := hdown _ (getR_mem (hall y hy))
        have h5 : (getR rs y).tt = (getR rs x).fr := by simpa [befP] using hb
        rw [h5] at h4
        omega
  rw [h] at hr
  cases hr
theorem ordGo_full (hnd : runs.Nodup) : ∀ (m : Nat) (out : List Int), out.Nodup → (∀ y ∈ out, y ∈ runs) → m + out.length = runs.length → (ordGo (befP rs) runs m out).length = runs.length
  | 0, out, _, _, h => by rw [ordGo]; omega
  | m + 1, out, h1, h2, h => by
    rw [ordGo]
    cases hr : readyL (befP rs) runs out with
    | nil =>
      by_cases hex : ∃ x, x ∈ runs ∧ out.contains x = false
      · obtain ⟨x, hx, hc⟩ := hex
        exact absurd hr (ready_ne hdown hall hx hc)
      · have h3 : ∀ x ∈ runs, x ∈ out := fun x hx => by
          cases hc : out.contains x with
          | true => simpa using hc
          | false => exact absurd ⟨x, hx, hc⟩ hex
        have h4 := nodup_le hnd h3
        omega
    | cons x t =>
      obtain ⟨h3, h4, _⟩ := ready_mem (show x ∈ readyL (befP rs) runs out by rw [hr]; simp)
      exact ordGo_full hnd m (out ++ [x]) (nodup_snoc h1 h4) (fun y hy => by
        rcases List.mem_append.1 hy with hy | hy
        · exact h2 y hy
        · obtain rfl : y = x := by simpa using hy
          exact h3) (by simp; omega)
theorem ord_full (hnd : runs.Nodup) : (ordN (befP rs) runs).length = runs.length := ordGo_full hdown hall hnd _ _ (by simp) (by simp) (by simp)
end
/-- strictly increasing -/
def IncB : List Int → Prop
  | [] => True
  | x :: l => (∀ y ∈ l, x < y) ∧ IncB l
theorem inc_of : ∀ {l : List Int}, (∀ k, 0 < k → k < l.length → l.getD (k - 1) 0 < l.getD k 0) → IncB l
  | [], _ => trivial
  | x :: l, h => by
    have ih : IncB l := inc_of fun k h1 h2 => by
      have h3 := h (k + 1) (by omega) (by simpa using h2)
      obtain ⟨m, rfl⟩ : ∃ m, k = m + 1 := ⟨k - 1, by omega⟩
      simpa using h3
    refine ⟨fun y hy => ?_, ih⟩
    match l, h, ih, hy with
    | z :: l, h, ih, hy =>
      have h1 : x < z := by simpa using h 1 (by omega) (by simp)
      rcases List.mem_cons.1 hy with rfl | hy
      · exact h1
      · exact Int.lt_trans h1 (ih.1 y hy)
theorem inc_nodup : ∀ {l : List Int}, IncB l → l.Nodup
  | [], _ => by simp
  | x :: l, h => List.nodup_cons.2 ⟨fun hm => absurd (h.1 x hm) (by omega), inc_nodup h.2⟩
theorem inc_filter (f : Int → Bool) : ∀ {l : List Int}, IncB l → IncB (l.filter f)
  | [], _ => trivial
  | x :: l, h => by
    rw [List.filter_cons]
    cases f x with
    | true => exact ⟨fun y hy => h.1 y (List.mem_filter.1 hy).1, inc_filter f h.2⟩
    | false => exact inc_filter f h.2
theorem inc_runs {has : Int → Bool} {runs : List Int} (h : errF (chk1 has runs) 0 runs.length = 0) : IncB runs := inc_of fun k h1 h2 => by
  have h3 := errF_zero.1 h k (by omega) (by omega)
  unfold chk1 at h3
  by_cases h4 : has (runs.getD k 0) = false
  · rw [if_pos h4] at h3; omega
  · rw [if_neg h4] at h3
    by_cases h5 : 0 < k ∧ runs.getD k 0 ≤ runs.getD (k - 1) 0
    · rw [if_pos h5] at h3; omega
    · omega
/-- what stands at a place of the order: the first run that is ready behind those before -/
theorem ordGo_at {bef : Int → Int → Bool} {runs : List Int} : ∀ (m : Nat) (out : List Int) (i : Nat), out.length ≤ i → i < (ordGo bef runs m out).length → ∃ t, readyL bef runs ((ordGo bef runs m out).take i) = (ordGo bef runs m out).getD i 0 :: t
  | 0, out, i, h1, h2 => by rw [ordGo] at h2; omega
  | m + 1, out, i, h1, h2 => by
    have key : ∀ (m : Nat) (o : List Int), ∃ s, ordGo bef runs m o = o ++ s := by
      intro m
      induction m with
      | zero => intro o; exact ⟨[], by simp [ordGo]⟩
      | succ m ih =>
        intro o
        rw [ordGo]
        cases hr : readyL bef runs o with
        | nil => exact ⟨[], by simp⟩
        | cons x t =>
          obtain ⟨s, hs⟩ := ih (o ++ [x])
          exact ⟨x :: s, by simp only [hs]; simp⟩
    cases hr : readyL bef runs out with
    | nil =>
      rw [ordGo, hr] at h2
      simp only at h2
      omega
    | cons x t =>
      have e : ordGo bef runs (m + 1) out = ordGo bef runs m (out ++ [x]) := by rw [ordGo, hr]
      rw [e] at h2 ⊢
      rcases Nat.lt_or_ge i (out ++ [x]).length with h3 | h3
      · have hi : i = out.length := by simp at h3; omega
        subst hi
        obtain ⟨s, hs⟩ := key m (out ++ [x])
        rw [hs]
        refine ⟨t, ?_⟩
        have e1 : (out ++ [x] ++ s).take out.length = out := by rw [List.append_assoc, List.take_left' rfl]
        have e2 : (out ++ [x] ++ s).getD out.length 0 = x := by rw [List.append_assoc]; simp
        rw [e1, e2, hr]
      · exact ordGo_at m (out ++ [x]) i h3 h2
theorem ord_at {bef : Int → Int → Bool} {runs : List Int} {i : Nat} (h : i < (ordN bef runs).length) : ∃ t, readyL bef runs ((ordN bef runs).take i) = (ordN bef runs).getD i 0 :: t := ordGo_at _ _ i (by simp) h
/-- a run that is possible at a place is not less than the one that stands there -/
theorem ord_least {bef : Int → Int → Bool} {runs : List Int} (hinc : IncB runs) {i : Nat} (h : i < (ordN bef runs).length) {run : Int} (hr : run ∈ readyL bef runs ((ordN bef runs).take i)) : (ordN bef runs).getD i 0 ≤ run := by
  obtain ⟨t, ht⟩ := ord_at h
  have h1 : IncB (readyL bef runs ((ordN bef runs).take i)) := inc_filter _ hinc
  rw [ht] at h1 hr
  rcases List.mem_cons.1 hr with rfl | hr
  · exact Int.le_refl _
  · exact Int.le_of_lt (h1.1 run hr)
theorem ord_ready {bef : Int → Int → Bool} {runs : List Int} {i : Nat} (h : i < (ordN bef runs).length) : (ordN bef runs).getD i 0 ∈ readyL bef runs ((ordN bef runs).take i) := by
  obtain ⟨t, ht⟩ := ord_at h
  rw [ht]
  simp
/-! ### one more that was swept -/
section
variable {bef : Int → Int → Bool} {runs : List Int} {bg : Int} {sw : List Sw} {q : Sw}
theorem chk3_pre {k : Nat} (hk : k < sw.length) : chk3 bef runs bg (sw ++ [q]) k = chk3 bef runs bg sw k := by
  have e1 : (sw ++ [q]).getD k sw0 = sw.getD k sw0 := by simp [List.getElem?_append_left hk]
  have e2 : (sw ++ [q]).take k = sw.take k := List.take_append_of_le_length (by omega)
  have e3 : (sw ++ [q]).getD (k - 1) sw0 = sw.getD (k - 1) sw0 := by simp [List.getElem?_append_left (show k - 1 < sw.length by omega)]
  unfold chk3
  rw [e1, e2, e3]
theorem chk3_last : chk3 bef runs bg (sw ++ [q]) sw.length = 0 ↔ q.run ∈ readyL bef runs (sw.map Sw.run) ∧ InS bg q ∧ ¬ (0 < sw.length ∧ q.att < (sw.getD (sw.length - 1) sw0).att) := by
  have e1 : (sw ++ [q]).getD sw.length sw0 = q := by simp
  have e2 : (sw ++ [q]).take sw.length = sw := by simp
  rw [chk3_zero, e1, e2]
  have e3 : 0 < sw.length → (sw ++ [q]).getD (sw.length - 1) sw0 = sw.getD (sw.length - 1) sw0 := fun h => by simp [List.getElem?_append_left (show sw.length - 1 < sw.length by omega)]
  constructor
  · rintro ⟨h1, h2, h3, h4, h5⟩
    refine ⟨List.mem_filter.2 ⟨by simpa using h1, by rw [h2, h5]; rfl⟩, h3, fun h => h4 ⟨h.1, by rw [e3 h.1]; exact h.2⟩⟩
  · rintro ⟨h1, h2, h3⟩
    obtain ⟨g1, g2, g3⟩ := ready_mem h1
    exact ⟨by simpa using g1, g2, h2, fun h => h3 ⟨h.1, by rw [← e3 h.1]; exact h.2⟩, g3⟩
end
theorem rightG_snoc {has : Int → Bool} {bef : Int → Int → Bool} {out : Int → Bool} {runs : List Int} {bg : Int} {sw : List Sw} {q : Sw} (h : rightG has bef out runs bg sw = 0) :
    rightG has bef out runs bg (sw ++ [q]) = 0 ↔ q.run ∈ readyL bef runs (sw.map Sw.run) ∧ InS bg q ∧ ¬ (0 < sw.length ∧ q.att < (sw.getD (sw.length - 1) sw0).att) := by
  unfold rightG at h ⊢
  by_cases h1 : 64 < runs.length
  · rw [if_pos h1] at h; omega
  rw [if_neg h1] at h ⊢
  by_cases h2 : runE has bef out runs ≠ 0
  · rw [if_pos h2] at h; exact absurd h h2
  rw [if_neg h2] at h ⊢
  by_cases h3 : bg < 0 ∨ 20000000 < bg
  · rw [if_pos h3] at h; omega
  rw [if_neg h3] at h ⊢
  have h4 := errF_zero.1 h
  rw [errF_zero, ← chk3_last]
  constructor
  · intro g
    exact g sw.length (by omega) (by simp)
  · intro g i _ hi
    simp only [List.length_append, List.length_cons, List.length_nil] at hi
    rcases Nat.lt_or_ge i sw.length with hlt | hge
    · rw [chk3_pre hlt]
      exact h4 i (by omega) (by omega)
    · obtain rfl : i = sw.length := by omega
      exact g
/-- a run that was swept cannot be swept again -/
theorem not_again {bef : Int → Int → Bool} {runs : List Int} {sw : List Sw} {q : Sw} : (readyL bef runs ((sw ++ [q]).map Sw.run)).contains q.run = false := by
  cases h : (readyL bef runs ((sw ++ [q]).map Sw.run)).contains q.run with
  | false => rfl
  | true =>
    obtain ⟨_, h2, _⟩ := ready_mem (show q.run ∈ readyL bef runs ((sw ++ [q]).map Sw.run) by simpa using h)
    simp at h2
end Go.Proofs.Yticoeibccdplaaa
