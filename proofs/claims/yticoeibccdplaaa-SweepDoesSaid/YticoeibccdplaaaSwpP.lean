/-
  Plain laws of chapter 56: what a sweep that is right says. No program is in sight.
-/
import Derived.Test.YticoeibccdplaaaSwpN
namespace Go.Proofs.Yticoeibccdplaaa

theorem nodup_le : ∀ {l m : List Int}, l.Nodup → (∀ x ∈ l, x ∈ m) → l.length ≤ m.length
  | [], _, _, _ => Nat.zero_le _
  | x :: l, m, h, hs => by
    have hx := hs x (by simp)
    have h1 := nodup_le (m := m.erase x) (List.nodup_cons.1 h).2 (fun y hy => (List.mem_erase_of_ne (by rintro rfl; exact (List.nodup_cons.1 h).1 hy)).2 (hs y (by simp [hy])))
    rw [List.length_erase_of_mem hx] at h1
    have h2 := List.length_pos_of_mem hx
    simp only [List.length_cons]
    omega
theorem chk3_zero {bef : Int → Int → Bool} {runs : List Int} {bg : Int} {sw : List Sw} {k : Nat} : chk3 bef runs bg sw k = 0 ↔ runs.contains (sw.getD k sw0).run = true ∧ ((sw.take k).map Sw.run).contains (sw.getD k sw0).run = false ∧ InS bg (sw.getD k sw0) ∧
    ¬ (0 < k ∧ (sw.getD k sw0).att < (sw.getD (k - 1) sw0).att) ∧ possB bef runs ((sw.take k).map Sw.run) (sw.getD k sw0).run = true := by
  unfold chk3
  by_cases h1 : runs.contains (sw.getD k sw0).run = false
  · rw [if_pos h1]
    constructor
    · intro h; omega
    · rintro ⟨h, _⟩; rw [h] at h1; cases h1
  rw [if_neg h1]
  by_cases h2 : ((sw.take k).map Sw.run).contains (sw.getD k sw0).run = true
  · rw [if_pos h2]
    constructor
    · intro h; omega
    · rintro ⟨_, h, _⟩; rw [h] at h2; cases h2
  rw [if_neg h2]
  by_cases h3 : ¬ InS bg (sw.getD k sw0)
  · rw [if_pos h3]
    constructor
    · intro h; omega
    · rintro ⟨_, _, h, _⟩; exact absurd h h3
  rw [if_neg h3]
  by_cases h4 : (0 < k ∧ (sw.getD k sw0).att < (sw.getD (k - 1) sw0).att) ∨ possB bef runs ((sw.take k).map Sw.run) (sw.getD k sw0).run = false
  · rw [if_pos h4]
    constructor
    · intro h; omega
    · rintro ⟨_, _, _, h5, h6⟩
      rcases h4 with h4 | h4
      · exact absurd h4 h5
      · rw [h6] at h4; cases h4
  rw [if_neg h4]
  refine ⟨fun _ => ⟨by simpa using h1, by simpa using h2, by simpa using h3, fun h => h4 (.inl h), ?_⟩, fun _ => rfl⟩
  cases hp : possB bef runs ((sw.take k).map Sw.run) (sw.getD k sw0).run with
  | true => rfl
  | false => exact absurd (.inr hp) h4
theorem gen_take {α : Type _} (l : List α) (d : α) (k : Nat) (h : k < l.length) : l.take (k + 1) = l.take k ++ [l.getD k d] := by
  rw [List.take_succ_eq_append_getElem h]
  simp [List.getElem?_eq_getElem h]
theorem nodup_snoc {l : List Int} {x : Int} (h : l.Nodup) (hx : l.contains x = false) : (l ++ [x]).Nodup := by
  have hx' : ¬ x ∈ l := by simpa using hx
  rw [List.nodup_append]
  refine ⟨h, by simp, fun a ha b hb => ?_⟩
  obtain rfl : b = x := by simpa using hb
  rintro rfl
  exact hx' ha
theorem chk3_nodup {bef : Int → Int → Bool} {runs : List Int} {bg : Int} {sw : List Sw} : ∀ {k : Nat}, k ≤ sw.length → (∀ i, i < k → chk3 bef runs bg sw i = 0) → ((sw.take k).map Sw.run).Nodup ∧ ∀ x ∈ (sw.take k).map Sw.run, x ∈ runs
  | 0, _, _ => by simp
  | k + 1, hk, h => by
    obtain ⟨h1, h2⟩ := chk3_nodup (k := k) (by omega) fun i hi => h i (by omega)
    obtain ⟨h3, h4, _⟩ := chk3_zero.1 (h k (by omega))
    rw [gen_take sw sw0 k (by omega), List.map_append]
    refine ⟨nodup_snoc h1 h4, fun x hx => ?_⟩
    rcases List.mem_append.1 hx with hx | hx
    · exact h2 x hx
    · obtain rfl : x = (sw.getD k sw0).run := by simpa using hx
      simpa using h3
theorem chk3_len {bef : Int → Int → Bool} {runs : List Int} {bg : Int} {sw : List Sw} {k : Nat} (hk : k ≤ sw.length) (h : ∀ i, i < k → chk3 bef runs bg sw i = 0) : k ≤ runs.length := by
  obtain ⟨h1, h2⟩ := chk3_nodup hk h
  have := nodup_le h1 h2
  simp at this
  omega
/-! ### the order -/
theorem ready_mem {bef : Int → Int → Bool} {runs out : List Int} {x : Int} (h : x ∈ readyL bef runs out) : x ∈ runs ∧ out.contains x = false ∧ possB bef runs out x = true := by
  unfold readyL at h
  rw [List.mem_filter] at h
  obtain ⟨h1, h2⟩ := h
  rw [Bool.and_eq_true] at h2
  exact ⟨h1, by simpa using h2.1, h2.2⟩
theorem ord_stop {bef : Int → Int → Bool} {runs out : List Int} (h : readyL bef runs out = []) : ∀ m, ordGo bef runs m out = out
  | 0 => rfl
  | m + 1 => by rw [ordGo, h]
theorem ord_step {bef : Int → Int → Bool} {runs out : List Int} {x : Int} {t : List Int} (h : readyL bef runs out = x :: t) (h1 : out.Nodup) (h2 : ∀ y ∈ out, y ∈ runs) :
    (out ++ [x]).Nodup ∧ (∀ y ∈ out ++ [x], y ∈ runs) ∧ out.length + 1 ≤ runs.length ∧ ordGo bef runs (runs.length - out.length) out = ordGo bef runs (runs.length - (out ++ [x]).length) (out ++ [x]) := by
  obtain ⟨h3, h4, _⟩ := ready_mem (show x ∈ readyL bef runs out by rw [h]; simp)
  have h5 := nodup_snoc h1 h4
  have h6 : ∀ y ∈ out ++ [x], y ∈ runs := fun y hy => by
    rcases List.mem_append.1 hy with hy | hy
    · exact h2 y hy
    · obtain rfl : y = x := by simpa using hy
      exact h3
  have h7 := nodup_le h5 h6
  simp only [List.length_append, List.length_cons, List.length_nil] at h7 ⊢
  refine ⟨h5, h6, by omega, ?_⟩
  obtain ⟨m, hm⟩ : ∃ m, runs.length - out.length = m + 1 := ⟨runs.length - out.length - 1, by omega⟩
  rw [hm, show runs.length - (out.length + (0 + 1)) = m by omega, ordGo, h]
end Go.Proofs.Yticoeibccdplaaa
