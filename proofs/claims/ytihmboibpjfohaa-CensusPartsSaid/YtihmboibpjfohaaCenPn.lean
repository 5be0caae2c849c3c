/-
  What crosses between two times, kind by kind and place by place; in plain Lean.
-/
import Derived.Test.YtihmboibpjfohaaCenBn
namespace Go.Proofs.Ytihmboibpjfohaa

def sameK (a b : Cr) : Bool := a.kind == b.kind && a.plc == b.plc
theorem sameK_iff {a b : Cr} : sameK a b = true ↔ a.kind = b.kind ∧ a.plc = b.plc := by
  unfold sameK
  simp
/-- what a kind at a place adds -/
def partC (l : List Cr) (a b : Int) (c : Cr) : Int := if c.kind = 1 then cntC l c.kind c.plc (a + 1) (b + 1) else -cntC l c.kind c.plc (a + 1) (b + 1)
def gapF (a b : Int) (c : Cr) : Int := if a < c.att ∧ c.att ≤ b then chC c else 0
theorem gap_on {a b : Int} (h : a ≤ b) : ∀ l : List Cr, onC l b = onC l a + sumF (gapF a b) l
  | [] => rfl
  | c :: l => by
    have ih := gap_on h l
    unfold onC sumF at *
    simp only [List.map_cons, List.sum_cons]
    rw [ih]
    have : onF b c = onF a c + gapF a b c := by
      unfold onF gapF
      by_cases h1 : c.att ≤ a
      · rw [if_pos h1, if_pos (by omega), if_neg (by omega)]; omega
      · rw [if_neg h1]
        by_cases h2 : c.att ≤ b
        · rw [if_pos h2, if_pos ⟨by omega, h2⟩]; omega
        · rw [if_neg h2, if_neg (by omega)]; omega
    rw [this]
    omega
theorem part_sum (a b : Int) (c : Cr) : ∀ l : List Cr, partC l a b c = sumF (fun x => if sameK c x = true then gapF a b x else 0) l
  | [] => by unfold partC; split <;> rfl
  | x :: l => by
    have ih := part_sum a b c l
    have key : partC (x :: l) a b c = (if sameK c x = true then gapF a b x else 0) + partC l a b c := by
      unfold partC cntC sumF
      simp only [List.map_cons, List.sum_cons]
      have e : cntF c.kind c.plc (a + 1) (b + 1) x = if sameK c x = true ∧ a < x.att ∧ x.att ≤ b then x.num else 0 := by
        unfold cntF
        by_cases hs : sameK c x = true
        · obtain ⟨h1, h2⟩ := sameK_iff.1 hs
          by_cases h3 : a < x.att ∧ x.att ≤ b
          · rw [if_pos ⟨h1.symm, h2.symm, by omega, by omega⟩, if_pos ⟨hs, h3⟩]
          · rw [if_neg (fun h => h3 ⟨by omega, by omega⟩), if_neg (fun h => h3 h.2)]
        · rw [if_neg (fun h => hs (sameK_iff.2 ⟨h.1.symm, h.2.1.symm⟩)), if_neg (fun h => hs h.1)]
      rw [e]
      unfold gapF chC
      have hk1 : sameK c x = true → c.kind = x.kind := fun h => (sameK_iff.1 h).1
      by_cases hs : sameK c x = true <;> by_cases h3 : a < x.att ∧ x.att ≤ b <;> by_cases h4 : c.kind = 1
      · simp [hs, h3, h4, ← hk1 hs]
      · simp [hs, h3, h4, ← hk1 hs]; omega
      all_goals simp [hs, h3, h4]
    rw [key, ih]
    rfl
/-- those that were met first -/
structure SeenC (l seen : List Cr) (k : Nat) : Prop where
  apart : seen.Pairwise fun a b => sameK a b = false
  all : ∀ x ∈ l.take k, ∃ c ∈ seen, sameK c x = true
  mem : ∀ c ∈ seen, c ∈ l
  len : seen.length ≤ k
theorem SeenC.start (l : List Cr) : SeenC l [] 0 := ⟨by simp, by simp, by simp, by simp⟩
theorem sameK_symm {a b : Cr} : sameK a b = sameK b a := by
  cases h : sameK b a with
  | true => obtain ⟨h1, h2⟩ := sameK_iff.1 h; exact sameK_iff.2 ⟨h1.symm, h2.symm⟩
  | false =>
    cases h2 : sameK a b with
    | false => rfl
    | true => obtain ⟨h3, h4⟩ := sameK_iff.1 h2; rw [sameK_iff.2 ⟨h3.symm, h4.symm⟩] at h; cases h
theorem SeenC.skip {l seen : List Cr} {k : Nat} (h : SeenC l seen k) (hk : k < l.length) (hs : (seen.any fun c => sameK c (l.getD k cr0)) = true) : SeenC l seen (k + 1) := by
  refine ⟨h.apart, fun x hx => ?_, h.mem, by have := h.len; omega⟩
  rw [cr_at hk] at hx
  rcases List.mem_append.1 hx with hx | hx
  · exact h.all x hx
  · rw [List.mem_singleton.1 hx]
    obtain ⟨c, hc, hcs⟩ := List.any_eq_true.1 hs
    exact ⟨c, hc, hcs⟩
theorem SeenC.add {l seen : List Cr} {k : Nat} (h : SeenC l seen k) (hk : k < l.length) (hs : (seen.any fun c => sameK c (l.getD k cr0)) = false) : SeenC l (seen ++ [l.getD k cr0]) (k + 1) := by
  refine ⟨?_, fun x hx => ?_, fun c hc => ?_, by have := h.len; simp; omega⟩
  · rw [List.pairwise_append]
    refine ⟨h.apart, by simp, fun a ha b hb => ?_⟩
    rw [List.mem_singleton.1 hb]
    have := (List.any_eq_false.1 hs) a ha
    simpa using this
  · rw [cr_at hk] at hx
    rcases List.mem_append.1 hx with hx | hx
    · obtain ⟨c, hc, hcs⟩ := h.all x hx
      exact ⟨c, by simp [hc], hcs⟩
    · rw [List.mem_singleton.1 hx]
      exact ⟨l.getD k cr0, by simp, sameK_iff.2 ⟨rfl, rfl⟩⟩
  · rcases List.mem_append.1 hc with hc | hc
    · exact h.mem c hc
    · rw [List.mem_singleton.1 hc]; exact cr_mem hk
theorem one_hit (x : Cr) (v : Int) : ∀ seen : List Cr, seen.Pairwise (fun a b => sameK a b = false) → (∃ c ∈ seen, sameK c x = true) → (seen.map fun c => if sameK c x = true then v else 0).sum = v
  | [], _, h => by obtain ⟨c, hc, _⟩ := h; cases hc
  | c :: seen, hp, h => by
    rw [List.pairwise_cons] at hp
    simp only [List.map_cons, List.sum_cons]
    by_cases hc : sameK c x = true
    · rw [if_pos hc]
      have hz : (seen.map fun d => if sameK d x = true then v else 0) = seen.map fun _ => (0 : Int) := List.map_congr_left fun d hd => by
        rw [if_neg]
        intro hd2
        have h1 := hp.1 d hd
        obtain ⟨a1, a2⟩ := sameK_iff.1 hc
        obtain ⟨b1, b2⟩ := sameK_iff.1 hd2
        rw [sameK_iff.2 ⟨a1.trans b1.symm, a2.trans b2.symm⟩] at h1
        cases h1
      rw [hz]
      have : ∀ s : List Cr, (s.map fun _ => (0 : Int)).sum = 0 := fun s => by induction s with | nil => rfl | cons a s ih => simpa using ih
      rw [this]
      omega
    · rw [if_neg hc]
      obtain ⟨d, hd, hdx⟩ := h
      rcases List.mem_cons.1 hd with rfl | hd
      · exact absurd hdx hc
      · rw [one_hit x v seen hp.2 ⟨d, hd, hdx⟩]
        omega
theorem sum_cons (f : Cr → Cr → Int) (x : Cr) (l : List Cr) : ∀ seen : List Cr, (seen.map fun c => sumF (f c) (x :: l)).sum = (seen.map fun c => f c x).sum + (seen.map fun c => sumF (f c) l).sum
  | [] => rfl
  | c :: seen => by
    have ih := sum_cons f x l seen
    simp only [List.map_cons, List.sum_cons, ih]
    have : sumF (f c) (x :: l) = f c x + sumF (f c) l := by simp [sumF]
    omega
theorem sum_swap (f : Cr → Cr → Int) (seen : List Cr) : ∀ l : List Cr, (seen.map fun c => sumF (f c) l).sum = sumF (fun x => (seen.map fun c => f c x).sum) l
  | [] => by
    have : ∀ s : List Cr, (s.map fun c => sumF (f c) []).sum = 0 := fun s => by
      induction s with
      | nil => rfl
      | cons a s ih => rw [List.map_cons, List.sum_cons, ih]; rfl
    rw [this]
    rfl
  | x :: l => by
    rw [sum_cons, sum_swap f seen l]
    simp [sumF]
def partsC (l : List Cr) (a b : Int) (seen : List Cr) : Int := (seen.map fun c => partC l a b c).sum
theorem parts_snoc (l : List Cr) (a b : Int) (seen : List Cr) (c : Cr) : partsC l a b (seen ++ [c]) = partsC l a b seen + partC l a b c := by
  unfold partsC
  simp
theorem SeenC.done {l seen : List Cr} (h : SeenC l seen l.length) {a b : Int} (hab : a ≤ b) : onC l a + partsC l a b seen = onC l b := by
  rw [gap_on hab]
  congr 1
  unfold partsC
  rw [show (seen.map fun c => partC l a b c) = seen.map fun c => sumF (fun x => if sameK c x = true then gapF a b x else 0) l from List.map_congr_left fun c _ => part_sum a b c l, sum_swap]
  unfold sumF
  congr 1
  refine List.map_congr_left fun x hx => ?_
  exact one_hit x _ seen h.apart (h.all x (by rw [List.take_of_length_le (Nat.le_refl _)]; exact hx))
theorem part_bound {l : List Cr} (hin : ∀ c ∈ l, inC c = true) (a b : Int) (c : Cr) : -(1000 * (l.length : Int)) ≤ partC l a b c ∧ partC l a b c ≤ 1000 * (l.length : Int) := by
  have := sumF_bound (cntF c.kind c.plc (a + 1) (b + 1)) l fun x hx => cntF_bound (hin x hx) _ _ _ _
  unfold partC cntC
  split <;> omega
theorem parts_bound {l : List Cr} (hin : ∀ c ∈ l, inC c = true) (a b : Int) : ∀ seen : List Cr, -(1000 * (l.length : Int) * (seen.length : Int)) ≤ partsC l a b seen ∧ partsC l a b seen ≤ 1000 * (l.length : Int) * (seen.length : Int)
  | [] => by simp [partsC]
  | c :: seen => by
    have ih := parts_bound hin a b seen
    have h1 := part_bound hin a b c
    unfold partsC at *
    simp only [List.map_cons, List.sum_cons, List.length_cons]
    have e : 1000 * (l.length : Int) * ((seen.length + 1 : Nat) : Int) = 1000 * (l.length : Int) * (seen.length : Int) + 1000 * (l.length : Int) := by
      rw [Int.natCast_add, Int.mul_add]
      simp
    rw [e]
    omega
end Go.Proofs.Ytihmboibpjfohaa
