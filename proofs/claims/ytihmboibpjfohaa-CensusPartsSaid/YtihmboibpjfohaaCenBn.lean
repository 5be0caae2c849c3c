/-
  The persons on the mountain: who came up, who left; in plain Lean.
-/
import Derived.Test.YtihmboibpjfohaaCenP
namespace Go.Proofs.Ytihmboibpjfohaa

def upF (t : Int) (c : Cr) : Int := if c.att ≤ t ∧ c.kind = 1 then c.num else 0
def goF (t : Int) (c : Cr) : Int := if c.att ≤ t ∧ c.kind ≠ 1 then c.num else 0
def anyA (t : Int) (l : List Cr) : Bool := l.any fun c => c.att == t
theorem on_up (t : Int) : ∀ l : List Cr, onC l t = sumF (upF t) l - sumF (goF t) l
  | [] => rfl
  | c :: l => by
    have ih := on_up t l
    unfold onC sumF at *
    simp only [List.map_cons, List.sum_cons]
    rw [ih]
    have : onF t c = upF t c - goF t c := by
      unfold onF upF goF chC
      by_cases h1 : c.att ≤ t <;> by_cases h2 : c.kind = 1 <;> simp [h1, h2]
    rw [this]
    omega
theorem upF_bound {c : Cr} (h : inC c = true) (t : Int) : 0 ≤ upF t c ∧ upF t c ≤ 1000 := by
  have h' := of_decide_eq_true h
  unfold upF
  split <;> omega
theorem goF_bound {c : Cr} (h : inC c = true) (t : Int) : 0 ≤ goF t c ∧ goF t c ≤ 1000 := by
  have h' := of_decide_eq_true h
  unfold goF
  split <;> omega
theorem sum_pos (g : Cr → Int) : ∀ (l : List Cr), (∀ c ∈ l, 0 ≤ g c) → 0 ≤ sumF g l
  | [], _ => Int.le_refl _
  | c :: l, h => by
    have h1 := h c (by simp)
    have h2 := sum_pos g l fun x hx => h x (by simp [hx])
    unfold sumF at *
    simp only [List.map_cons, List.sum_cons]
    omega
theorem on_before {l : List Cr} {t : Int} (h : anyA t l = false) : onC l (t - 1) = onC l t := by
  unfold onC sumF
  congr 1
  refine List.map_congr_left fun c hc => ?_
  have hne : ¬ c.att = t := fun e => by
    unfold anyA at h
    rw [List.any_eq_false] at h
    exact h c hc (by simp [e])
  unfold onF
  by_cases h1 : c.att ≤ t
  · rw [if_pos (by omega), if_pos h1]
  · rw [if_neg (by omega), if_neg h1]
theorem anyA_snoc (t : Int) {l : List Cr} {k : Nat} (h : k < l.length) : anyA t (l.take (k + 1)) = (anyA t (l.take k) || (l.getD k cr0).att == t) := by
  rw [cr_at h]
  unfold anyA
  simp
theorem on_nonneg {l : List Cr} (h : rightC l = 0) (t : Int) : 0 ≤ onC l t := by
  obtain ⟨_, _, h3, h4⟩ := right_ok h
  obtain ⟨k, _, hk, _⟩ := on_split l h4 t
  rw [hk]
  exact h3 k
end Go.Proofs.Ytihmboibpjfohaa
