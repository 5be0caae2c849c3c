/-
  Chapter 55: crossings, in plain Lean.
-/
import Derived.WalkKit
namespace Go.Proofs.Ytihmboibpjfohaa

structure Cr where
  kind : Int
  plc : Int
  num : Int
  att : Int
  deriving DecidableEq
def cr0 : Cr := ⟨0, 0, 0, 0⟩
def inC (c : Cr) : Bool := decide (1 ≤ c.kind ∧ c.kind ≤ 3 ∧ 1 ≤ c.plc ∧ c.plc ≤ 9999 ∧ 1 ≤ c.num ∧ c.num ≤ 1000 ∧ 0 ≤ c.att ∧ c.att ≤ 20000000)
def chC (c : Cr) : Int := if c.kind = 1 then c.num else -c.num
def sumF (g : Cr → Int) (l : List Cr) : Int := (l.map g).sum
theorem cr_at {l : List Cr} {k : Nat} (h : k < l.length) : l.take (k + 1) = l.take k ++ [l.getD k cr0] := by
  rw [List.take_succ_eq_append_getElem h]
  simp [List.getElem?_eq_getElem h]
theorem cr_mem {l : List Cr} {k : Nat} (h : k < l.length) : l.getD k cr0 ∈ l := by simp [List.getElem?_eq_getElem h]
theorem cr_drop {l : List Cr} {k : Nat} (h : k < l.length) : l.drop k = l.getD k cr0 :: l.drop (k + 1) := by
  rw [List.drop_eq_getElem_cons h]
  simp [List.getElem?_eq_getElem h]
theorem sumF_append (g : Cr → Int) (l m : List Cr) : sumF g (l ++ m) = sumF g l + sumF g m := by unfold sumF; simp
theorem sumF_snoc (g : Cr → Int) {l : List Cr} {k : Nat} (h : k < l.length) : sumF g (l.take (k + 1)) = sumF g (l.take k) + g (l.getD k cr0) := by
  rw [cr_at h, sumF_append]
  simp [sumF]
theorem sumF_bound (g : Cr → Int) (l : List Cr) (h : ∀ c ∈ l, -1000 ≤ g c ∧ g c ≤ 1000) : -(1000 * (l.length : Int)) ≤ sumF g l ∧ sumF g l ≤ 1000 * (l.length : Int) := by
  induction l with
  | nil => simp [sumF]
  | cons c l ih =>
    have h1 := h c (by simp)
    have h2 := ih fun c' hc => h c' (by simp [hc])
    simp only [sumF, List.map_cons, List.sum_cons, List.length_cons] at *
    omega
theorem sumF_take (g : Cr → Int) (l : List Cr) (k : Nat) (h : ∀ c ∈ l, -1000 ≤ g c ∧ g c ≤ 1000) : -(1000 * (k : Int)) ≤ sumF g (l.take k) ∧ sumF g (l.take k) ≤ 1000 * (k : Int) := by
  have h1 := sumF_bound g (l.take k) fun c hc => h c (List.mem_of_mem_take hc)
  have h2 : (l.take k).length ≤ k := by rw [List.length_take]; exact Nat.min_le_left _ _
  omega
theorem chC_bound {c : Cr} (h : inC c = true) : -1000 ≤ chC c ∧ chC c ≤ 1000 := by
  have h := of_decide_eq_true h
  unfold chC
  split <;> omega

/-! ### the first error -/
def lateC : Option Int → Int → Bool
  | none, _ => false
  | some a, b => decide (b < a)
def chkC : Option Int → Int → List Cr → Nat
  | _, _, [] => 0
  | p, on, c :: l => if inC c = false then 2 else if lateC p c.att = true then 11 else if on + chC c < 0 then 10 else chkC (some c.att) (on + chC c) l
def rightC (l : List Cr) : Nat := if 2000 < l.length then 4 else chkC none 0 l
def prevC (l : List Cr) (k : Nat) : Option Int := if k = 0 then none else some (l.getD (k - 1) cr0).att
structure GoC (l : List Cr) (k : Nat) : Prop where
  eq : rightC l = chkC (prevC l k) (sumF chC (l.take k)) (l.drop k)
  pos : 0 ≤ sumF chC (l.take k)
  all : ∀ c ∈ l.take k, inC c = true
theorem GoC.start {l : List Cr} (h : l.length ≤ 2000) : GoC l 0 := ⟨by unfold rightC; rw [if_neg (by omega)]; simp [prevC, sumF], by simp [sumF], by simp⟩
theorem GoC.le {l : List Cr} {k : Nat} (h : GoC l k) : 0 ≤ sumF chC (l.take k) ∧ sumF chC (l.take k) ≤ 1000 * (k : Int) := by
  have h1 := sumF_bound chC (l.take k) fun c hc => chC_bound (h.all c hc)
  have h2 : (l.take k).length ≤ k := by rw [List.length_take]; exact Nat.min_le_left _ _
  have := h.pos
  omega
theorem GoC.done {l : List Cr} (h : GoC l l.length) : rightC l = 0 := by rw [h.eq, List.drop_of_length_le (Nat.le_refl _)]; rfl
theorem GoC.next {l : List Cr} {k : Nat} (h : GoC l k) (hk : k < l.length) :
    rightC l = if inC (l.getD k cr0) = false then 2 else if lateC (prevC l k) (l.getD k cr0).att = true then 11 else if sumF chC (l.take k) + chC (l.getD k cr0) < 0 then 10 else rightC l := by
  have he := h.eq
  rw [cr_drop hk, chkC] at he
  split
  · rw [he, if_pos (by assumption)]
  · split
    · rw [he, if_neg (by assumption), if_pos (by assumption)]
    · split
      · rw [he, if_neg (by assumption), if_neg (by assumption), if_pos (by assumption)]
      · rfl
theorem GoC.step {l : List Cr} {k : Nat} (h : GoC l k) (hk : k < l.length) (h1 : inC (l.getD k cr0) = true) (h2 : lateC (prevC l k) (l.getD k cr0).att = false) (h3 : 0 ≤ sumF chC (l.take k) + chC (l.getD k cr0)) : GoC l (k + 1) := by
  have he := h.eq
  rw [cr_drop hk, chkC, if_neg (by rw [h1]; decide), if_neg (by rw [h2]; decide), if_neg (by omega)] at he
  refine ⟨?_, ?_, ?_⟩
  · rw [he, sumF_snoc chC hk]
    simp [prevC]
  · rw [sumF_snoc chC hk]
    exact h3
  · rw [cr_at hk]
    intro c hc
    rcases List.mem_append.1 hc with hc | hc
    · exact h.all c hc
    · rw [List.mem_singleton.1 hc]
      exact h1
/-- what it means that crossings are accepted -/
theorem chk_ok : ∀ (l : List Cr) (p : Option Int) (on : Int), chkC p on l = 0 → (∀ c ∈ l, inC c = true) ∧ (∀ k, k ≤ l.length → 0 < k → 0 ≤ on + sumF chC (l.take k)) ∧ (∀ c ∈ l, lateC p c.att = false) ∧ l.Pairwise (fun a b => a.att ≤ b.att)
  | [], _, _, _ => ⟨by simp, by intro k h1 h2; simp at h1; omega, by simp, List.Pairwise.nil⟩
  | c :: l, p, on, h => by
    rw [chkC] at h
    split at h
    · cases h
    · split at h
      · cases h
      · split at h
        · cases h
        · rename_i h1 h2 h3
          obtain ⟨a1, a2, a3, a4⟩ := chk_ok l _ _ h
          have hl : ∀ x ∈ l, c.att ≤ x.att := fun x hx => by
            have := a3 x hx
            simp only [lateC, decide_eq_false_iff_not] at this
            omega
          refine ⟨?_, ?_, ?_, ?_⟩
          · intro x hx
            rcases List.mem_cons.1 hx with rfl | hx
            · simpa using h1
            · exact a1 x hx
          · intro k hk h0
            obtain ⟨j, rfl⟩ : ∃ j, k = j + 1 := ⟨k - 1, by omega⟩
            have e : sumF chC ((c :: l).take (j + 1)) = chC c + sumF chC (l.take j) := by simp [sumF]
            rw [e]
            rcases Nat.eq_zero_or_pos j with rfl | hj
            · simp [sumF]; omega
            · have := a2 j (by simpa using hk) hj
              omega
          · intro x hx
            rcases List.mem_cons.1 hx with rfl | hx
            · simpa using h2
            · have h4 := hl x hx
              cases p with
              | none => rfl
              | some a =>
                simp only [lateC, decide_eq_true_eq] at h2
                simp only [lateC, decide_eq_false_iff_not]
                omega
          · exact List.pairwise_cons.2 ⟨hl, a4⟩
theorem right_ok {l : List Cr} (h : rightC l = 0) : l.length ≤ 2000 ∧ (∀ c ∈ l, inC c = true) ∧ (∀ k, 0 ≤ sumF chC (l.take k)) ∧ l.Pairwise (fun a b => a.att ≤ b.att) := by
  unfold rightC at h
  split at h
  · cases h
  · obtain ⟨h1, h2, _, h3⟩ := chk_ok l _ _ h
    refine ⟨by omega, h1, fun k => ?_, h3⟩
    rcases Nat.eq_zero_or_pos k with rfl | hk
    · simp [sumF]
    · rcases Nat.lt_or_ge l.length k with hl | hl
      · rw [List.take_of_length_le (by omega)]
        rcases Nat.eq_zero_or_pos l.length with h0 | h0
        · rw [List.eq_nil_of_length_eq_zero h0]; simp [sumF]
        · have := h2 l.length (Nat.le_refl _) h0
          rw [List.take_length] at this
          omega
      · have := h2 k hl hk
        omega

/-! ### how many are there, and how many crossed -/
def onF (t : Int) (c : Cr) : Int := if c.att ≤ t then chC c else 0
def onC (l : List Cr) (t : Int) : Int := sumF (onF t) l
def cntF (kd pl a b : Int) (c : Cr) : Int := if c.kind = kd ∧ c.plc = pl ∧ a ≤ c.att ∧ c.att < b then c.num else 0
def cntC (l : List Cr) (kd pl a b : Int) : Int := sumF (cntF kd pl a b) l
theorem onF_bound {c : Cr} (h : inC c = true) (t : Int) : -1000 ≤ onF t c ∧ onF t c ≤ 1000 := by
  have := chC_bound h
  unfold onF
  split <;> omega
theorem cntF_bound {c : Cr} (h : inC c = true) (kd pl a b : Int) : -1000 ≤ cntF kd pl a b c ∧ cntF kd pl a b c ≤ 1000 := by
  have h := of_decide_eq_true h
  unfold cntF
  split <;> omega
end Go.Proofs.Ytihmboibpjfohaa
