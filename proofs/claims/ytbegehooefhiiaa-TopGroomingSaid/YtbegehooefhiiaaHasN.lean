/-
  Searches of lists of numbers, in plain Lean.
-/
import Derived.Test.YtbegehooefhiiaaBase
namespace Go.Proofs.Ytbegehooefhiiaa

def idxF (f : Int → Bool) : List Int → Nat → Int
  | [], _ => -1
  | x :: l, k => if f x = true then (k : Int) else idxF f l (k + 1)
theorem drop_at (l : List Int) (k : Nat) (h : k < l.length) : l.drop k = l.getD k 0 :: l.drop (k + 1) := by
  rw [List.drop_eq_getElem_cons h]
  simp [List.getElem?_eq_getElem h]
theorem take_at (l : List Int) (k : Nat) (h : k < l.length) : l.take (k + 1) = l.take k ++ [l.getD k 0] := by
  rw [List.take_succ_eq_append_getElem h]
  simp [List.getElem?_eq_getElem h]
theorem idxF_yes {f : Int → Bool} {l : List Int} {k : Nat} (h : k < l.length) (hf : f (l.getD k 0) = true) : idxF f (l.drop k) k = (k : Int) := by
  rw [drop_at l k h, idxF, if_pos hf]
theorem idxF_no {f : Int → Bool} {l : List Int} {k : Nat} (h : k < l.length) (hf : f (l.getD k 0) = false) : idxF f (l.drop k) k = idxF f (l.drop (k + 1)) (k + 1) := by
  rw [drop_at l k h, idxF, hf]
  rfl
def indI (l : List Int) (x : Int) : Int := idxF (fun y => y == x) l 0
theorem contains_ind : ∀ (l : List Int) (x : Int) (k : Nat), l.contains x = decide (0 ≤ idxF (fun y => y == x) l k)
  | [], x, k => rfl
  | y :: l, x, k => by
    rw [List.contains_cons, idxF]
    by_cases h : x = y
    · subst h; simp
    · have h1 : (x == y) = false := beq_eq_false_iff_ne.2 h
      have h2 : (y == x) = false := beq_eq_false_iff_ne.2 (Ne.symm h)
      rw [h1, h2, contains_ind l x (k + 1)]
      simp
end Go.Proofs.Ytbegehooefhiiaa
