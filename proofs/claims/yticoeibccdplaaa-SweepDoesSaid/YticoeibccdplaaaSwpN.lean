/-
  The plain law of chapter 56: sweeps. No program is in sight.
-/
import Derived.Test.YticoeibccdplaaaBase
namespace Go.Proofs.Yticoeibccdplaaa

/-- a run of a map -/
structure Rn where
  id : Int
  op : Int
  fr : Int
  tt : Int
  gr : Int
  zn : Int
  ln : Int
def rn0 : Rn := ⟨0, 0, 0, 0, 0, 0, 0⟩
def findF (l : List Rn) (i : Int) : Option Rn := l.find? fun r => r.id == i
def getR (l : List Rn) (i : Int) : Rn := (findF l i).getD rn0
def hasR (l : List Rn) (i : Int) : Bool := (findF l i).isSome
/-- a run of a sweep that was swept -/
structure Sw where
  run : Int
  byy : Int
  att : Int
  fnd : Int
def sw0 : Sw := ⟨0, 0, 0, 0⟩

/-- the first error of those with the numbers k, k + 1 .. -/
def errF (f : Nat → Int) : Nat → Nat → Int
  | _, 0 => 0
  | k, n + 1 => if f k ≠ 0 then f k else errF f (k + 1) n
theorem errF_no {f : Nat → Int} {k n : Nat} (hk : k < n) (h : f k = 0) : errF f k (n - k) = errF f (k + 1) (n - (k + 1)) := by
  obtain ⟨m, hm⟩ : ∃ m, n - k = m + 1 := ⟨n - k - 1, by omega⟩
  rw [hm, show n - (k + 1) = m by omega, errF, if_neg (by simpa using h)]
theorem errF_yes {f : Nat → Int} {k n : Nat} (hk : k < n) (h : f k ≠ 0) : errF f k (n - k) = f k := by
  obtain ⟨m, hm⟩ : ∃ m, n - k = m + 1 := ⟨n - k - 1, by omega⟩
  rw [hm, errF, if_pos h]
theorem errF_zero {f : Nat → Int} : ∀ {n k : Nat}, errF f k n = 0 ↔ ∀ i, k ≤ i → i < k + n → f i = 0
  | 0, k => ⟨fun _ i h1 h2 => by omega, fun _ => rfl⟩
  | n + 1, k => by
    rw [errF]
    constructor
    · intro h i h1 h2
      by_cases hk : f k ≠ 0
      · rw [if_pos hk] at h; exact absurd h hk
      · rw [if_neg hk] at h
        rcases Nat.lt_or_ge k i with hki | hki
        · exact errF_zero.1 h i (by omega) (by omega)
        · obtain rfl : i = k := by omega
          simpa using hk
    · intro h
      rw [if_neg (by simpa using h k (Nat.le_refl _) (by omega))]
      exact errF_zero.2 fun i h1 h2 => h i (by omega) (by omega)
theorem errF_congr {f g : Nat → Int} : ∀ {n k : Nat}, (∀ i, k ≤ i → i < k + n → f i = g i) → errF f k n = errF g k n
  | 0, _, _ => rfl
  | n + 1, k, h => by
    rw [errF, errF, h k (Nat.le_refl _) (by omega), errF_congr fun i h1 h2 => h i (by omega) (by omega)]

/-- the index of the first element that a test takes, or -1 -/
def idxF (f : Int → Bool) : List Int → Nat → Int
  | [], _ => -1
  | x :: l, k => if f x = true then (k : Int) else idxF f l (k + 1)
theorem drop_at (l : List Int) (k : Nat) (h : k < l.length) : l.drop k = l.getD k 0 :: l.drop (k + 1) := by
  rw [List.drop_eq_getElem_cons h]
  simp [List.getElem?_eq_getElem h]
theorem take_at (l : List Int) (k : Nat) (h : k < l.length) : l.take (k + 1) = l.take k ++ [l.getD k 0] := by
  rw [List.take_succ_eq_append_getElem h]
  simp [List.getElem?_eq_getElem h]
theorem idxF_yes {f : Int → Bool} {l : List Int} {k : Nat} (h : k < l.length) (hf : f (l.getD k 0) = true) : idxF f (l.drop k) k = (k : Int) := by
  rw [drop_at l k h, idxF, if_pos hf]
theorem idxF_no {f : Int → Bool} {l : List Int} {k : Nat} (h : k < l.length) (hf : f (l.getD k 0) = false) : idxF f (l.drop k) k = idxF f (l.drop (k + 1)) (k + 1) := by
  rw [drop_at l k h, idxF, hf]
  rfl

/-- the run of a map with an ID, from an index on -/
theorem findF_yes {l : List Rn} {i : Int} {k : Nat} (h : k < l.length) (he : (l[k]).id = i) : findF (l.drop k) i = some l[k] := by
  rw [List.drop_eq_getElem_cons h, findF, List.find?_cons_of_pos (by simpa using he)]
theorem findF_no {l : List Rn} {i : Int} {k : Nat} (h : k < l.length) (he : (l[k]).id ≠ i) : findF (l.drop k) i = findF (l.drop (k + 1)) i := by
  rw [List.drop_eq_getElem_cons h, findF, List.find?_cons_of_neg (by simpa using he)]
  rfl
theorem hasR_eq (l : List Rn) (i : Int) : hasR l i = (findF l i).isSome := rfl

/-! ### a sweep, over any relation 'comes before' -/
def befP (rs : List Rn) (a b : Int) : Bool := (getR rs a).tt == (getR rs b).fr
def befR (rs : List Rn) (a b : Int) : Bool := hasR rs a && (hasR rs b && befP rs a b)
def outP (rs : List Rn) (bs : List Int) (a : Int) : Bool := bs.contains (getR rs a).tt
def outR (rs : List Rn) (bs : List Int) (a : Int) : Bool := hasR rs a && outP rs bs a
def possB (bef : Int → Int → Bool) (runs done : List Int) (run : Int) : Bool := runs.all fun x => !(bef x run && !done.contains x)
def readyL (bef : Int → Int → Bool) (runs done : List Int) : List Int := runs.filter fun r => !done.contains r && possB bef runs done r
/-- the order, at most n runs more -/
def ordGo (bef : Int → Int → Bool) (runs : List Int) : Nat → List Int → List Int
  | 0, out => out
  | n + 1, out => match readyL bef runs out with
    | [] => out
    | x :: _ => ordGo bef runs n (out ++ [x])
def ordN (bef : Int → Int → Bool) (runs : List Int) : List Int := ordGo bef runs runs.length []
/-- the index of the run where those of a run go on to, or -1 -/
def lowI (bef : Int → Int → Bool) (runs : List Int) (run : Int) : Int := idxF (bef run) runs 0
def indI (l : List Int) (x : Int) : Int := idxF (fun y => y == x) l 0

def chk1 (has : Int → Bool) (runs : List Int) (k : Nat) : Int := if has (runs.getD k 0) = false then 8 else if 0 < k ∧ runs.getD k 0 ≤ runs.getD (k - 1) 0 then 11 else 0
def chk2 (bef : Int → Int → Bool) (out : Int → Bool) (runs : List Int) (k : Nat) : Int := if out (runs.getD k 0) = false ∧ lowI bef runs (runs.getD k 0) < 0 then 16 else 0
def runE (has : Int → Bool) (bef : Int → Int → Bool) (out : Int → Bool) (runs : List Int) : Int :=
  if errF (chk1 has runs) 0 runs.length ≠ 0 then errF (chk1 has runs) 0 runs.length else errF (chk2 bef out runs) 0 runs.length
def InS (begun : Int) (w : Sw) : Prop := 1 ≤ w.byy ∧ w.byy ≤ 9999 ∧ 0 ≤ w.fnd ∧ w.fnd ≤ 1000 ∧ begun ≤ w.att ∧ w.att ≤ 20000000
instance (begun : Int) (w : Sw) : Decidable (InS begun w) := by unfold InS; exact inferInstance
def chk3 (bef : Int → Int → Bool) (runs : List Int) (begun : Int) (sw : List Sw) (k : Nat) : Int :=
  if runs.contains (sw.getD k sw0).run = false then 8
  else if ((sw.take k).map Sw.run).contains (sw.getD k sw0).run = true then 7
  else if ¬ InS begun (sw.getD k sw0) then 2
  else if (0 < k ∧ (sw.getD k sw0).att < (sw.getD (k - 1) sw0).att) ∨ possB bef runs ((sw.take k).map Sw.run) (sw.getD k sw0).run = false then 11 else 0
def rightG (has : Int → Bool) (bef : Int → Int → Bool) (out : Int → Bool) (runs : List Int) (begun : Int) (sw : List Sw) : Int :=
  if 64 < runs.length then 4
  else if runE has bef out runs ≠ 0 then runE has bef out runs
  else if begun < 0 ∨ 20000000 < begun then 2
  else errF (chk3 bef runs begun sw) 0 sw.length
/-- the error of the program and of the reference -/
def rightP (rs : List Rn) (bs runs : List Int) (begun : Int) (sw : List Sw) : Int := rightG (hasR rs) (befP rs) (outP rs bs) runs begun sw
def rightR (rs : List Rn) (bs runs : List Int) (begun : Int) (sw : List Sw) : Int := rightG (hasR rs) (befR rs) (outR rs bs) runs begun sw

def foundN (sw : List Sw) : Int := (sw.map Sw.fnd).sum
def doneB (runs : List Int) (sw : List Sw) : Bool := runs.all fun r => (sw.map Sw.run).contains r
def formB (runs people : List Int) : Bool := decide (people.length = runs.length) && people.all fun n => decide (0 ≤ n) && decide (n ≤ 1000000)
/-- where persons are after the run with index i was swept, and how many left: by the program, and by the reference -/
def pushN (bef : Int → Int → Bool) (out : Int → Bool) (runs people : List Int) (i : Nat) : List Int × Int :=
  if out (runs.getD i 0) = true then (people.set i 0, people.getD i 0)
  else if 0 ≤ lowI bef runs (runs.getD i 0) then ((people.set i 0).set (lowI bef runs (runs.getD i 0)).toNat ((people.set i 0).getD (lowI bef runs (runs.getD i 0)).toNat 0 + people.getD i 0), 0)
  else (people, 0)
/-- the persons and those who left, behind some runs -/
def allGo (bef : Int → Int → Bool) (out : Int → Bool) (runs : List Int) : List Int → List Int → Int → List Int × Int
  | [], p, left => (p, left)
  | r :: l, p, left => allGo bef out runs l (pushN bef out runs p (indI runs r).toNat).1 (left + (pushN bef out runs p (indI runs r).toNat).2)
end Go.Proofs.Yticoeibccdplaaa
