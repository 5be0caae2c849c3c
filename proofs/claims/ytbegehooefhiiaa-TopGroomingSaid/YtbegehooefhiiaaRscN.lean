/-
  The plain law of the example of chapter 21: the search over the teams of the sections.
-/
import Derived.Laws.Bits64
namespace Go.Proofs.Ytbegehooefhiiaa

structure Sec where
  id : Int
  pe : Int
  se : Int
def sec0 : Sec := ⟨0, 0, 0⟩
/-- what the search keeps: the least end, what each team is busy with, the teams now and the best ones -/
structure BS where
  e : Int
  b : List Int
  x : List Int
  y : List Int
  deriving DecidableEq
def mx : List Int → Int
  | [] => 0
  | a :: l => l.foldl (fun m z => if m < z then z else m) a
theorem mx_one (l : List Int) (h : 1 ≤ l.length) : mx (l.take 1) = l.getD 0 0 := by
  rcases l with _ | ⟨a, l⟩
  · simp at h
  · rfl
theorem mx_succ (l : List Int) (k : Nat) (h1 : 1 ≤ k) (h : k < l.length) : mx (l.take (k + 1)) = if mx (l.take k) < l.getD k 0 then l.getD k 0 else mx (l.take k) := by
  rcases l with _ | ⟨a, l⟩
  · simp at h
  · obtain ⟨k, rfl⟩ : ∃ j, k = j + 1 := ⟨k - 1, by omega⟩
    have hk : k < l.length := by simp at h; omega
    have e : (a :: l).getD (k + 1) 0 = l[k] := by simp [List.getElem?_eq_getElem hk]
    rw [e, List.take_succ_cons, List.take_succ_cons, mx, mx, List.take_succ_eq_append_getElem hk, List.foldl_append]
    rfl
def leafB (s : BS) : BS := if s.e < 0 ∨ mx s.b < s.e then ⟨mx s.b, s.b, s.x, s.x⟩ else s
def putB (L : List Sec) (i t : Nat) (s : BS) : BS := ⟨s.e, s.b.set t (s.b.getD t 0 + (L.getD i sec0).se), s.x.set i (t : Int), s.y⟩
def unpB (L : List Sec) (i t : Nat) (s : BS) : BS := ⟨s.e, s.b.set t (s.b.getD t 0 - (L.getD i sec0).se), s.x, s.y⟩
def loopB (L : List Sec) (f : BS → BS) (i : Nat) : Nat → BS → BS
  | 0, s => s
  | t + 1, s => unpB L i (t + 1) (f (putB L i (t + 1) (loopB L f i t s)))
def tryB (L : List Sec) (tm : Nat) : Nat → Nat → BS → BS
  | 0, _, s => leafB s
  | k + 1, i, s => loopB L (tryB L tm k (i + 1)) i tm s
theorem setb_back (l : List Int) (t : Nat) (d : Int) : (l.set t (l.getD t 0 + d)).set t ((l.set t (l.getD t 0 + d)).getD t 0 - d) = l := by
  apply List.ext_getElem?
  intro j
  by_cases hj : t = j
  · subst hj
    by_cases ht : t < l.length
    · rw [List.getElem?_set_self (by simpa using ht), List.getElem?_eq_getElem ht]
      simp [ht]
    · rw [List.getElem?_eq_none (by simpa using ht), List.getElem?_eq_none (by simpa using ht)]
  · rw [List.getElem?_set_ne hj, List.getElem?_set_ne hj]
theorem loopB_b (L : List Sec) (f : BS → BS) (hf : ∀ s, (f s).b = s.b) (i : Nat) : ∀ t s, (loopB L f i t s).b = s.b
  | 0, _ => rfl
  | t + 1, s => by
    show (unpB L i (t + 1) (f (putB L i (t + 1) (loopB L f i t s)))).b = s.b
    unfold unpB
    simp only [hf]
    unfold putB
    simp only [loopB_b L f hf i t s]
    exact setb_back _ _ _
theorem tryB_b (L : List Sec) (tm : Nat) : ∀ k i s, (tryB L tm k i s).b = s.b
  | 0, _, s => by unfold tryB leafB; split <;> rfl
  | k + 1, i, s => loopB_b L _ (tryB_b L tm k (i + 1)) i tm s
/-- the lengths -/
structure LnB (n : Nat) (s : BS) : Prop where
  b : s.b.length = 4
  x : s.x.length = n
  y : s.y.length = n
theorem LnB.put {n : Nat} {s : BS} (h : LnB n s) (L : List Sec) (i t : Nat) : LnB n (putB L i t s) := ⟨by simp [putB, h.b], by simp [putB, h.x], h.y⟩
theorem LnB.unp {n : Nat} {s : BS} (h : LnB n s) (L : List Sec) (i t : Nat) : LnB n (unpB L i t s) := ⟨by simp [unpB, h.b], h.x, h.y⟩
theorem LnB.leaf {n : Nat} {s : BS} (h : LnB n s) : LnB n (leafB s) := by
  unfold leafB
  split
  · exact ⟨h.b, h.x, h.x⟩
  · exact h
theorem loopB_ln {n : Nat} (L : List Sec) (f : BS → BS) (hf : ∀ s, LnB n s → LnB n (f s)) (i : Nat) : ∀ t s, LnB n s → LnB n (loopB L f i t s)
  | 0, _, h => h
  | t + 1, s, h => (hf _ ((loopB_ln L f hf i t s h).put L i (t + 1))).unp L i (t + 1)
theorem tryB_ln {n : Nat} (L : List Sec) (tm : Nat) : ∀ k i s, LnB n s → LnB n (tryB L tm k i s)
  | 0, _, _, h => h.leaf
  | k + 1, i, s, h => loopB_ln L _ (tryB_ln L tm k (i + 1)) i tm s h
/-- no team has more to do than the sections before allow -/
def BdB (i : Nat) (s : BS) : Prop := ∀ j, 0 ≤ s.b.getD j 0 ∧ s.b.getD j 0 ≤ 1000 * (i : Int)
theorem BdB.put {i : Nat} {s : BS} (h : BdB i s) (L : List Sec) (t : Nat) (hL : 0 ≤ (L.getD i sec0).se ∧ (L.getD i sec0).se ≤ 1000) : BdB (i + 1) (putB L i t s) := by
  intro j
  have h1 := h j
  unfold putB
  by_cases hj : t = j
  · subst hj
    by_cases ht : t < s.b.length
    · have e : (s.b.set t (s.b.getD t 0 + (L.getD i sec0).se)).getD t 0 = s.b.getD t 0 + (L.getD i sec0).se := by simp [ht]
      simp only [e]
      omega
    · have e : (s.b.set t (s.b.getD t 0 + (L.getD i sec0).se)).getD t 0 = 0 := by simp [ht]
      simp only [e]
      omega
  · have e : (s.b.set t (s.b.getD t 0 + (L.getD i sec0).se)).getD j 0 = s.b.getD j 0 := by simp [List.getElem?_set_ne hj]
    simp only [e]
    omega
theorem BdB.same {i : Nat} {s s' : BS} (h : BdB i s) (e : s'.b = s.b) : BdB i s' := by unfold BdB; rw [e]; exact h
/-- the example -/
def sl2 : List Sec := [⟨1, 3, 10⟩, ⟨2, 1, 15⟩]
theorem ex_end : tryB sl2 2 2 0 ⟨-1, [0, 0, 0, 0], [0, 0], [0, 0]⟩ = ⟨15, [0, 0, 0, 0], [2, 2], [1, 2]⟩ := by decide +kernel
end Go.Proofs.Ytbegehooefhiiaa
