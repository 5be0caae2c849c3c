/-
  Maps of ski areas in memory: nodes, lifts, runs; the first one with an ID.
-/
import Derived.Test.YtihmboibpjfohaaStV
import Derived.Test.YtihmboibpjfohaaStrO
namespace Go.Proofs.Ytihmboibpjfohaa
open Go.RowKit

structure Nd where
  id : Int
  alt : Int
def nd0 : Nd := ⟨0, 0⟩
structure Lf where
  id : Int
  op : Int
  fr : Int
  tt : Int
  ln : Int
  sp : Int
  se : Int
  sc : Int
def lf0 : Lf := ⟨0, 0, 0, 0, 0, 0, 0, 0⟩
structure Rn where
  id : Int
  op : Int
  fr : Int
  tt : Int
  gr : Int
  zn : Int
  ln : Int
def rn0 : Rn := ⟨0, 0, 0, 0, 0, 0, 0⟩
abbrev Nd.cells (r : Nd) : List Value := [.int .i64 r.id, .int .i64 r.alt]
abbrev Lf.cells (r : Lf) : List Value := [.int .i64 r.id, .int .i64 r.op, .int .i64 r.fr, .int .i64 r.tt, .int .i64 r.ln, .int .i64 r.sp, .int .i64 r.se, .int .i64 r.sc]
abbrev Rn.cells (r : Rn) : List Value := [.int .i64 r.id, .int .i64 r.op, .int .i64 r.fr, .int .i64 r.tt, .int .i64 r.gr, .int .i64 r.zn, .int .i64 r.ln]
def findN (l : List Nd) (i : Int) : Option Nd := l.find? fun r => r.id == i
def findR (l : List Rn) (i : Int) : Option Rn := l.find? fun r => r.id == i
def ndOf (l : List Nd) (i : Int) : Nd := (findN l i).getD nd0
def hasN (l : List Nd) (i : Int) : Bool := (findN l i).isSome
def rnOf (l : List Rn) (i : Int) : Rn := (findR l i).getD rn0
def hasR (l : List Rn) (i : Int) : Bool := (findR l i).isSome
theorem findN_at (l : List Nd) (i : Int) (k : Nat) (h : k < l.length) : findN (l.drop k) i = if (l.getD k nd0).id = i then some (l.getD k nd0) else findN (l.drop (k + 1)) i := by
  have e : l.getD k nd0 = l[k] := by simp [List.getElem?_eq_getElem h]
  rw [List.drop_eq_getElem_cons h, findN, e]
  by_cases hi : (l[k]).id = i
  · rw [List.find?_cons_of_pos (by simpa using hi), if_pos hi]
  · rw [List.find?_cons_of_neg (by simpa using hi), if_neg hi]
    rfl
theorem findR_at (l : List Rn) (i : Int) (k : Nat) (h : k < l.length) : findR (l.drop k) i = if (l.getD k rn0).id = i then some (l.getD k rn0) else findR (l.drop (k + 1)) i := by
  have e : l.getD k rn0 = l[k] := by simp [List.getElem?_eq_getElem h]
  rw [List.drop_eq_getElem_cons h, findR, e]
  by_cases hi : (l[k]).id = i
  · rw [List.find?_cons_of_pos (by simpa using hi), if_pos hi]
  · rw [List.find?_cons_of_neg (by simpa using hi), if_neg hi]
    rfl
theorem hasN_iff {l : List Nd} {i : Int} : hasN l i = true ↔ i ∈ l.map Nd.id := by
  unfold hasN findN
  rw [List.find?_isSome]
  simp only [beq_iff_eq, List.mem_map]
theorem hasN_id {l : List Nd} {i : Int} (h : hasN l i = true) : ndOf l i ∈ l ∧ (ndOf l i).id = i := by
  unfold hasN at h
  unfold ndOf
  cases hf : findN l i with
  | none => rw [hf] at h; cases h
  | some q =>
    unfold findN at hf
    refine ⟨List.mem_of_find?_eq_some hf, ?_⟩
    have := List.find?_some hf
    simpa using this
theorem hasR_id {l : List Rn} {i : Int} (h : hasR l i = true) : rnOf l i ∈ l ∧ (rnOf l i).id = i := by
  unfold hasR at h
  unfold rnOf
  cases hf : findR l i with
  | none => rw [hf] at h; cases h
  | some q =>
    unfold findR at hf
    refine ⟨List.mem_of_find?_eq_some hf, ?_⟩
    have := List.find?_some hf
    simpa using this
def NodeR (q : Nd) (b : Bool) (w : World) (e : Ending) (w' : World) : Prop := e = .returned (.tuple #[.agg #[.int .i64 q.id, .int .i64 q.alt], .bool b]) ∧ Below w.heap.size w w'
theorem nodeR_of {q q' : Nd} {b b' : Bool} {w w' : World} (h : q = q') (h2 : b = b') (hb : Below w.heap.size w w') : NodeR q b w (.returned (.tuple #[.agg #[.int .i64 q'.id, .int .i64 q'.alt], .bool b'])) w' := ⟨by rw [h, h2], hb⟩
def RunR (q : Rn) (b : Bool) (w : World) (e : Ending) (w' : World) : Prop := e = .returned (.tuple #[.agg #[.int .i64 q.id, .int .i64 q.op, .int .i64 q.fr, .int .i64 q.tt, .int .i64 q.gr, .int .i64 q.zn, .int .i64 q.ln], .bool b]) ∧ Below w.heap.size w w'
theorem runR_of {q q' : Rn} {b b' : Bool} {w w' : World} (h : q = q') (h2 : b = b') (hb : Below w.heap.size w w') : RunR q b w (.returned (.tuple #[.agg #[.int .i64 q'.id, .int .i64 q'.op, .int .i64 q'.fr, .int .i64 q'.tt, .int .i64 q'.gr, .int .i64 q'.zn, .int .i64 q'.ln], .bool b'])) w' := ⟨by rw [h, h2], hb⟩
/-- what Right of a map says -/
structure MapOK (nd : List Nd) (lf : List Lf) (rs : List Rn) (bs : List Int) : Prop where
  l1 : nd.length ≤ 64
  l2 : lf.length ≤ 32
  l3 : rs.length ≤ 64
  l4 : bs.length ≤ 64
  nodes : ∀ x ∈ nd, (1 ≤ x.id ∧ x.id ≤ 9999) ∧ 0 ≤ x.alt ∧ x.alt ≤ 5000
  ninc : ∀ k, k + 1 < nd.length → (nd.getD k nd0).id < (nd.getD (k + 1) nd0).id
  lifts : ∀ x ∈ lf, hasN nd x.fr = true ∧ hasN nd x.tt = true ∧ 10 ≤ x.ln ∧ x.ln ≤ 6000
  runs : ∀ x ∈ rs, (1 ≤ x.id ∧ x.id ≤ 9999) ∧ hasN nd x.fr = true ∧ hasN nd x.tt = true ∧ (ndOf nd x.tt).alt < (ndOf nd x.fr).alt ∧ (1 ≤ x.gr ∧ x.gr ≤ 4) ∧ 10 ≤ x.ln ∧ x.ln ≤ 20000
  rinc : ∀ k, k + 1 < rs.length → (rs.getD k rn0).id < (rs.getD (k + 1) rn0).id
  bne : bs ≠ []
  bases : ∀ x ∈ bs, hasN nd x = true
end Go.Proofs.Ytihmboibpjfohaa
