/-
  Words for slices of integers and slices of such slices, over any program.
-/
import Derived.Test.YtedeggjefnpjgaaBase
namespace Go.Proofs.Ytedeggjefnpjgaa
open Go.RowKit

/-- a slice of ints that reads as l -/
abbrev Ints (w : World) (B : Nat) (A : Option Addr) (n : Nat) (l : List Int) : Prop := Reads w B 1 A n (l.map (Value.int .i64))
theorem oneCell_ints (l : List Int) : ∀ u ∈ l.map (Value.int .i64), u.oneCell' = true := by
  intro u hu
  obtain ⟨c, _, rfl⟩ := List.mem_map.1 hu
  rfl
section
variable {w w' : World} {B B' n : Nat} {A : Option Addr} {l : List Int}
theorem Reads.ilen (h : Ints w B A n l) : l.length = n := by simpa using h.1
theorem Reads.int {k : Nat} (h : Ints w B A n l) (hk : k < n) : ∃ ad, A = some ad ∧ ad.block < B ∧ w.cell? (ad.add k) = some (.int .i64 (l.getD k 0)) := by
  obtain ⟨ad, u, e, hb, hx, hc⟩ := h.at_ hk
  refine ⟨ad, e, hb, ?_⟩
  rw [hc]
  have hl := h.ilen
  rw [List.getElem?_map, List.getElem?_eq_getElem (by omega)] at hx
  simp at hx
  rw [← hx]
  simp [List.getElem?_eq_getElem (show k < l.length by omega)]
theorem Reads.ifront {m : Nat} (h : Ints w B A n l) (hm : m ≤ n) : Ints w B A m (l.take m) := by
  have := Reads.front h hm
  rwa [← List.map_take] at this
end

/-- a slice value that reads as a row of numbers -/
def RowV (w : World) (B : Nat) (v : Value) (r : List Int) : Prop := ∃ a c, v = .slice a r.length c ∧ r.length ≤ c ∧ c ≤ maxLen ∧ Ints w B a r.length r
/-- a slice of slices that reads as a matrix -/
def Mat (w : World) (B : Nat) (A : Option Addr) (n : Nat) (rows : List (List Int)) : Prop :=
  ∃ vs : List Value, Reads w B 1 A n vs ∧ rows.length = n ∧ ∀ (i : Nat) (r : List Int), rows[i]? = some r → ∃ v, vs[i]? = some v ∧ RowV w B v r
section
variable {w w' : World} {B B' n : Nat} {A : Option Addr} {rows : List (List Int)} {v : Value} {r : List Int}
theorem RowV.keep (h : RowV w B v r) (hk : ∀ p : Addr, p.block < B → w'.cell? p = w.cell? p) : RowV w' B v r := by
  obtain ⟨a, c, h1, h2, h3, h4⟩ := h
  exact ⟨a, c, h1, h2, h3, h4.keep hk⟩
theorem RowV.more (h : RowV w B v r) (hB : B ≤ B') : RowV w B' v r := by
  obtain ⟨a, c, h1, h2, h3, h4⟩ := h
  exact ⟨a, c, h1, h2, h3, h4.more hB⟩
theorem RowV.below (h : RowV w B v r) (hb : Below B w w') : RowV w' B v r := h.keep fun _ hp => hb.cell hp
theorem RowV.drewN (h : RowV w B v r) (k : Nat) : RowV (w.drewN k) B v r := h
theorem Mat.keep (h : Mat w B A n rows) (hk : ∀ p : Addr, p.block < B → w'.cell? p = w.cell? p) : Mat w' B A n rows := by
  obtain ⟨vs, h1, h2, h3⟩ := h
  exact ⟨vs, h1.keep hk, h2, fun i r hr => by
    obtain ⟨v, hv, h4⟩ := h3 i r hr
    exact ⟨v, hv, h4.keep hk⟩⟩
theorem Mat.below (h : Mat w B A n rows) (hb : Below B w w') : Mat w' B A n rows := h.keep fun _ hp => hb.cell hp
theorem Mat.drewN (h : Mat w B A n rows) (k : Nat) : Mat (w.drewN k) B A n rows := h
theorem Mat.alloc (h : Mat w B A n rows) (hB : B ≤ w.heap.size) (o : Obj) : Mat (w.alloc o) B A n rows := h.keep fun p hp => World.cell?_alloc_lt w o p (by omega)
theorem Mat.more (h : Mat w B A n rows) (hB : B ≤ B') : Mat w B' A n rows := by
  obtain ⟨vs, h1, h2, h3⟩ := h
  exact ⟨vs, h1.more hB, h2, fun i r hr => by
    obtain ⟨v, hv, h4⟩ := h3 i r hr
    exact ⟨v, hv, h4.more hB⟩⟩
theorem Mat.len (h : Mat w B A n rows) : rows.length = n := by obtain ⟨_, _, h2, _⟩ := h; exact h2
theorem Mat.row {k : Nat} (h : Mat w B A n rows) (hk : k < n) : ∃ ad a c, A = some ad ∧ ad.block < B ∧ w.cell? (ad.add k) = some (.slice a (rows.getD k []).length c) ∧
    (rows.getD k []).length ≤ c ∧ c ≤ maxLen ∧ Ints w B a (rows.getD k []).length (rows.getD k []) := by
  obtain ⟨vs, h1, h2, h3⟩ := h
  obtain ⟨ad, u, e, hb, hx, hc⟩ := h1.at_ hk
  have hg : rows[k]? = some (rows.getD k []) := by simp [List.getElem?_eq_getElem (show k < rows.length by omega)]
  obtain ⟨v, hv, a, c, rfl, h4, h5, h6⟩ := h3 k _ hg
  rw [hx] at hv
  injection hv with hv
  exact ⟨ad, a, c, e, hb, by rw [hc, hv], h4, h5, h6⟩
end
/-- a row of numbers in a block that has just been made -/
theorem RowV.new (w : World) (t : TypeId) (l : List Int) (n : Nat) (hn : l.length = n) (hm : n ≤ maxLen) (cs : Array Value) (hcs : cs.toList = l.map (Value.int .i64)) :
    RowV (w.alloc (.cells cs t)) (w.heap.size + 1) (.slice (some ⟨w.heap.size, 0, none⟩) n n) l := by
  subst hn
  refine ⟨_, _, rfl, Nat.le_refl _, hm, ?_⟩
  have := Reads.new w t cs 1 l.length (by rw [← Array.length_toList, hcs]; simp)
  rwa [hcs] at this
theorem RowV.alloc {w : World} {B : Nat} {v : Value} {r : List Int} (h : RowV w B v r) (hB : B ≤ w.heap.size) (o : Obj) : RowV (w.alloc o) B v r := h.keep fun p hp => World.cell?_alloc_lt w o p (by omega)
/-- the rows of a matrix, one value for each -/
def RowsV (w : World) (B : Nat) : List Value → List (List Int) → Prop
  | [], [] => True
  | v :: vs, r :: rs => RowV w B v r ∧ RowsV w B vs rs
  | _, _ => False
theorem RowsV.at_ {w : World} {B : Nat} : ∀ {vs : List Value} {rs : List (List Int)}, RowsV w B vs rs → vs.length = rs.length ∧ ∀ (i : Nat) (r : List Int), rs[i]? = some r → ∃ v, vs[i]? = some v ∧ RowV w B v r
  | [], [], _ => ⟨rfl, fun i r h => by simp at h⟩
  | v :: vs, r :: rs, h => by
    obtain ⟨h1, h2⟩ := RowsV.at_ h.2
    refine ⟨by simp [h1], fun i r' hr => ?_⟩
    cases i with
    | zero =>
      simp at hr
      subst hr
      exact ⟨v, rfl, h.1⟩
    | succ i => exact h2 i r' (by simpa using hr)
  | [], _ :: _, h => h.elim
  | _ :: _, [], h => h.elim
theorem Mat.new (w : World) (t : TypeId) (cs : Array Value) (rows : List (List Int)) (n : Nat) (hn : rows.length = n) (h : RowsV w w.heap.size cs.toList rows) :
    Mat (w.alloc (.cells cs t)) (w.alloc (.cells cs t)).heap.size (some ⟨w.heap.size, 0, none⟩) n rows := by
  obtain ⟨h1, h2⟩ := h.at_
  have hs : (w.alloc (.cells cs t)).heap.size = w.heap.size + 1 := by simp
  rw [hs]
  refine ⟨cs.toList, Reads.new w t cs 1 n (by rw [← Array.length_toList, h1, hn]; simp), hn, fun i r hr => ?_⟩
  obtain ⟨v, hv, hrv⟩ := h2 i r hr
  exact ⟨v, hv, (hrv.alloc (Nat.le_refl _) _).more (by omega)⟩
theorem Reads.alloc_at {w : World} {B size n : Nat} {A : Option Addr} {xs : List Value} (h : Reads w B size A n xs) (hB : B ≤ w.heap.size) (o : Obj) : Reads (w.alloc o) B size A n xs := h.alloc hB o
theorem Mat.now {w w' : World} {n : Nat} {A : Option Addr} {rows : List (List Int)} (h : Mat w w.heap.size A n rows) (hb : Below w.heap.size w w') : Mat w' w'.heap.size A n rows := (h.below hb).more hb.size
end Go.Proofs.Ytedeggjefnpjgaa
