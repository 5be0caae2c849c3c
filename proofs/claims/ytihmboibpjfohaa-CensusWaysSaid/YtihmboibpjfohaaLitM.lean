/-
  Literals in memory, over any program.
-/
import Derived.Test.YtihmboibpjfohaaStV
namespace Go.Proofs.Ytihmboibpjfohaa
open Go.RowKit

theorem reads_new' (W : World) (t : TypeId) (cs : Array Value) (size n g : Nat) (hs : cs.size = n * size) (hg : g = W.heap.size) : Reads (W.alloc (.cells cs t)) (W.alloc (.cells cs t)).heap.size size (some ⟨g, 0, none⟩) n cs.toList := by
  subst hg
  have h := Reads.new W t cs size n hs
  have e : (W.alloc (.cells cs t)).heap.size = W.heap.size + 1 := by simp
  rw [e]
  exact h
theorem lit_row (W : World) (cs : Array Value) (t : TypeId) (l : List Int) (n g : Nat) (hcs : cs.toList = l.map (Value.int .i64)) (hn : l.length = n) (hm : n ≤ maxLen) (hg : g = W.heap.size) : RowV (W.alloc (.cells cs t)) (W.alloc (.cells cs t)).heap.size (.slice (some ⟨g, 0, none⟩) n n) l := by
  subst hn
  have h := reads_new' W t cs 1 l.length g (by rw [← Array.length_toList, hcs]; simp) hg
  rw [hcs] at h
  exact ⟨_, _, rfl, Nat.le_refl _, hm, h⟩
theorem lit_str {α : Type} (f : α → List Value) (s : Nat) (W : World) (cs : Array Value) (t : TypeId) (l : List α) (n g : Nat) (hcs : cs.toList = (l.map f).flatten) (hs : cs.size = n * s) (hn : l.length = n) (hm : n ≤ maxLen) (hg : g = W.heap.size) : StrV f s (W.alloc (.cells cs t)) (W.alloc (.cells cs t)).heap.size (.slice (some ⟨g, 0, none⟩) n n) l := by
  subst hn
  have h := reads_new' W t cs s l.length g hs hg
  rw [hcs] at h
  exact ⟨_, _, rfl, Nat.le_refl _, hm, h⟩
theorem below_alloc' {B : Nat} {a W : World} (h : Below B a W) (hB : B ≤ W.heap.size) (o : Obj) : Below B a (W.alloc o) := h.trans ((below_new W o).mono hB)
theorem RowV.alloc' {W : World} {v : Value} {l : List Int} (h : RowV W W.heap.size v l) (o : Obj) : RowV (W.alloc o) (W.alloc o).heap.size v l := h.now (below_new W o)
theorem StrV.alloc' {α : Type} {f : α → List Value} {s : Nat} {W : World} {v : Value} {l : List α} (h : StrV f s W W.heap.size v l) (o : Obj) : StrV f s (W.alloc o) (W.alloc o).heap.size v l := h.now (below_new W o)
theorem rowV_only {w w' : World} {g g' n c : Nat} {l : List Int} (ho : Only g w w') (hne : g' ≠ g) (h : RowV w w.heap.size (.slice (some ⟨g', 0, none⟩) n c) l) : RowV w' w'.heap.size (.slice (some ⟨g', 0, none⟩) n c) l := by
  obtain ⟨A, c0, he, h1, h2, h3⟩ := h
  injection he with e1 e2 e3
  subst e1 e2 e3
  refine ⟨_, _, rfl, h1, h2, h3.1, fun hn => ?_⟩
  obtain ⟨ad, e, hb, hc⟩ := h3.2 hn
  injection e with e
  subst e
  exact ⟨_, rfl, by rw [ho.size]; exact hb, fun j u hu => (ho.cell (by rw [block_of_add]; exact hne)).trans (hc j u hu)⟩
theorem strV_only {α : Type} {f : α → List Value} {s : Nat} {w w' : World} {g g' n c : Nat} {l : List α} (ho : Only g w w') (hne : g' ≠ g) (h : StrV f s w w.heap.size (.slice (some ⟨g', 0, none⟩) n c) l) : StrV f s w' w'.heap.size (.slice (some ⟨g', 0, none⟩) n c) l := by
  obtain ⟨A, c0, he, h1, h2, h3⟩ := h
  injection he with e1 e2 e3
  subst e1 e2 e3
  refine ⟨_, _, rfl, h1, h2, h3.1, fun hn => ?_⟩
  obtain ⟨ad, e, hb, hc⟩ := h3.2 hn
  injection e with e
  subst e
  exact ⟨_, rfl, by rw [ho.size]; exact hb, fun j u hu => (ho.cell (by rw [block_of_add]; exact hne)).trans (hc j u hu)⟩

def DefR (p : Prop) (w : World) (e : Ending) (w' : World) : Prop := ∃ b : Bool, e = .returned (.bool b) ∧ (b = true → p) ∧ Below w.heap.size w w'
theorem strV_nil {α : Type} (f : α → List Value) (s : Nat) (w : World) (B : Nat) : StrV f s w B (.slice none 0 0) [] := ⟨none, 0, rfl, Nat.le_refl _, by simp [maxLen], Reads.empty⟩
theorem rowV_nil (w : World) (B : Nat) : RowV w B (.slice none 0 0) [] := ⟨none, 0, rfl, by simp, by simp [maxLen], Reads.empty⟩
end Go.Proofs.Ytihmboibpjfohaa
