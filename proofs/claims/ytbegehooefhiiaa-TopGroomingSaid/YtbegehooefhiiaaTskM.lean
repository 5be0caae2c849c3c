/-
  Tasks, groomers and shifts in memory.
-/
import Derived.Test.YtbegehooefhiiaaStV
import Derived.Test.YtbegehooefhiiaaRouN
import Derived.Test.YtbegehooefhiiaaHasN
namespace Go.Proofs.Ytbegehooefhiiaa
open Go.RowKit

structure Tk where
  run : Int
  sec : Int
  win : Bool
  cl : List Int
def tk0 : Tk := ⟨0, 0, false, []⟩
/-- the cells of a task whose clashes are the slice z -/
def Tk.cells (b : Tk) (z : Value) : List Value := [.int .i64 b.run, .int .i64 b.sec, .bool b.win, z]
/-- a slice of tasks -/
def Tks (w : World) (B : Nat) (A : Option Addr) (n : Nat) (bs : List Tk) : Prop :=
  ∃ zs : List Value, zs.length = n ∧ bs.length = n ∧ Reads w B 4 A n (List.zipWith Tk.cells bs zs).flatten ∧ ∀ (i : Nat) (b : Tk) (z : Value), bs[i]? = some b → zs[i]? = some z → RowV w B z b.cl
section
variable {w w' : World} {B B' n : Nat} {A : Option Addr} {bs : List Tk}
theorem Tks.len (h : Tks w B A n bs) : bs.length = n := by obtain ⟨_, _, h, _⟩ := h; exact h
theorem Tks.keep (h : Tks w B A n bs) (hk : ∀ p : Addr, p.block < B → w'.cell? p = w.cell? p) : Tks w' B A n bs := by
  obtain ⟨zs, h1, h2, h3, h4⟩ := h
  exact ⟨zs, h1, h2, h3.keep hk, fun i b z hb hz => (h4 i b z hb hz).keep hk⟩
theorem Tks.more (h : Tks w B A n bs) (hB : B ≤ B') : Tks w B' A n bs := by
  obtain ⟨zs, h1, h2, h3, h4⟩ := h
  exact ⟨zs, h1, h2, h3.more hB, fun i b z hb hz => (h4 i b z hb hz).more hB⟩
theorem Tks.below (h : Tks w B A n bs) (hb : Below B w w') : Tks w' B A n bs := h.keep fun _ hp => hb.cell hp
theorem Tks.now {w w' : World} {n : Nat} {A : Option Addr} {bs : List Tk} (h : Tks w w.heap.size A n bs) (hb : Below w.heap.size w w') : Tks w' w'.heap.size A n bs := (h.below hb).more hb.size
theorem Tks.nil (w : World) (B : Nat) : Tks w B none 0 [] := ⟨[], rfl, rfl, Reads.empty, by simp⟩
theorem zip_len (bs : List Tk) (zs : List Value) : ∀ r ∈ List.zipWith Tk.cells bs zs, r.length = 4 := by
  intro r hr
  obtain ⟨i, hi, rfl⟩ := List.getElem_of_mem hr
  simp [Tk.cells]
/-- the element k -/
theorem Tks.at_ {k : Nat} (h : Tks w B A n bs) (hk : k < n) : ∃ (ad : Addr) (z : Value), A = some ad ∧ ad.block < B ∧ (∀ j u, ((bs.getD k tk0).cells z)[j]? = some u → w.cell? ((ad.add (k * 4)).add j) = some u) ∧ RowV w B z (bs.getD k tk0).cl := by
  obtain ⟨zs, h1, h2, h3, h4⟩ := h
  obtain ⟨ad, e, hb, hc⟩ := h3.2 (by omega)
  have e1 : bs.getD k tk0 = bs[k]'(by omega) := by simp [List.getElem?_eq_getElem (show k < bs.length by omega)]
  rw [e1]
  refine ⟨ad, zs[k]'(by omega), e, hb, fun j u hu => ?_, h4 k _ _ (List.getElem?_eq_getElem (by omega)) (List.getElem?_eq_getElem (by omega))⟩
  rw [add_of_add]
  refine hc _ u ?_
  have hj : j < 4 := by
    have := (List.getElem?_eq_some_iff.1 hu).1
    simpa [Tk.cells] using this
  rw [flat_at 4 _ (zip_len bs zs) k j hj, List.getElem?_zipWith, List.getElem?_eq_getElem (show k < bs.length by omega), List.getElem?_eq_getElem (show k < zs.length by omega)]
  exact hu
end
theorem tk_take (l : List Tk) (k : Nat) (h : k < l.length) : l.take (k + 1) = l.take k ++ [l.getD k tk0] := by
  rw [List.take_succ_eq_append_getElem h]
  simp [List.getElem?_eq_getElem h]
/-- a slice of Bools -/
abbrev Bools (w : World) (B : Nat) (A : Option Addr) (n : Nat) (l : List Bool) : Prop := Reads w B 1 A n (l.map Value.bool)
theorem Reads.boolen {w : World} {B n : Nat} {A : Option Addr} {l : List Bool} (h : Bools w B A n l) : l.length = n := by simpa using h.1
theorem Reads.bool {w : World} {B n : Nat} {A : Option Addr} {l : List Bool} {k : Nat} (h : Bools w B A n l) (hk : k < n) : ∃ ad, A = some ad ∧ ad.block < B ∧ w.cell? (ad.add k) = some (.bool (l.getD k false)) := by
  obtain ⟨ad, u, e, hb, hx, hc⟩ := h.at_ hk
  refine ⟨ad, e, hb, ?_⟩
  rw [hc]
  have hl := h.boolen
  rw [List.getElem?_map, List.getElem?_eq_getElem (by omega)] at hx
  simp at hx
  rw [← hx]
  simp [List.getElem?_eq_getElem (show k < l.length by omega)]
/-- the cells of a shift -/
abbrev Sh.cells (r : Sh) : List Value := [.int .i64 r.g, .int .i64 r.run, .int .i64 r.fr, .int .i64 r.tt]
/-- a task as a value -/
def TkV (w : World) (B : Nat) (v : Value) (t : Tk) : Prop := ∃ z, v = .agg #[.int .i64 t.run, .int .i64 t.sec, .bool t.win, z] ∧ RowV w B z t.cl
theorem TkV.now {w w' : World} {v : Value} {t : Tk} (h : TkV w w.heap.size v t) (hb : Below w.heap.size w w') : TkV w' w'.heap.size v t := by
  obtain ⟨z, h1, h2⟩ := h
  exact ⟨z, h1, h2.now hb⟩
end Go.Proofs.Ytbegehooefhiiaa
