/-
  Slices of structs of plain fields in memory.
-/
import Derived.Test.YtedeggjefnpjgaaMat
import Derived.Test.YtedeggjefnpjgaaStr
namespace Go.Proofs.Ytedeggjefnpjgaa
open Go.RowKit

theorem flat_at {α : Type _} (s : Nat) : ∀ (es : List (List α)), (∀ r ∈ es, r.length = s) → ∀ i j, j < s → es.flatten[i * s + j]? = (es[i]?).bind fun r => r[j]?
  | [], _, i, j, _ => by simp
  | r :: es, hr, i, j, hj => by
    have hrl := hr r (by simp)
    cases i with
    | zero => simp [List.getElem?_append_left (show j < r.length by omega)]
    | succ i =>
      rw [List.flatten_cons, List.getElem?_append_right (by rw [hrl, Nat.succ_mul]; omega), hrl, show (i + 1) * s + j - s = i * s + j by rw [Nat.succ_mul]; omega, flat_at s es (fun r' h => hr r' (by simp [h])) i j hj]
      simp

/-- a slice of structs of s one-cell fields, the cells of each by f -/
abbrev Strs {α : Type} (f : α → List Value) (s : Nat) (w : World) (B : Nat) (A : Option Addr) (n : Nat) (l : List α) : Prop := Reads w B s A n (l.map f).flatten
/-- the same, as a value -/
def StrV {α : Type} (f : α → List Value) (s : Nat) (w : World) (B : Nat) (v : Value) (l : List α) : Prop := ∃ A c, v = .slice A l.length c ∧ l.length ≤ c ∧ c ≤ maxLen ∧ Strs f s w B A l.length l
section
variable {α : Type} {f : α → List Value} {s : Nat} {w w' : World} {B B' : Nat} {v : Value} {l : List α}
theorem StrV.keep (h : StrV f s w B v l) (hk : ∀ p : Addr, p.block < B → w'.cell? p = w.cell? p) : StrV f s w' B v l := by
  obtain ⟨a, c, h1, h2, h3, h4⟩ := h
  exact ⟨a, c, h1, h2, h3, h4.keep hk⟩
theorem StrV.more (h : StrV f s w B v l) (hB : B ≤ B') : StrV f s w B' v l := by
  obtain ⟨a, c, h1, h2, h3, h4⟩ := h
  exact ⟨a, c, h1, h2, h3, h4.more hB⟩
theorem StrV.below (h : StrV f s w B v l) (hb : Below B w w') : StrV f s w' B v l := h.keep fun _ hp => hb.cell hp
theorem StrV.now {w w' : World} (h : StrV f s w w.heap.size v l) (hb : Below w.heap.size w w') : StrV f s w' w'.heap.size v l := (h.below hb).more hb.size
theorem StrV.nam (h : StrV f s w B v l) : ∃ A n c, v = .slice A n c ∧ Hid (l.length = n) ∧ n ≤ c ∧ c ≤ maxLen ∧ Strs f s w B A n l := by
  obtain ⟨A, c, h1, h2, h3, h4⟩ := h
  exact ⟨A, _, c, h1, hide rfl, h2, h3, h4⟩
theorem StrV.one (h : StrV f s w B v l) : v.oneCell' = true := by obtain ⟨A, c, rfl, _⟩ := h; rfl
theorem strs_at {A : Option Addr} {n k : Nat} (h : Strs f s w B A n l) (hf : ∀ x, (f x).length = s) (hl : l.length = n) (hk : k < n) (d : α) :
    ∃ ad, A = some ad ∧ ad.block < B ∧ ∀ j u, (f (l.getD k d))[j]? = some u → w.cell? ((ad.add (k * s)).add j) = some u := by
  obtain ⟨ad, e, hb, hc⟩ := h.2 (by omega)
  refine ⟨ad, e, hb, fun j u hu => ?_⟩
  rw [add_of_add]
  refine hc _ u ?_
  have hj : j < s := by
    have := (List.getElem?_eq_some_iff.1 hu).1
    rwa [hf] at this
  rw [flat_at s _ (by intro r hr; obtain ⟨x, _, rfl⟩ := List.mem_map.1 hr; exact hf x) k j hj, List.getElem?_map, List.getElem?_eq_getElem (show k < l.length by omega)]
  rw [show l.getD k d = l[k]'(by omega) by simp [List.getElem?_eq_getElem (show k < l.length by omega)]] at hu
  simpa using hu
theorem strs_front {A : Option Addr} {n m : Nat} (h : Strs f s w B A n l) (hf : ∀ x, (f x).length = s) (hl : l.length = n) (hm : m ≤ n) : Strs f s w B A m (l.take m) := by
  have hlen : ∀ l : List α, (l.map f).flatten.length = l.length * s := by
    intro l
    induction l with
    | nil => simp
    | cons x l ih => simp [ih, hf, Nat.succ_mul]; omega
  refine ⟨by rw [hlen, List.length_take, Nat.min_eq_left (by omega)], fun h0 => ?_⟩
  obtain ⟨ad, e, hb, hc⟩ := h.2 (by omega)
  refine ⟨ad, e, hb, fun j u hu => hc j u ?_⟩
  have e1 : (l.map f).flatten = ((l.take m).map f).flatten ++ ((l.drop m).map f).flatten := by
    rw [← List.flatten_append, ← List.map_append, List.take_append_drop]
  rw [e1, List.getElem?_append_left (List.getElem?_eq_some_iff.1 hu).1]
  exact hu
end
theorem RowV.nam {w : World} {B : Nat} {v : Value} {r : List Int} (h : RowV w B v r) : ∃ A n c, v = .slice A n c ∧ Hid (r.length = n) ∧ n ≤ c ∧ c ≤ maxLen ∧ Ints w B A n r := by
  obtain ⟨A, c, h1, h2, h3, h4⟩ := h
  exact ⟨A, _, c, h1, hide rfl, h2, h3, h4⟩
theorem RowV.now {w w' : World} {v : Value} {r : List Int} (h : RowV w w.heap.size v r) (hb : Below w.heap.size w w') : RowV w' w'.heap.size v r := (h.below hb).more hb.size
theorem RowV.one {w : World} {B : Nat} {v : Value} {r : List Int} (h : RowV w B v r) : v.oneCell' = true := by obtain ⟨A, c, rfl, _⟩ := h; rfl
theorem rowV_of {w : World} {B n c : Nat} {A : Option Addr} {r : List Int} (h : Ints w B A n r) (h1 : n ≤ c) (h2 : c ≤ maxLen) : RowV w B (.slice A n c) r := by
  have := h.ilen
  subst this
  exact ⟨A, c, rfl, h1, h2, h⟩
theorem strV_of {α : Type} {f : α → List Value} {s : Nat} {w : World} {B n c : Nat} {A : Option Addr} {l : List α} (h : Strs f s w B A n l) (hl : l.length = n) (h1 : n ≤ c) (h2 : c ≤ maxLen) : StrV f s w B (.slice A n c) l := by
  subst hl
  exact ⟨A, c, rfl, h1, h2, h⟩
/-- a load of a struct at an address whose cells are known -/
theorem wpList_load_at {P : Program} {w : World} {ops : Array Oper} {rest : List Oper} {o : Oper} {a : Act} {Q : Exit → Act → World → Prop} (ty : TypeId) (x : Operand) (ho : o.op = .load ty x) (hw : Region.wanted o (yielded ops a.tmps) = true) (p : Addr) (hx : a.eval x = .pointer (some p)) (cs : List Value)
    (hc : ∀ j u, cs[j]? = some u → w.cell? (p.add j) = some u) (d : TypeDesc)
    (hu : P.underlying ty = some d) (hd : (match d with | .struct _ | .array _ _ => true | _ => false) = true) (hi : (P.info? ty).map (·.size) = some cs.length)
    (h : wpList P ops Q rest (a.put o.dst (.agg cs.toArray)) w) : wpList P ops Q (o :: rest) a w := by
  refine wpList_want hw fun K hK => ?_
  cases hq : P.info? ty with
  | none => rw [hq] at hi; cases hi
  | some i =>
    have hs : i.size = cs.length := by simpa [hq] using hi
    have hl : (loadCells p cs.length).run P w = .ok cs.toArray w := run_loadCells_list (P := P) w p cs hc
    have hagg : (isAgg ty).run P w = .ok true w := by
      unfold isAgg
      rw [Sem.run_bind, run_underlying hu w]
      cases d <;> simp_all
    have hrun : (loadVar ty p).run P w = .ok (.agg cs.toArray) w := by
      simp [loadVar, Sem.run_bind, hagg, sizeOf, typeInfo, hq, hs, hl]
    unfold Oper.wp execOp
    simp only [ho, hx, Instr.loadAt, Instr.sureAddr, Sem.run_bind, Sem.run_pure, Result.andThen_ok, hrun]
    exact hK _ _ h
end Go.Proofs.Ytedeggjefnpjgaa
