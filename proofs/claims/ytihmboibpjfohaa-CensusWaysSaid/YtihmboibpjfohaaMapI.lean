/-
  Maps with integer keys of the call's own, over any program: what such a map holds, as a function.
-/
import Derived.Test.YtihmboibpjfohaaBlk
import Derived.Maps.OwnOps
import Derived.Maps.OwnSet
import Derived.Maps.Views
namespace Go.Proofs.Ytihmboibpjfohaa
open Go.RowKit
open Go.Maps (Keyed)

/-- a function changed at one place -/
def putF {α : Type} (g : Int → Option α) (z : Int) (x : α) (y : Int) : Option α := if y = z then some x else g y
theorem putF_same {α : Type} (g : Int → Option α) (z : Int) (x : α) : putF g z x z = some x := if_pos rfl
theorem putF_other {α : Type} {g : Int → Option α} {z : Int} {x : α} {y : Int} (h : y ≠ z) : putF g z x y = g y := if_neg h

section
variable {α : Type} {P : Program}
open Classical in
noncomputable def rdM (en : α → Value) (v : Value) : Option (DataW α × List MemPlace) := if h : ∃ x, v = en x then some (.held (Classical.choose h), []) else none
theorem rdM_en {en : α → Value} (inj : ∀ x y, en x = en y → x = y) (x : α) : rdM en (en x) = some (.held x, []) := by
  have h : ∃ y, en x = en y := ⟨x, rfl⟩
  unfold rdM
  rw [dif_pos h, ← inj _ _ (Classical.choose_spec h)]
theorem rdM_inv {en : α → Value} {v : Value} {d : DataW α} {ps : List MemPlace} (h : rdM en v = some (d, ps)) : ∃ x, v = en x ∧ d = .held x := by
  unfold rdM at h
  split at h
  · rename_i h0
    simp only [Option.some.injEq, Prod.mk.injEq] at h
    exact ⟨_, Classical.choose_spec h0, h.1.symm⟩
  · cases h
/-- block b is a map of at most n entries that holds g -/
def MapV (P : Program) (k : TypeId) (en : α → Value) (w : World) (b n : Nat) (g : Int → Option α) : Prop :=
  ∃ D, w.ownsMap P k (rdM en) b n D ∧ Maps.IsMap D ∧ ∀ z : Int, Maps.has D (.int .i64 z) = (g z).isSome ∧ ∀ x, g z = some x → ∀ zd, D.atKey (.int .i64 z) zd = .held x
variable {k t e : TypeId} {en : α → Value} {w w' : World} {b n : Nat} {g : Int → Option α}
theorem MapV.made (w : World) (P : Program) (k : TypeId) (en : α → Value) : MapV P k en (w.alloc (.map #[] 0)) w.heap.size 0 fun _ => none :=
  ⟨.map [], World.ownsMap_made w P k _, Maps.isMap_empty, fun z => ⟨rfl, fun x h => by cases h⟩⟩
theorem MapV.lt (h : MapV P k en w b n g) : b < w.heap.size := let ⟨_, h, _⟩ := h; h.lt
theorem MapV.same (h : MapV P k en w b n g) (hs : w'.heap[b]? = w.heap[b]?) : MapV P k en w' b n g := by
  obtain ⟨D, ⟨es, clock, hb, F, hs', hD⟩, h2⟩ := h
  exact ⟨D, ⟨es, clock, hs.trans hb, F, hs', hD⟩, h2⟩
theorem MapV.below {B : Nat} (h : MapV P k en w b n g) (hb : Below B w w') (hlt : b < B) : MapV P k en w' b n g := h.same (hb.block b hlt)
theorem MapV.alloc (h : MapV P k en w b n g) (o : Obj) : MapV P k en (w.alloc o) b n g := let ⟨D, h1, h2⟩ := h; ⟨D, h1.alloc o, h2⟩
theorem MapV.drew (h : MapV P k en w b n g) : MapV P k en w.drew b n g := h
theorem MapV.far (h : MapV P k en w b n g) {p : Addr} (hp : b ≠ p.block) (u : Value) : MapV P k en (w.setCell p u) b n g := h.same (Below.heap_setCell w p u b hp)
theorem MapV.mono (h : MapV P k en w b n g) {m : Nat} (hm : n ≤ m) : MapV P k en w b m g := let ⟨D, h1, h2⟩ := h; ⟨D, h1.mono hm, h2⟩

/-- m[k] and whether it is there -/
theorem MapV.look (inj : ∀ x y, en x = en y → x = y) (h : MapV P k en w b n g) (K : Keyed P k) (ht : P.underlying t = some (.map k e)) {z0 : α} (hz : (zeroValue e).run P w = .ok (en z0) w) (hk : P.underlying k = some (.int .i64)) {z : Int} (hw : (Lit.int .i64 z).wf = true) :
    (Instr.lookup t (.map (some b)) (.int .i64 z) true).run P w = .ok (.tuple #[en ((g z).getD z0), .bool (g z).isSome]) w := by
  obtain ⟨D, hown, _, hg⟩ := h
  obtain ⟨h1, h2⟩ := hg z
  obtain ⟨v, ps, hrun, hv⟩ := hown.look_ok K ht hz (rdM_en inj z0) (Maps.keyOf_int_mk hk hw)
  rw [hrun, h1]
  cases hgz : g z with
  | some x =>
    rw [h2 x hgz] at hv
    obtain ⟨y, rfl, hy⟩ := rdM_inv hv
    injection hy with hy
    rw [hy]
    rfl
  | none =>
    rw [hgz] at h1
    rw [Maps.atKey_of_not_has h1] at hv
    obtain ⟨y, rfl, hy⟩ := rdM_inv hv
    injection hy with hy
    rw [← hy]
    rfl
theorem MapV.look1 (inj : ∀ x y, en x = en y → x = y) (h : MapV P k en w b n g) (K : Keyed P k) (ht : P.underlying t = some (.map k e)) {z0 : α} (hz : (zeroValue e).run P w = .ok (en z0) w) (hk : P.underlying k = some (.int .i64)) {z : Int} (hw : (Lit.int .i64 z).wf = true) :
    (Instr.lookup t (.map (some b)) (.int .i64 z) false).run P w = .ok (en ((g z).getD z0)) w := by
  obtain ⟨D, hown, _, hg⟩ := h
  obtain ⟨h1, h2⟩ := hg z
  obtain ⟨v, ps, hrun, hv⟩ := hown.lookup K ht hz (rdM_en inj z0) (Maps.keyOf_int_mk hk hw)
  rw [hrun]
  cases hgz : g z with
  | some x =>
    rw [h2 x hgz] at hv
    obtain ⟨y, rfl, hy⟩ := rdM_inv hv
    injection hy with hy
    rw [hy]
    rfl
  | none =>
    rw [hgz] at h1
    rw [Maps.atKey_of_not_has h1] at hv
    obtain ⟨y, rfl, hy⟩ := rdM_inv hv
    injection hy with hy
    rw [← hy]
    rfl
/-- m[k] = v -/
theorem MapV.put (inj : ∀ x y, en x = en y → x = y) (h : MapV P k en w b n g) (K : Keyed P k) (ht : P.underlying t = some (.map k e)) (hk : P.underlying k = some (.int .i64)) (hn : n < maxLen) {z : Int} (hw : (Lit.int .i64 z).wf = true) (x : α) :
    ∃ w', (Instr.mapUpdate t (.map (some b)) (.int .i64 z) (en x)).run P w = .ok () w' ∧ MapV P k en w' b (n + 1) (putF g z x) ∧ w.grownBy w' (some b) := by
  obtain ⟨D, hown, hm, hg⟩ := h
  obtain ⟨w', hrun, r1, r2⟩ := hown.update K ht hn (Maps.keyOf_int_mk hk hw) (rdM_en inj x)
  refine ⟨w', hrun, ⟨_, r1, ?_, fun y => ?_⟩, r2⟩
  · exact World.ownsMap.isMap r1
  · by_cases hy : y = z
    · subst hy
      rw [putF_same]
      refine ⟨Maps.has_put_same hm (by simp [WideAt.IsKeyLit]) _, fun x' hx' zd => ?_⟩
      injection hx' with hx'
      rw [Maps.atKey_put_same hm (by simp [WideAt.IsKeyLit]), hx']
    · have hne : (Lit.int .i64 y) ≠ .int .i64 z := fun h => by injection h with _ h; exact hy h
      rw [putF_other hy, Maps.has_put_other hne]
      refine ⟨(hg y).1, fun x' hx' zd => ?_⟩
      rw [Maps.atKey_put_other hne]
      exact (hg y).2 x' hx' zd
variable {ops : Array Oper} {rest : List Oper} {o : Oper} {a : Act} {Q : Exit → Act → World → Prop}
theorem wpList_mput (inj : ∀ x y, en x = en y → x = y) (h : MapV P k en w b n g) (hgd : o.guard = none) (m x v : Operand) (t : TypeId) (hop : o.op = .mapUpdate t m x v ∨ o.op = .insert t m x v) (K : Keyed P k) (ht : P.underlying t = some (.map k e)) (hk : P.underlying k = some (.int .i64)) (hn : n < maxLen) {z : Int} (hw : (Lit.int .i64 z).wf = true) (u : α)
    (hm : a.eval m = .map (some b)) (hx : a.eval x = .int .i64 z) (hv : a.eval v = en u)
    (hK : ∀ w', MapV P k en w' b (n + 1) (putF g z u) → w.grownBy w' (some b) → wpList P ops Q rest (a.put o.dst undef) w') : wpList P ops Q (o :: rest) a w := by
  refine wpList_plain hgd fun K' hK' => ?_
  obtain ⟨w', hrun, r1, r2⟩ := h.put inj K ht hk hn hw u
  unfold Oper.wp
  rcases hop with hop | hop <;>
  · simp [execOp, hop, hm, hx, hv, hrun, Result.andThen]
    exact hK' _ _ (hK w' r1 r2)
end
end Go.Proofs.Ytihmboibpjfohaa
