/-
  Bulletins in memory.
-/
import Derived.Test.YtmbdlnimegdigaaBulN
import Derived.Test.YtmbdlnimegdigaaOwnI
import Derived.Test.YtmbdlnimegdigaaStr
namespace Go.Proofs.Ytmbdlnimegdigaa
open Go.RowKit

/-- the cells of a bulletin whose zones are the slice z -/
def Bu.cells (b : Bu) (z : Value) : List Value := [.int .i64 b.ver, .int .i64 b.fr, .int .i64 b.ti, .int .i64 b.lo, .int .i64 b.hi, z, .int .i64 b.lev]
/-- a slice of bulletins -/
def Buls (w : World) (B : Nat) (A : Option Addr) (n : Nat) (bs : List Bu) : Prop :=
  ∃ zs : List Value, zs.length = n ∧ bs.length = n ∧ Reads w B 7 A n (List.zipWith Bu.cells bs zs).flatten ∧ ∀ (i : Nat) (b : Bu) (z : Value), bs[i]? = some b → zs[i]? = some z → RowV w B z b.zs
section
variable {w w' : World} {B B' n : Nat} {A : Option Addr} {bs : List Bu}
theorem Buls.len (h : Buls w B A n bs) : bs.length = n := by obtain ⟨_, _, h, _⟩ := h; exact h
theorem Buls.keep (h : Buls w B A n bs) (hk : ∀ p : Addr, p.block < B → w'.cell? p = w.cell? p) : Buls w' B A n bs := by
  obtain ⟨zs, h1, h2, h3, h4⟩ := h
  exact ⟨zs, h1, h2, h3.keep hk, fun i b z hb hz => (h4 i b z hb hz).keep hk⟩
theorem Buls.more (h : Buls w B A n bs) (hB : B ≤ B') : Buls w B' A n bs := by
  obtain ⟨zs, h1, h2, h3, h4⟩ := h
  exact ⟨zs, h1, h2, h3.more hB, fun i b z hb hz => (h4 i b z hb hz).more hB⟩
theorem Buls.below (h : Buls w B A n bs) (hb : Below B w w') : Buls w' B A n bs := h.keep fun _ hp => hb.cell hp
theorem Buls.now {w w' : World} {n : Nat} {A : Option Addr} {bs : List Bu} (h : Buls w w.heap.size A n bs) (hb : Below w.heap.size w w') : Buls w' w'.heap.size A n bs := (h.below hb).more hb.size
theorem Buls.nil (w : World) (B : Nat) : Buls w B none 0 [] := ⟨[], rfl, rfl, Reads.empty, by simp⟩
theorem flat_at {α : Type _} (s : Nat) : ∀ (es : List (List α)), (∀ r ∈ es, r.length = s) → ∀ i j, j < s → es.flatten[i * s + j]? = (es[i]?).bind fun r => r[j]?
  | [], _, i, j, _ => by simp
  | r :: es, hr, i, j, hj => by
    have hrl := hr r (by simp)
    cases i with
    | zero => simp [List.getElem?_append_left (show j < r.length by omega)]
    | succ i =>
      rw [List.flatten_cons, List.getElem?_append_right (by rw [hrl, Nat.succ_mul]; omega), hrl, show (i + 1) * s + j - s = i * s + j by rw [Nat.succ_mul]; omega, flat_at s es (fun r' h => hr r' (by simp [h])) i j hj]
      simp
theorem zip_len (bs : List Bu) (zs : List Value) : ∀ r ∈ List.zipWith Bu.cells bs zs, r.length = 7 := by
  intro r hr
  obtain ⟨i, hi, rfl⟩ := List.getElem_of_mem hr
  simp [Bu.cells]
/-- the element k -/
theorem Buls.at_ {k : Nat} (h : Buls w B A n bs) (hk : k < n) : ∃ (ad : Addr) (z : Value), A = some ad ∧ ad.block < B ∧ (∀ j u, ((bs.getD k ⟨0, 0, 0, 0, 0, 0, []⟩).cells z)[j]? = some u → w.cell? ((ad.add (k * 7)).add j) = some u) ∧ RowV w B z (bs.getD k ⟨0, 0, 0, 0, 0, 0, []⟩).zs := by
  obtain ⟨zs, h1, h2, h3, h4⟩ := h
  obtain ⟨ad, e, hb, hc⟩ := h3.2 (by omega)
  have e1 : bs.getD k ⟨0, 0, 0, 0, 0, 0, []⟩ = bs[k]'(by omega) := by simp [List.getElem?_eq_getElem (show k < bs.length by omega)]
  rw [e1]
  refine ⟨ad, zs[k]'(by omega), e, hb, fun j u hu => ?_, h4 k _ _ (List.getElem?_eq_getElem (by omega)) (List.getElem?_eq_getElem (by omega))⟩
  rw [add_of_add]
  refine hc _ u ?_
  have hj : j < 7 := by
    have := (List.getElem?_eq_some_iff.1 hu).1
    simpa [Bu.cells] using this
  rw [flat_at 7 _ (zip_len bs zs) k j hj, List.getElem?_zipWith, List.getElem?_eq_getElem (show k < bs.length by omega), List.getElem?_eq_getElem (show k < zs.length by omega)]
  exact hu
end
theorem bu_take (bs : List Bu) (k : Nat) (h : k < bs.length) : bs.take (k + 1) = bs.take k ++ [bs.getD k ⟨0, 0, 0, 0, 0, 0, []⟩] := by
  rw [List.take_succ_eq_append_getElem h]
  simp [List.getElem?_eq_getElem h]
theorem bu_drop (bs : List Bu) (k : Nat) (h : k < bs.length) : bs.drop k = bs.getD k ⟨0, 0, 0, 0, 0, 0, []⟩ :: bs.drop (k + 1) := by
  rw [List.drop_eq_getElem_cons h]
  simp [List.getElem?_eq_getElem h]
/-- a load of a struct at an address whose cells are known -/
theorem wpList_load_at {P : Program} {w : World} {ops : Array Oper} {rest : List Oper} {o : Oper} {a : Act} {Q : Exit → Act → World → Prop} (ty : TypeId) (x : Operand) (ho : o.op = .load ty x) (hw : Region.wanted o (yielded ops a.tmps) = true) (p : Addr) (hx : a.eval x = .pointer (some p)) (cs : List Value)
    (hc : ∀ j u, cs[j]? = some u → w.cell? (p.add j) = some u) (d : TypeDesc)
    (hu : P.underlying ty = some d) (hd : (match d with | .struct _ | .array _ _ => true | _ => false) = true) (hi : (P.info? ty).map (·.size) = some cs.length)
    (h : wpList P ops Q rest (a.put o.dst (.agg cs.toArray)) w) : wpList P ops Q (o :: rest) a w := by
  refine wpList_want hw fun K hK => ?_
  cases hq : P.info? ty with
  | none => rw [hq] at hi; cases hi
  | some i =>
    have hs : i.size = cs.length := by simpa [hq] using hi
    have hl : (loadCells p cs.length).run P w = .ok cs.toArray w := run_loadCells_list (P := P) w p cs hc
    have hagg : (isAgg ty).run P w = .ok true w := by
      unfold isAgg
      rw [Sem.run_bind, run_underlying hu w]
      cases d <;> simp_all
    have hrun : (loadVar ty p).run P w = .ok (.agg cs.toArray) w := by
      simp [loadVar, Sem.run_bind, hagg, sizeOf, typeInfo, hq, hs, hl]
    unfold Oper.wp execOp
    simp only [ho, hx, Instr.loadAt, Instr.sureAddr, Sem.run_bind, Sem.run_pure, Result.andThen_ok, hrun]
    exact hK _ _ h
end Go.Proofs.Ytmbdlnimegdigaa
