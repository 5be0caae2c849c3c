/-
  What is known of an argument that is a slice of slices of ints.
-/
import Derived.Test.YtgmefnddbiofkaaRow
import Derived.Test.YtgmefnddbiofkaaMat
import Derived.Deep.Matrix
namespace Go.Proofs.Ytgmefnddbiofkaa
open Go.ChangeShapes Go.WideShapes Go.ChangeAt Go.RowKit

theorem open_mat {H : Type} {enc : TypeId × Value → H} {P : Program} {W : World} {base : Nat} {t e q : TypeId} {v : Value} {d : DataW H} {p : List MemPlace} (ht : P.underlying t = some (.slice e)) (he : P.underlying e = some (.slice q)) (hq : P.underlying q = some (.int .i64)) (ce : P.cellsOf e = 1) (cq : P.cellsOf q = 1)
    (hv : Value.okWide P W .any base t v) (h : DataW.Trod enc P W 0 (fun _ => true) true t v d p) :
    ∃ (A : Option Addr) (n c : Nat) (rows : List (List Int)), v = .slice A n c ∧ n ≤ c ∧ c ≤ maxLen ∧ Mat W W.heap.size A n rows ∧ ∀ r ∈ rows, ∀ x ∈ r, (Lit.int .i64 x).wf = true := by
  obtain ⟨a0, len, cap, rfl⟩ := okWide_slice ht hv
  obtain ⟨fuel, hf⟩ := h
  rcases Go.Deep.open_int_rows ht he hq ce cq hf with ⟨hcs, hx⟩ | ⟨a, len', cap', A, L, C, Z, hcs, _, hl, hm, hx, hr⟩
  · simp [Value.cells] at hcs
    obtain ⟨rfl, rfl, rfl⟩ := hcs
    exact ⟨none, 0, 0, [], rfl, Nat.le_refl _, by simp [maxLen], ⟨[], Reads.empty, rfl, fun i r hr => by simp at hr⟩, by simp⟩
  · simp [Value.cells] at hcs
    obtain ⟨rfl, rfl, rfl⟩ := hcs
    refine ⟨some a, len, cap, (List.range len).map fun i => (Z i).take (L i), rfl, hl, hm, ?_, ?_⟩
    · refine ⟨(List.range len).map fun i => .slice (A i) (L i) (C i), ⟨by simp, fun hn => ⟨a, rfl, ?_, fun j u hu => ?_⟩⟩, by simp, fun i r hi => ?_⟩
      · have h0 := (hr 0 (by omega)).1
        have := World.block_lt_of_cell? W _ h0
        rwa [block_of_add] at this
      · have hj : j < len := by
          have := (List.getElem?_eq_some_iff.1 hu).1
          simpa using this
        rw [List.getElem?_map, List.getElem?_range hj] at hu
        rw [(hr j (by omega)).1, ← hu]
        rfl
      · have hi' : i < len := by
          have := (List.getElem?_eq_some_iff.1 hi).1
          simpa using this
        rw [List.getElem?_map, List.getElem?_range hi'] at hi
        injection hi with hi
        obtain ⟨h1, h2, h3, h4, h5, h6, h7⟩ := hr i (by omega)
        have hlen : ((Z i).take (L i)).length = L i := by rw [List.length_take]; omega
        refine ⟨.slice (A i) (L i) (C i), by rw [List.getElem?_map, List.getElem?_range hi']; rfl, ?_⟩
        rw [← hi]
        refine ⟨A i, C i, by show _ = Value.slice (A i) ((Z i).take (L i)).length (C i); rw [hlen], by show ((Z i).take (L i)).length ≤ _; omega, h3, ?_⟩
        show Ints W W.heap.size (A i) ((Z i).take (L i)).length ((Z i).take (L i))
        refine ⟨by simp, fun hn => ?_⟩
        rw [hlen] at hn
        rcases hA : A i with _ | a'
        · have := h6 hA
          omega
        · obtain ⟨_, h9⟩ := h7 a' hA
          refine ⟨a', rfl, ?_, fun j u hu => ?_⟩
          · have h0 := h9 0 (by omega)
            have := World.block_lt_of_cell? W _ h0
            rwa [block_of_add] at this
          · have hj : j < L i := by
              have := (List.getElem?_eq_some_iff.1 hu).1
              simp at this
              omega
            rw [List.getElem?_map, List.getElem?_take, if_pos hj, List.getElem?_eq_getElem (by omega)] at hu
            rw [h9 j (by omega), ← hu]
            simp [List.getElem?_eq_getElem (show j < (Z i).length by omega)]
    · intro r hr' x hx'
      obtain ⟨i, hi, rfl⟩ := List.mem_map.1 hr'
      have hi' : i < len := by simpa using hi
      exact (hr i (by omega)).2.2.2.2.1 x (List.mem_of_mem_take hx')
end Go.Proofs.Ytgmefnddbiofkaa
