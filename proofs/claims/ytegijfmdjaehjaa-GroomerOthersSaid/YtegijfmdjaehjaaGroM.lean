/-
  Steps of the reference of chapter 45, indices of nodes; in plain Lean and in memory.
-/
import Derived.Test.YtegijfmdjaehjaaGroF
import Derived.Test.YtegijfmdjaehjaaGraR
import Derived.Test.YtegijfmdjaehjaaRegY
import Derived.Test.YtegijfmdjaehjaaMatOwn
namespace Go.Proofs.Ytegijfmdjaehjaa
open Go.RowKit

abbrev sp0 : Sp := ⟨0, 0, 0⟩
abbrev Sp.cells (r : Sp) : List Value := [.int .i64 r.a, .int .i64 r.b, .int .i64 r.len]
theorem ei_step : EInfo Try.prog 76 79 3 24 := EInfo.mk' Try.underlying76 (z := .agg #[.int .i64 0, .int .i64 0, .int .i64 0]) (by kernel_rfl) rfl (by omega)
/-- a slice of steps of the call's own -/
def OwnS (w : World) (base : Nat) (v : Value) (l : List Sp) : Prop := w.ownsRow base 79 3 v l.length (l.map Sp.cells).flatten
theorem OwnS.nil (w : World) (base : Nat) : OwnS w base (.slice none 0 0) [] := World.ownsRow_nil _ _ _ _
theorem OwnS.snoc {w : World} {base n : Nat} {v : Value} {l : List Sp} {r : Sp} {xs : List Value} (h : w.ownsRow base 79 3 v n xs) (hn : n = l.length + 1) (hx : xs = (l.map Sp.cells).flatten ++ Sp.cells r) : OwnS w base v (l ++ [r]) := by
  subst hn hx
  unfold OwnS
  simpa using h
theorem OwnS.nam {w : World} {base : Nat} {v : Value} {l : List Sp} (h : OwnS w base v l) : ∃ A n c, v = .slice A n c ∧ Hid (l.length = n) ∧ n ≤ c ∧ c ≤ maxLen ∧ Strs Sp.cells 3 w w.heap.size A n l := by
  obtain ⟨A, c, rfl, h1, h2, h3⟩ := own_open h
  exact ⟨A, _, c, rfl, hide rfl, h1, h2, h3⟩
theorem OwnS.row {w : World} {base n : Nat} {v : Value} {l : List Sp} (h : OwnS w base v l) (hn : l.length = n) : w.ownsRow base 79 3 v n (l.map Sp.cells).flatten := by
  subst hn
  exact h
theorem OwnS.mk' {w : World} {base n : Nat} {v : Value} {l : List Sp} (h : w.ownsRow base 79 3 v n (l.map Sp.cells).flatten) (hn : l.length = n) : OwnS w base v l := by
  subst hn
  exact h
theorem one_sp (r : Sp) : ∀ u ∈ Sp.cells r, u.oneCell' = true := by
  intro u hu
  simp only [Sp.cells, List.mem_cons, List.not_mem_nil, or_false] at hu
  rcases hu with rfl | rfl | rfl <;> rfl
theorem set3 (c0 c1 c2 : Value) (a : Array Value) (h : a.size = 3) : (((a.setIfInBounds 0 c0).setIfInBounds 1 c1).setIfInBounds 2 c2) = #[c0, c1, c2] := by
  obtain ⟨l⟩ := a
  match l, h with
  | [x0, x1, x2], _ => rfl
theorem run_lit3 {P : Program} (w : World) (t e : TypeId) (c0 c1 c2 : Value) (hu : P.underlying t = some (.slice e)) (hi : (P.info? e).map (fun i => (i.size, i.zero.map (·.cells.size))) = some (3, some 3)) : (Instr.buildSlice t 1 #[(0, .agg #[c0, c1, c2])]).run P w = .ok (.slice (some ⟨w.heap.size, 0, none⟩) 1 1) (w.alloc (.cells #[c0, c1, c2] e)) := by
  cases hq : P.info? e with
  | none => rw [hq] at hi; cases hi
  | some inf =>
    rw [hq] at hi
    simp only [Option.map_some, Option.some.injEq, Prod.mk.injEq] at hi
    obtain ⟨h1, h2⟩ := hi
    cases hz : inf.zero with
    | none => rw [hz] at h2; cases h2
    | some z =>
      simp [Instr.buildSlice, run_underlying hu, sizeOf, typeInfo, zeroValue, hq, h1, hz, Instr.fill, newRow, Value.cells]
      rw [set3 _ _ _ _ (by simp)]
/-! ### steps -/
def stR (rs : List Rn) : List Sp := rs.map fun x => ⟨x.fr, x.tt, x.ln⟩
def stL (lf : List Lf) : List Sp := lf.map fun x => ⟨x.fr, x.tt, x.ln⟩
def stS (lf : List Lf) (rs : List Rn) : List Sp := stR rs ++ stL lf
theorem stR_snoc {rs : List Rn} {k : Nat} (h : k < rs.length) : stR (rs.take (k + 1)) = stR (rs.take k) ++ [⟨(rs.getD k rn0).fr, (rs.getD k rn0).tt, (rs.getD k rn0).ln⟩] := by
  unfold stR
  rw [List.take_succ_eq_append_getElem h, List.map_append]
  congr 1
  simp [List.getElem?_eq_getElem h]
theorem stL_snoc {rs : List Lf} {k : Nat} (h : k < rs.length) : stL (rs.take (k + 1)) = stL (rs.take k) ++ [⟨(rs.getD k lf0).fr, (rs.getD k lf0).tt, (rs.getD k lf0).ln⟩] := by
  unfold stL
  rw [List.take_succ_eq_append_getElem h, List.map_append]
  congr 1
  simp [List.getElem?_eq_getElem h]
theorem stR_len (rs : List Rn) (k : Nat) : (stR (rs.take k)).length ≤ k := by unfold stR; simp; omega
theorem stL_len (rs : List Lf) (k : Nat) : (stL (rs.take k)).length ≤ k := by unfold stL; simp; omega
theorem stS_mem {lf : List Lf} {rs : List Rn} {s : Sp} : s ∈ stS lf rs ↔ IsStep lf rs s.a s.b s.len := by
  unfold stS stR stL IsStep
  simp only [List.mem_append, List.mem_map]
  constructor
  · rintro (⟨x, hx, rfl⟩ | ⟨x, hx, rfl⟩)
    · exact .inr ⟨x, hx, rfl, rfl, rfl⟩
    · exact .inl ⟨x, hx, rfl, rfl, rfl⟩
  · rintro (⟨x, hx, h1, h2, h3⟩ | ⟨x, hx, h1, h2, h3⟩)
    · exact .inr ⟨x, hx, by cases s; simp_all⟩
    · exact .inl ⟨x, hx, by cases s; simp_all⟩
/-! ### indices -/
def idxZ (l : List Nd) (i : Int) : Nat → Int
  | k => match l with
    | [] => -1
    | x :: l => if x.id = i then (k : Int) else idxZ l i (k + 1)
theorem idxZ_at {l : List Nd} {i : Int} {k : Nat} (h : k < l.length) : idxZ (l.drop k) i k = if (l.getD k nd0).id = i then (k : Int) else idxZ (l.drop (k + 1)) i (k + 1) := by
  rw [List.drop_eq_getElem_cons h, idxZ]
  simp [List.getElem?_eq_getElem h]
theorem idxZ_is : ∀ (l : List Nd) (i : Int) (k : Nat), idxZ l i k = if hasN l i = true then ((k + atN (l.map Nd.id) i : Nat) : Int) else -1
  | [], i, k => by simp [idxZ, hasN, findN]
  | x :: l, i, k => by
    rw [idxZ]
    by_cases hx : x.id = i
    · have h1 : hasN (x :: l) i = true := hasN_iff.2 (by simp [hx])
      rw [if_pos hx, if_pos h1]
      unfold atN
      simp [hx, List.findIdx_cons]
    · rw [if_neg hx, idxZ_is l i (k + 1)]
      have h1 : hasN (x :: l) i = hasN l i := by
        unfold hasN findN
        rw [List.find?_cons_of_neg (by simpa using hx)]
      rw [h1]
      have h2 : atN ((x :: l).map Nd.id) i = atN (l.map Nd.id) i + 1 := by
        unfold atN
        have hb : (x.id == i) = false := beq_eq_false_iff_ne.2 hx
        rw [List.map_cons, List.findIdx_cons]
        simp only [hb]
        rfl
      rw [h2]
      split
      · congr 1; omega
      · rfl
def atZ (nd : List Nd) (i : Int) : Int := idxZ nd i 0
theorem atZ_yes {nd : List Nd} {i : Int} (h : hasN nd i = true) : atZ nd i = ((atN (nd.map Nd.id) i : Nat) : Int) ∧ atN (nd.map Nd.id) i < nd.length := by
  refine ⟨?_, ?_⟩
  · unfold atZ
    rw [idxZ_is, if_pos h]
    congr 1
    omega
  · have := atN_lt (hasN_iff.1 h)
    simpa using this
theorem atZ_no {nd : List Nd} {i : Int} (h : hasN nd i = false) : atZ nd i = -1 := by
  unfold atZ
  rw [idxZ_is, if_neg (by rw [h]; decide)]
/-! ### rounds -/
theorem fold_stepB (ids : List Int) (st : List Sp) (l : List Int) {k : Nat} (h : k < st.length) : (st.take (k + 1)).foldl (fun l s => stepB l (atN ids s.a) (atN ids s.b) s.len) l = stepB ((st.take k).foldl (fun l s => stepB l (atN ids s.a) (atN ids s.b) s.len) l) (atN ids (st.getD k sp0).a) (atN ids (st.getD k sp0).b) (st.getD k sp0).len := by
  rw [List.take_succ_eq_append_getElem h, List.foldl_append]
  simp [List.getElem?_eq_getElem h]
def BndB (l : List Int) (M : Int) : Prop := ∀ i, i < l.length → -1 ≤ l.getD i 0 ∧ l.getD i 0 ≤ 20000 * M
theorem BndB.mono {l : List Int} {M N : Int} (h : BndB l M) (hMN : M ≤ N) : BndB l N := fun i hi => by have := h i hi; omega
theorem BndB.set_ {l : List Int} {M : Int} (h : BndB l M) {a b : Nat} (ha : a < l.length) (hb : b < l.length) {c : Int} (hc : 0 ≤ c ∧ c ≤ 20000) (_ : 0 ≤ M) : BndB (l.set b (nearN (l.getD b 0) (l.getD a 0) c)) (M + 1) := fun i hi => by
  rw [List.length_set] at hi
  rw [getD_setI hi]
  have h1 := h a ha
  have h2 := h b hb
  have h3 := h i hi
  split
  · unfold nearN
    split <;> omega
  · omega
theorem rel_of {nd : List Nd} {lf : List Lf} {rs : List Rn} (hl : ∀ x ∈ lf, hasN nd x.fr = true ∧ hasN nd x.tt = true ∧ 0 ≤ x.ln) (hr : ∀ x ∈ rs, hasN nd x.fr = true ∧ hasN nd x.tt = true ∧ 0 ≤ x.ln) : RelB (nd.map Nd.id) (stS lf rs) (lnE lf rs) := by
  refine ⟨fun s hs => ?_, fun s hs => ?_, fun e he => ?_⟩
  · rcases stS_mem.1 hs with ⟨x, hx, h1, h2, h3⟩ | ⟨x, hx, h1, h2, h3⟩
    · obtain ⟨g1, g2, g3⟩ := hl x hx
      rw [← h1, ← h2, ← h3]
      exact ⟨hasN_iff.1 g1, hasN_iff.1 g2, g3⟩
    · obtain ⟨g1, g2, g3⟩ := hr x hx
      rw [← h1, ← h2, ← h3]
      exact ⟨hasN_iff.1 g1, hasN_iff.1 g2, g3⟩
  · have h := stS_mem.1 hs
    exact ⟨lnE_mem.2 (.inl h), lnE_mem.2 (.inr h)⟩
  · rcases lnE_mem.1 ⟨e, he, rfl, rfl, rfl⟩ with h | h
    · exact ⟨⟨e.fr, e.tt, e.cst⟩, stS_mem.2 h, .inl ⟨rfl, rfl, rfl⟩⟩
    · exact ⟨⟨e.tt, e.fr, e.cst⟩, stS_mem.2 h, .inr ⟨rfl, rfl, rfl⟩⟩
/-- the reference finds the same length -/
theorem way_same {nd : List Nd} {lf : List Lf} {rs : List Rn} (hl : ∀ x ∈ lf, hasN nd x.fr = true ∧ hasN nd x.tt = true ∧ 0 ≤ x.ln) (hr : ∀ x ∈ rs, hasN nd x.fr = true ∧ hasN nd x.tt = true ∧ 0 ≤ x.ln) (hc : ∀ e ∈ lnE lf rs, 0 ≤ e.cst) {u v : Int} (hu : hasN nd u = true) (hv : hasN nd v = true) {T : Int}
    (hT : valB (nd.map Nd.id) (roundsB (nd.map Nd.id) (stS lf rs) nd.length (startB (nd.map Nd.id) u)) v = T) : (T < 0 → wayO nd lf rs u v = none) ∧ (0 ≤ T → wayO nd lf rs u v = some T) := by
  have h := roundsB_is (rel_of hl hr) (hasN_iff.1 hu) (hasN_iff.1 hv)
  rw [List.length_map, hT] at h
  have hI := lengths_is hc v
  rw [wayO_yes hu hv]
  rcases h with ⟨h1, h2⟩ | ⟨h1, h2⟩
  · refine ⟨fun _ => ?_, fun h0 => by omega⟩
    cases hf : lengthsD (lnE lf rs) v u with
    | none => rfl
    | some a =>
      obtain ⟨p, hp, _⟩ := hI.sound u a hf
      exact absurd hp (h2 p)
  · refine ⟨fun h0 => by omega, fun _ => ?_⟩
    cases hf : lengthsD (lnE lf rs) v u with
    | none =>
      obtain ⟨⟨p, hp, _⟩, _⟩ := h2
      exact absurd hp (hI.none_ hf p)
    | some a => exact congrArg some ((hI.cost hf).unique h2)
end Go.Proofs.Ytegijfmdjaehjaa
