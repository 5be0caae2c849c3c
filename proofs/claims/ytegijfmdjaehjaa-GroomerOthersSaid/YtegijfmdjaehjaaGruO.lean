/-
  The plain law of chapter 45: what Send, Groom and Tick leave right. No program is in sight.
-/
import Derived.Test.YtegijfmdjaehjaaGruK
namespace Go.Proofs.Ytegijfmdjaehjaa
open Go.RowKit

theorem findG_spec {l : List Gr} {i : Int} {k : Nat} (h : findG l i = (k : Int)) : k < l.length ∧ (l.getD k gr0).id = i := by
  rcases findG_cases l i with h1 | ⟨k', h1, h2, h3⟩
  · rw [h1] at h; omega
  · rw [h1] at h
    obtain rfl : k' = k := by omega
    exact ⟨h2, h3⟩
theorem gr_at {w : World} {A : Option Addr} {n c k : Nat} {l : List Gr} (h : GrV w w.heap.size (.slice A n c) l) (hl : l.length = n) (hk : k < n) : ∃ ad, A = some ad ∧ ∀ j u, (Gr.cells (l.getD k gr0))[j]? = some u → w.cell? ((ad.add (k * 8)).add j) = some u := by
  obtain ⟨A1, c1, e, _, _, hs⟩ := h
  rw [hl] at e hs
  injection e with e1 _ _
  subst e1
  obtain ⟨ad, h1, _, h2⟩ := strs_at hs (fun _ => rfl) hl hk gr0
  exact ⟨ad, h1, h2⟩
/-- only the vehicle with the ID is another one, and all is right -/
structure SetG (l ls : List Gr) (id : Int) : Prop where
  len : ls.length = l.length
  ok : OkG ls
  same : ∀ i, i < l.length → (l.getD i gr0).id ≠ id → ls.getD i gr0 = l.getD i gr0
theorem getD_set {l : List Gr} {k i : Nat} {x : Gr} (h : i < l.length) : (l.set k x).getD i gr0 = if k = i then x else l.getD i gr0 := by
  rw [List.getD_eq_getElem?_getD, List.getElem?_set]
  by_cases hk : k = i
  · subst hk; simp [h]
  · rw [if_neg hk, if_neg hk]; rfl
theorem set_ids {l : List Gr} {k : Nat} {x : Gr} (h : k < l.length) (hx : x.id = (l.getD k gr0).id) : (l.set k x).map Gr.id = l.map Gr.id := by
  apply List.ext_getElem?
  intro j
  rw [List.getElem?_map, List.getElem?_map, List.getElem?_set]
  by_cases hk : k = j
  · subst hk
    rw [if_pos rfl, if_pos h]
    simp [hx, List.getElem?_eq_getElem h]
  · rw [if_neg hk]
theorem setG_of {l : List Gr} (hok : OkG l) {k : Nat} {x : Gr} (hk : k < l.length) (hi : inG x = true) (ho : okG x = true) (hx : x.id = (l.getD k gr0).id) : SetG l (l.set k x) (l.getD k gr0).id := by
  refine ⟨by simp, ⟨by simpa using hok.len, fun y hy => ?_, by rw [set_ids hk hx]; exact hok.nodup⟩, fun i hi2 hne => ?_⟩
  · rcases List.mem_or_eq_of_mem_set hy with h | h
    · exact hok.each y h
    · rw [h]; exact ⟨hi, ho⟩
  · rw [getD_set hi2]
    by_cases hki : k = i
    · subst hki; exact absurd rfl hne
    · rw [if_neg hki]
theorem inG_mk {id nod fuel st tg run til : Int} {win : Bool} (h1 : 1 ≤ id ∧ id ≤ 9999) (h2 : 1 ≤ nod ∧ nod ≤ 9999) (h3 : 0 ≤ fuel ∧ fuel ≤ 1000000) (h4 : 0 ≤ st ∧ st ≤ 2) (h5 : 0 ≤ til ∧ til ≤ 20000000) (h6 : 0 ≤ tg ∧ tg ≤ 9999) (h7 : 0 ≤ run ∧ run ≤ 9999) : inG ⟨id, nod, fuel, st, tg, run, til, win⟩ = true := by
  rw [inG_def]
  exact decide_eq_true ⟨h1.1, h1.2, h2.1, h2.2, h3.1, h3.2, h4.1, h4.2, h5.1, h5.2, h6.1, h6.2, h7.1, h7.2⟩
section
variable {nd : List Nd} {lf : List Lf} {rs : List Rn} {bs : List Int}
/-- what Send found and did -/
theorem send_is {l ls : List Gr} {id tg t : Int} (h : sendG (fun u => wayO nd lf rs u tg) l id tg t = (ls, 0)) : ∃ (k : Nat) (n : Int), findG l id = (k : Int) ∧ (l.getD k gr0).st = 0 ∧ wayO nd lf rs (l.getD k gr0).nod tg = some n ∧ 2 * n ≤ (l.getD k gr0).fuel ∧ 0 ≤ t ∧ t ≤ 20000000 - (n + 2) / 3 ∧ ls = l.set k (sentG (l.getD k gr0) n tg t) := by
  rcases findG_cases l id with h1 | ⟨k, h1, h2, h3⟩
  · rw [sendG_no h1] at h; injection h with _ h; cases h
  · rw [sendG_at h1] at h
    unfold sendV at h
    by_cases g1 : (l.getD k gr0).st ≠ 0
    · rw [if_pos g1] at h; injection h with _ h; cases h
    · rw [if_neg g1] at h
      cases hw : wayO nd lf rs (l.getD k gr0).nod tg with
      | none => rw [hw] at h; injection h with _ h; cases h
      | some n =>
        rw [hw] at h
        simp only at h
        by_cases g2 : (l.getD k gr0).fuel < 2 * n
        · rw [if_pos g2] at h; injection h with _ h; cases h
        · rw [if_neg g2] at h
          by_cases g3 : t < 0 ∨ 20000000 - (n + 2) / 3 < t
          · rw [if_pos g3] at h; injection h with _ h; cases h
          · rw [if_neg g3] at h
            injection h with h _
            exact ⟨k, n, h1, by omega, hw, by omega, by omega, by omega, h.symm⟩
theorem send_set (hm : MapOK nd lf rs bs) {l ls : List Gr} (hok : OkG l) {id tg t : Int} (h : sendG (fun u => wayO nd lf rs u tg) l id tg t = (ls, 0)) : SetG l ls id := by
  obtain ⟨k, n, h1, h2, h3, h4, h5, h6, rfl⟩ := send_is h
  obtain ⟨hk, hid⟩ := findG_spec h1
  have hb := wayO_bnd hm.wy h3
  have ht := hm.nod (way_some hm h3).2.1
  have hx := hok.each _ (gr_mem hk)
  have hi := inG_iff hx.1
  have ho := of_decide_eq_true (show decide _ = true from hx.2)
  rw [← hid]
  refine setG_of hok hk ?_ ?_ rfl
  · unfold sentG
    refine inG_mk ?_ ?_ ?_ ?_ ?_ ?_ ?_ <;> omega
  · unfold sentG
    rw [okG_def]
    refine decide_eq_true ?_
    omega
/-- what Groom found and did -/
theorem groom_is {l ls : List Gr} {id rg s t : Int} (h : groomG rs l id rg s t = (ls, 0)) : ∃ k : Nat, findG l id = (k : Int) ∧ hasR rs rg = true ∧ (l.getD k gr0).st = 0 ∧ onG l rg = false ∧ s ≤ (l.getD k gr0).fuel / 5 ∧ 1 ≤ s ∧ s ≤ 86400 ∧ 0 ≤ t ∧ t ≤ 20000000 - s ∧ ls = l.set k (begunG (l.getD k gr0) rg s t) := by
  rcases findG_cases l id with h1 | ⟨k, h1, h2, h3⟩
  · rw [groomG_no h1] at h; injection h with _ h; cases h
  · cases hr : hasR rs rg with
    | false => rw [groomG_none hr] at h; injection h with _ h; cases h
    | true =>
      rw [groomG_at h1 hr] at h
      unfold groomV at h
      by_cases g1 : (l.getD k gr0).st ≠ 0
      · rw [if_pos g1] at h; injection h with _ h; cases h
      · rw [if_neg g1] at h
        by_cases g2 : ((l.getD k gr0).nod ≠ (rnOf rs rg).fr ∧ (l.getD k gr0).nod ≠ (rnOf rs rg).tt) ∨ onG l rg = true
        · rw [if_pos g2] at h; injection h with _ h; cases h
        · rw [if_neg g2] at h
          by_cases g3 : (l.getD k gr0).fuel / 5 < s
          · rw [if_pos g3] at h; injection h with _ h; cases h
          · rw [if_neg g3] at h
            by_cases g4 : s < 1 ∨ 86400 < s ∨ t < 0 ∨ 20000000 - s < t
            · rw [if_pos g4] at h; injection h with _ h; cases h
            · rw [if_neg g4] at h
              injection h with h _
              refine ⟨k, h1, rfl, by omega, ?_, by omega, by omega, by omega, by omega, by omega, h.symm⟩
              cases ho : onG l rg with
              | false => rfl
              | true => exact absurd (Or.inr ho) g2
theorem groom_set (hm : MapOK nd lf rs bs) {l ls : List Gr} (hok : OkG l) {id rg s t : Int} (h : groomG rs l id rg s t = (ls, 0)) : SetG l ls id := by
  obtain ⟨k, h1, h2, h3, _, h4, h5, h6, h7, h8, rfl⟩ := groom_is h
  obtain ⟨hk, hid⟩ := findG_spec h1
  obtain ⟨r1, r2⟩ := hasR_id h2
  have hrb := (hm.runs _ r1).1
  rw [r2] at hrb
  have hx := hok.each _ (gr_mem hk)
  have hi := inG_iff hx.1
  have ho := of_decide_eq_true (show decide _ = true from hx.2)
  rw [← hid]
  refine setG_of hok hk ?_ ?_ rfl
  · unfold begunG
    refine inG_mk ?_ ?_ ?_ ?_ ?_ ?_ ?_ <;> omega
  · unfold begunG
    rw [okG_def]
    refine decide_eq_true ?_
    omega
theorem tickX_keep (t : Int) (x : Gr) : (tickX rs t x).id = x.id ∧ (tickX rs t x).win = x.win ∧ (tickX rs t x).fuel = x.fuel := by
  unfold tickX
  split
  · exact ⟨rfl, rfl, rfl⟩
  · exact ⟨rfl, rfl, rfl⟩
theorem tick_ok (hm : MapOK nd lf rs bs) {l : List Gr} (hok : OkG l) (t : Int) : OkG (tickG rs t l) := by
  refine ⟨by unfold tickG; simpa using hok.len, fun y hy => ?_, ?_⟩
  · obtain ⟨x, hx, rfl⟩ := List.mem_map.1 hy
    have h := hok.each x hx
    unfold tickX
    split
    · exact h
    · have hi := inG_iff h.1
      have ho := of_decide_eq_true (show decide _ = true from h.2)
      have hn : 1 ≤ (endedG rs x).nod ∧ (endedG rs x).nod ≤ 9999 := by
        unfold endedG
        simp only
        split
        · omega
        · split
          · rename_i h2
            exact hm.nod (hm.runs _ (hasR_id h2.2).1).2.2.1
          · omega
      unfold endedG at hn ⊢
      refine ⟨inG_mk ?_ hn ?_ ?_ ?_ ?_ ?_, ?_⟩
      · omega
      · omega
      · omega
      · omega
      · omega
      · omega
      · rw [okG_def]; decide
  · have e : (tickG rs t l).map Gr.id = l.map Gr.id := by
      unfold tickG
      rw [List.map_map]
      exact List.map_congr_left fun x _ => (tickX_keep t x).1
    rw [e]
    exact hok.nodup
theorem tick_len (rs : List Rn) (t : Int) (l : List Gr) : (tickG rs t l).length = l.length := by unfold tickG; simp
theorem tick_at (rs : List Rn) (t : Int) {l : List Gr} {k : Nat} (h : k < l.length) : (tickG rs t l).getD k gr0 = tickX rs t (l.getD k gr0) := by
  unfold tickG
  simp [List.getElem?_eq_getElem h]
end
end Go.Proofs.Ytegijfmdjaehjaa
