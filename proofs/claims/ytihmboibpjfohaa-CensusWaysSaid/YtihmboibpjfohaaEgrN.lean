/-
  The value of a flow, added edge by edge; in plain Lean.
  The edges of Egress, in plain Lean.
-/
import Derived.Test.YtihmboibpjfohaaFlsN
import Derived.Test.YtihmboibpjfohaaTerM
namespace Go.Proofs.Ytihmboibpjfohaa

section
theorem net_app : ∀ (es es' : List Ed) (f f' : List Int) (v : Int), f.length = es.length → netN (es ++ es') (f ++ f') v = netN es f v + netN es' f' v
  | [], es', [], f', v, _ => by simp [netN]
  | [], _, _ :: _, _, _, h => by simp at h
  | _ :: _, _, [], _, _, h => by simp at h
  | e :: es, es', x :: f, f', v, h => by
    have ih := net_app es es' f f' v (by simpa using h)
    simp only [List.cons_append, netN]
    rw [ih]
    omega
theorem ed_take {es : List Ed} {k : Nat} (h : k < es.length) : es.take (k + 1) = es.take k ++ [es.getD k edZ] := by
  rw [List.take_succ_eq_append_getElem h]
  simp [List.getElem?_eq_getElem h]
theorem int_take {l : List Int} {k : Nat} (h : k < l.length) : l.take (k + 1) = l.take k ++ [l.getD k 0] := by
  rw [List.take_succ_eq_append_getElem h]
  simp [List.getElem?_eq_getElem h]
theorem net_snoc {es : List Ed} {f : List Int} (hl : f.length = es.length) {k : Nat} (hk : k < es.length) (v : Int) : netN (es.take (k + 1)) (f.take (k + 1)) v = netN (es.take k) (f.take k) v + (if (es.getD k edZ).fr = v then f.getD k 0 else 0) - (if (es.getD k edZ).tt = v then f.getD k 0 else 0) := by
  rw [ed_take hk, int_take (by omega), net_app _ _ _ _ _ (by simp [hl])]
  simp only [netN]
  omega
theorem net_take_le {es : List Ed} {f : List Int} (hl : f.length = es.length) (hb : ∀ i, i < es.length → 0 ≤ f.getD i 0 ∧ f.getD i 0 ≤ 1000000) (k : Nat) (hk : k ≤ es.length) (v : Int) : -(1000000 * (k : Int)) ≤ netN (es.take k) (f.take k) v ∧ netN (es.take k) (f.take k) v ≤ 1000000 * (k : Int) := by
  have h1 : (es.take k).length = k := by rw [List.length_take]; omega
  have := net_le (es.take k) (f.take k) v (by simp [hl]) fun i hi => by
    rw [h1] at hi
    have h := hb i (by omega)
    have e : (f.take k).getD i 0 = f.getD i 0 := by
      rw [List.getD_eq_getElem?_getD, List.getD_eq_getElem?_getD, List.getElem?_take, if_pos hi]
    rw [e]
    exact h
  rw [h1] at this
  exact this

/-! ### the edges of Egress -/
end

section
def egR (runs : List Int) : List Rn → List Ed → List Ed
  | [], acc => acc
  | r :: rs, acc => egR runs rs (if runs.contains r.id = true then acc ++ [⟨(acc.length : Int), r.fr, r.tt, (5 - r.gr) * 500⟩] else acc)
def egB : List Int → List Ed → List Ed
  | [], acc => acc
  | b :: bs, acc => egB bs (acc ++ [⟨(acc.length : Int), b, 0, 1000000⟩])
def egE (rs : List Rn) (runs bs : List Int) : List Ed := egB bs (egR runs rs [])
theorem egR_at {runs : List Int} {rs : List Rn} {acc : List Ed} {k : Nat} (h : k < rs.length) : egR runs (rs.drop k) acc = egR runs (rs.drop (k + 1)) (if runs.contains (rs.getD k rn0).id = true then acc ++ [⟨(acc.length : Int), (rs.getD k rn0).fr, (rs.getD k rn0).tt, (5 - (rs.getD k rn0).gr) * 500⟩] else acc) := by
  rw [List.drop_eq_getElem_cons h, egR]
  simp [List.getElem?_eq_getElem h]
theorem egB_at {bs : List Int} {acc : List Ed} {k : Nat} (h : k < bs.length) : egB (bs.drop k) acc = egB (bs.drop (k + 1)) (acc ++ [⟨(acc.length : Int), bs.getD k 0, 0, 1000000⟩]) := by
  rw [List.drop_eq_getElem_cons h, egB]
  simp [List.getElem?_eq_getElem h]
structure EgOK (nd : List Nd) (rs : List Rn) (bs : List Int) : Prop where
  l1 : rs.length ≤ 64
  l2 : bs.length ≤ 64
  runs : ∀ x ∈ rs, (0 ≤ x.fr ∧ x.fr ≤ 9999) ∧ (0 ≤ x.tt ∧ x.tt ≤ 9999) ∧ 1 ≤ x.gr ∧ x.gr ≤ 4
  bases : ∀ x ∈ bs, 0 ≤ x ∧ x ≤ 9999
  nodes : ∀ i, hasN nd i = true → 1 ≤ i ∧ i ≤ 9999
def EdOK (es : List Ed) : Prop := ∀ e ∈ es, (0 ≤ e.fr ∧ e.fr ≤ 1000000) ∧ (0 ≤ e.tt ∧ e.tt ≤ 1000000) ∧ 0 ≤ e.cst ∧ e.cst ≤ 1000000
theorem EdOK.snoc {es : List Ed} {e : Ed} (h : EdOK es) (h1 : (0 ≤ e.fr ∧ e.fr ≤ 1000000) ∧ (0 ≤ e.tt ∧ e.tt ≤ 1000000) ∧ 0 ≤ e.cst ∧ e.cst ≤ 1000000) : EdOK (es ++ [e]) := fun x hx => by
  rcases List.mem_append.1 hx with hx | hx
  · exact h x hx
  · rw [List.mem_singleton.1 hx]; exact h1
theorem egR_ok {runs : List Int} : ∀ {rs : List Rn} {acc : List Ed}, (∀ x ∈ rs, (0 ≤ x.fr ∧ x.fr ≤ 9999) ∧ (0 ≤ x.tt ∧ x.tt ≤ 9999) ∧ 1 ≤ x.gr ∧ x.gr ≤ 4) → EdOK acc → EdOK (egR runs rs acc) ∧ (egR runs rs acc).length ≤ acc.length + rs.length
  | [], acc, _, ha => ⟨ha, by simp [egR]⟩
  | r :: rs, acc, h, ha => by
    have hr := h r (by simp)
    rw [egR]
    split
    · have := egR_ok (runs := runs) (rs := rs) (acc := acc ++ [⟨(acc.length : Int), r.fr, r.tt, (5 - r.gr) * 500⟩]) (fun x hx => h x (by simp [hx])) (ha.snoc ⟨by simp only; omega, by simp only; omega, by simp only; omega⟩)
      refine ⟨this.1, ?_⟩
      have h2 := this.2
      simp at h2 ⊢
      omega
    · have := egR_ok (runs := runs) (rs := rs) (acc := acc) (fun x hx => h x (by simp [hx])) ha
      refine ⟨this.1, ?_⟩
      have h2 := this.2
      simp only [List.length_cons]
      omega
theorem egB_ok : ∀ {bs : List Int} {acc : List Ed}, (∀ x ∈ bs, 0 ≤ x ∧ x ≤ 9999) → EdOK acc → EdOK (egB bs acc) ∧ (egB bs acc).length = acc.length + bs.length
  | [], acc, _, ha => ⟨ha, by simp [egB]⟩
  | b :: bs, acc, h, ha => by
    have hb := h b (by simp)
    rw [egB]
    have := egB_ok (bs := bs) (acc := acc ++ [⟨(acc.length : Int), b, 0, 1000000⟩]) (fun x hx => h x (by simp [hx])) (ha.snoc ⟨by simp only; omega, by simp only; omega, by simp only; omega⟩)
    refine ⟨this.1, ?_⟩
    have h2 := this.2
    simp at h2 ⊢
    omega
theorem EgOK.edges {nd : List Nd} {rs : List Rn} {bs : List Int} (h : EgOK nd rs bs) (runs : List Int) : EdOK (egE rs runs bs) ∧ (egE rs runs bs).length ≤ 128 := by
  have h1 := egR_ok (runs := runs) (rs := rs) (acc := []) h.runs (fun e he => by cases he)
  have h2 := egB_ok (bs := bs) (acc := egR runs rs []) h.bases h1.1
  have h3 := h1.2
  have h4 := h2.2
  have h5 := h.l1
  have h6 := h.l2
  simp at h3
  exact ⟨h2.1, by unfold egE; omega⟩
/-- what Egress returns -/
def EgV (nd : List Nd) (rs : List Rn) (bs runs : List Int) (node M : Int) : Prop := if hasN nd node = true then MaxV (egE rs runs bs) node 0 M else M = 0
theorem EgV.unique {nd : List Nd} {rs : List Rn} {bs runs : List Int} {node M N : Int} (h : EgV nd rs bs runs node M) (k : EgV nd rs bs runs node N) : M = N := by
  unfold EgV at h k
  split at h
  · rename_i hh
    rw [if_pos hh] at k
    exact h.unique k
  · rename_i hh
    rw [if_neg hh] at k
    rw [h, k]
theorem EgV.bound {nd : List Nd} {rs : List Rn} {bs runs : List Int} {node M : Int} (hk : EgOK nd rs bs) (h : EgV nd rs bs runs node M) : 0 ≤ M ∧ M ≤ 1000000 * 128 := by
  unfold EgV at h
  split at h
  · obtain ⟨h1, h2⟩ := hk.edges runs
    refine ⟨h.nonneg fun e he => (h1 e he).2.2.1, ?_⟩
    obtain ⟨f, R, hm⟩ := h
    have hv := hm.val
    have := (net_le _ f node hm.flow.len fun i hi => ⟨(hm.flow.at_ hi).1, Int.le_trans (hm.flow.at_ hi).2 (h1 _ (ed_mem hi)).2.2.2⟩).2
    omega
  · omega
/-- what Empty returns -/
def emptyV (people n : Int) : Int := if people < 0 ∨ 1000000 < people then -1 else if people = 0 then 0 else if n = 0 then -1 else (people * 3600 + n - 1) / n
end
end Go.Proofs.Ytihmboibpjfohaa
