/-
  The value of a flow, added edge by edge; in plain Lean.
-/
import Derived.Test.YtihmboibpjfohaaFlfN
namespace Go.Proofs.Ytihmboibpjfohaa

theorem net_app : ∀ (es es' : List Ed) (f f' : List Int) (v : Int), f.length = es.length → netN (es ++ es') (f ++ f') v = netN es f v + netN es' f' v
  | [], es', [], f', v, _ => by simp [netN]
  | [], _, _ :: _, _, _, h => by simp at h
  | _ :: _, _, [], _, _, h => by simp at h
  | e :: es, es', x :: f, f', v, h => by
    have ih := net_app es es' f f' v (by simpa using h)
    simp only [List.cons_append, netN]
    rw [ih]
    omega
theorem ed_take {es : List Ed} {k : Nat} (h : k < es.length) : es.take (k + 1) = es.take k ++ [es.getD k edZ] := by
  rw [List.take_succ_eq_append_getElem h]
  simp [List.getElem?_eq_getElem h]
theorem int_take {l : List Int} {k : Nat} (h : k < l.length) : l.take (k + 1) = l.take k ++ [l.getD k 0] := by
  rw [List.take_succ_eq_append_getElem h]
  simp [List.getElem?_eq_getElem h]
theorem net_snoc {es : List Ed} {f : List Int} (hl : f.length = es.length) {k : Nat} (hk : k < es.length) (v : Int) : netN (es.take (k + 1)) (f.take (k + 1)) v = netN (es.take k) (f.take k) v + (if (es.getD k edZ).fr = v then f.getD k 0 else 0) - (if (es.getD k edZ).tt = v then f.getD k 0 else 0) := by
  rw [ed_take hk, int_take (by omega), net_app _ _ _ _ _ (by simp [hl])]
  simp only [netN]
  omega
theorem net_take_le {es : List Ed} {f : List Int} (hl : f.length = es.length) (hb : ∀ i, i < es.length → 0 ≤ f.getD i 0 ∧ f.getD i 0 ≤ 1000000) (k : Nat) (hk : k ≤ es.length) (v : Int) : -(1000000 * (k : Int)) ≤ netN (es.take k) (f.take k) v ∧ netN (es.take k) (f.take k) v ≤ 1000000 * (k : Int) := by
  have h1 : (es.take k).length = k := by rw [List.length_take]; omega
  have := net_le (es.take k) (f.take k) v (by simp [hl]) fun i hi => by
    rw [h1] at hi
    have h := hb i (by omega)
    have e : (f.take k).getD i 0 = f.getD i 0 := by
      rw [List.getD_eq_getElem?_getD, List.getD_eq_getElem?_getD, List.getElem?_take, if_pos hi]
    rw [e]
    exact h
  rw [h1] at this
  exact this

/-! ### the edges of Egress -/
end Go.Proofs.Ytihmboibpjfohaa
