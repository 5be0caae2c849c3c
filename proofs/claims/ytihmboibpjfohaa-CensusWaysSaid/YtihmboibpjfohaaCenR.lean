/-
  What is known of arguments that are crossings and slices of crossings.
-/
import Derived.Test.YtihmboibpjfohaaCenV
import Derived.Test.YtihmboibpjfohaaRow
import Derived.Test.YtihmboibpjfohaaRowS
namespace Go.Proofs.Ytihmboibpjfohaa
open Go.ChangeShapes Go.WideShapes Go.ChangeAt Go.RowKit Go.Deep

theorem OwnCr.mk' {w : World} {base n : Nat} {v : Value} {l : List Cr} (h : w.ownsRow base 24 4 v n (l.map Cr.cells).flatten) (hn : l.length = n) : OwnCr w base v l := by
  subst hn
  exact h
section
variable {H : Type} {enc : TypeId × Value → H} {W : World} {base : Nat}
theorem list_of {α : Type} (f : α → List Value) : ∀ {es : List (List Value)}, (∀ r ∈ es, ∃ x, r = f x) → ∃ l : List α, es = l.map f
  | [], _ => ⟨[], rfl⟩
  | r :: es, h => by
    obtain ⟨x, rfl⟩ := h r (by simp)
    obtain ⟨l, rfl⟩ := list_of f (es := es) fun r' h' => h r' (by simp [h'])
    exact ⟨x :: l, rfl⟩
theorem open_crs {v : Value} {d : DataW H} {p : List MemPlace} (hv : Value.okWide Try.prog W .any base 22 v) (h : DataW.Trod enc Try.prog W 0 (fun _ => true) true 22 v d p) :
    ∃ l : List Cr, StrV Cr.cells 4 W W.heap.size v l := by
  obtain ⟨A, n, c, es, rfl, h1, h2, h3, h4, h5⟩ := open_structs_arg Try.underlying22 Try.underlying24 (by kernel_rfl) (by kernel_rfl) (by decide) hv h
  obtain ⟨l, rfl⟩ := list_of Cr.cells (es := es) fun r hr => by
    obtain ⟨hl, hf⟩ := h5 r hr
    obtain ⟨a, b, c, d, rfl⟩ := list_len4 r hl
    obtain ⟨x0, rfl, _⟩ := field_int Try.underlying3 (hf 0 _ _ rfl rfl)
    obtain ⟨x1, rfl, _⟩ := field_int Try.underlying3 (hf 1 _ _ rfl rfl)
    obtain ⟨x2, rfl, _⟩ := field_int Try.underlying3 (hf 2 _ _ rfl rfl)
    obtain ⟨x3, rfl, _⟩ := field_int Try.underlying3 (hf 3 _ _ rfl rfl)
    exact ⟨⟨x0, x1, x2, x3⟩, rfl⟩
  exact ⟨l, strV_of h4 (by simpa using h3) h1 h2⟩
theorem open_cr {v : Value} {d : DataW H} {p : List MemPlace} (hv : Value.okWide Try.prog W .any base 24 v) (h : DataW.Trod enc Try.prog W 0 (fun _ => true) true 24 v d p) :
    ∃ a b c d : Int, v = .agg #[.int .i64 a, .int .i64 b, .int .i64 c, .int .i64 d] := by
  obtain ⟨ol, rfl, oll, of⟩ := open_agg Try.underlying24 (by kernel_rfl) (by kernel_rfl) hv h
  obtain ⟨u0, u1, u2, u3, rfl⟩ := list_len4 ol oll
  obtain ⟨x0, rfl, _⟩ := field_int Try.underlying3 (of 0 _ _ rfl rfl)
  obtain ⟨x1, rfl, _⟩ := field_int Try.underlying3 (of 1 _ _ rfl rfl)
  obtain ⟨x2, rfl, _⟩ := field_int Try.underlying3 (of 2 _ _ rfl rfl)
  obtain ⟨x3, rfl, _⟩ := field_int Try.underlying3 (of 3 _ _ rfl rfl)
  exact ⟨x0, x1, x2, x3, rfl⟩
theorem open_span {v : Value} {d : DataW H} {p : List MemPlace} (hv : Value.okWide Try.prog W .any base 34 v) (h : DataW.Trod enc Try.prog W 0 (fun _ => true) true 34 v d p) :
    ∃ a b : Int, v = .agg #[.int .i64 a, .int .i64 b] := by
  obtain ⟨ol, rfl, oll, of⟩ := open_agg Try.underlying34 (by kernel_rfl) (by kernel_rfl) hv h
  obtain ⟨u0, u1, rfl⟩ := list_len2 ol oll
  obtain ⟨x0, rfl, _⟩ := field_int Try.underlying3 (of 0 _ _ rfl rfl)
  obtain ⟨x1, rfl, _⟩ := field_int Try.underlying3 (of 1 _ _ rfl rfl)
  exact ⟨x0, x1, rfl⟩
theorem open_three {v : Value} {d : DataW H} {p : List MemPlace} (hv : Value.okWide Try.prog W .any base 32 v) (h : DataW.Trod enc Try.prog W 0 (fun _ => true) true 32 v d p) :
    ∃ a b c : Int, v = .agg #[.int .i64 a, .int .i64 b, .int .i64 c] := by
  obtain ⟨zs, rfl, hl, hw⟩ := open_arr Try.underlying32 Try.underlying3 (by kernel_rfl) (by kernel_rfl) hv h
  match zs, hl with
  | [i, j, k], _ => exact ⟨i, j, k, rfl⟩
end
end Go.Proofs.Ytihmboibpjfohaa
