/-
  What is known of arguments that are maps and vehicles.
-/
import Derived.Test.YtegijfmdjaehjaaGruV
import Derived.Test.YtegijfmdjaehjaaRow
import Derived.Test.YtegijfmdjaehjaaRowS
namespace Go.Proofs.Ytegijfmdjaehjaa
open Go.ChangeShapes Go.WideShapes Go.ChangeAt Go.RowKit Go.Deep

section
variable {H : Type} {enc : TypeId × Value → H} {P : Program} {W : World} {base : Nat}
theorem list_of {α : Type} (f : α → List Value) : ∀ {es : List (List Value)}, (∀ r ∈ es, ∃ x, r = f x) → ∃ l : List α, es = l.map f
  | [], _ => ⟨[], rfl⟩
  | r :: es, h => by
    obtain ⟨x, rfl⟩ := h r (by simp)
    obtain ⟨l, rfl⟩ := list_of f (es := es) fun r' h' => h r' (by simp [h'])
    exact ⟨x :: l, rfl⟩
theorem field_strs {α : Type} (f : α → List Value) (s : Nat) {t e : TypeId} {fs : Array Field} {u : Value} (ht : P.underlying t = some (.slice e)) (he : P.underlying e = some (.struct fs)) (hone : oneCellFields P fs = true) (hC : P.cellsOf e = fs.size) (hpos : 0 < fs.size) (hsz : fs.size = s)
    (hel : ∀ r : List Value, r.length = s → (∀ (j : Nat) (f : Field) (u : Value), fs[j]? = some f → r[j]? = some u → FieldV enc P W f.type u) → ∃ x, r = f x) (h : FieldV enc P W t u) : ∃ l : List α, StrV f s W W.heap.size u l := by
  obtain ⟨y, fuel, hf⟩ := h
  obtain ⟨A, n, c, es, hcs, h1, h2, h3, h4, h5⟩ := open_structs ht he hone hC hpos hf
  simp at hcs
  subst hcs
  obtain ⟨l, rfl⟩ := list_of f fun r hr => hel r ((h5 r hr).1.trans hsz) (h5 r hr).2
  rw [hsz] at h4
  exact ⟨l, strV_of h4 (by simpa using h3) h1 h2⟩
end
section
variable {H : Type} {enc : TypeId × Value → H} {W : World} {base : Nat}
theorem open_map {v : Value} {d : DataW H} {p : List MemPlace} (hv : Value.okWide Try.prog W .any base 32 v) (h : DataW.Trod enc Try.prog W 0 (fun _ => true) true 32 v d p) :
    ∃ (vn vl vr vb : Value) (nd : List Nd) (lf : List Lf) (rs : List Rn) (bs : List Int), v = .agg #[vn, vl, vr, vb] ∧ StrV Nd.cells 2 W W.heap.size vn nd ∧ StrV Lf.cells 8 W W.heap.size vl lf ∧ StrV Rn.cells 7 W W.heap.size vr rs ∧ RowV W W.heap.size vb bs := by
  obtain ⟨ol, rfl, oll, of⟩ := open_agg Try.underlying32 (by kernel_rfl) (by kernel_rfl) hv h
  obtain ⟨u0, u1, u2, u3, rfl⟩ := list_len4 ol oll
  obtain ⟨nd, h0⟩ := field_strs Nd.cells 2 Try.underlying27 Try.underlying68 (by kernel_rfl) (by kernel_rfl) (by decide) rfl (fun r hl hf => by
    obtain ⟨a, b, rfl⟩ := list_len2 r hl
    obtain ⟨x0, rfl, _⟩ := field_int Try.underlying3 (hf 0 _ _ rfl rfl)
    obtain ⟨x1, rfl, _⟩ := field_int Try.underlying3 (hf 1 _ _ rfl rfl)
    exact ⟨⟨x0, x1⟩, rfl⟩) (of 0 _ _ rfl rfl)
  obtain ⟨lf, h1⟩ := field_strs Lf.cells 8 Try.underlying28 Try.underlying86 (by kernel_rfl) (by kernel_rfl) (by decide) rfl (fun r hl hf => by
    obtain ⟨a, b, c, d, e, f, g, i, rfl⟩ := list_len8 r hl
    obtain ⟨x0, rfl, _⟩ := field_int Try.underlying3 (hf 0 _ _ rfl rfl)
    obtain ⟨x1, rfl, _⟩ := field_int Try.underlying3 (hf 1 _ _ rfl rfl)
    obtain ⟨x2, rfl, _⟩ := field_int Try.underlying3 (hf 2 _ _ rfl rfl)
    obtain ⟨x3, rfl, _⟩ := field_int Try.underlying3 (hf 3 _ _ rfl rfl)
    obtain ⟨x4, rfl, _⟩ := field_int Try.underlying3 (hf 4 _ _ rfl rfl)
    obtain ⟨x5, rfl, _⟩ := field_int Try.underlying3 (hf 5 _ _ rfl rfl)
    obtain ⟨x6, rfl, _⟩ := field_int Try.underlying3 (hf 6 _ _ rfl rfl)
    obtain ⟨x7, rfl, _⟩ := field_int Try.underlying3 (hf 7 _ _ rfl rfl)
    exact ⟨⟨x0, x1, x2, x3, x4, x5, x6, x7⟩, rfl⟩) (of 1 _ _ rfl rfl)
  obtain ⟨rs, h2⟩ := field_strs Rn.cells 7 Try.underlying29 Try.underlying56 (by kernel_rfl) (by kernel_rfl) (by decide) rfl (fun r hl hf => by
    obtain ⟨a, b, c, d, e, f, g, rfl⟩ := list_len7 r hl
    obtain ⟨x0, rfl, _⟩ := field_int Try.underlying3 (hf 0 _ _ rfl rfl)
    obtain ⟨x1, rfl, _⟩ := field_int Try.underlying3 (hf 1 _ _ rfl rfl)
    obtain ⟨x2, rfl, _⟩ := field_int Try.underlying3 (hf 2 _ _ rfl rfl)
    obtain ⟨x3, rfl, _⟩ := field_int Try.underlying3 (hf 3 _ _ rfl rfl)
    obtain ⟨x4, rfl, _⟩ := field_int Try.underlying3 (hf 4 _ _ rfl rfl)
    obtain ⟨x5, rfl, _⟩ := field_int Try.underlying3 (hf 5 _ _ rfl rfl)
    obtain ⟨x6, rfl, _⟩ := field_int Try.underlying3 (hf 6 _ _ rfl rfl)
    exact ⟨⟨x0, x1, x2, x3, x4, x5, x6⟩, rfl⟩) (of 2 _ _ rfl rfl)
  obtain ⟨A, n, c, bs, rfl, h3, h4, h5, _⟩ := field_ints Try.underlying30 Try.underlying3 (by kernel_rfl) (of 3 _ _ rfl rfl)
  exact ⟨_, _, _, _, nd, lf, rs, bs, rfl, h0, h1, h2, rowV_of h5 h3 h4⟩
theorem open_grs {v : Value} {d : DataW H} {p : List MemPlace} (hv : Value.okWide Try.prog W .any base 22 v) (h : DataW.Trod enc Try.prog W 0 (fun _ => true) true 22 v d p) :
    ∃ l : List Gr, GrV W W.heap.size v l := by
  obtain ⟨A, n, c, es, rfl, h1, h2, h3, h4, h5⟩ := open_structs_arg Try.underlying22 Try.underlying51 (by kernel_rfl) (by kernel_rfl) (by decide) hv h
  obtain ⟨l, rfl⟩ := list_of Gr.cells (es := es) fun r hr => by
    obtain ⟨hl, hf⟩ := h5 r hr
    obtain ⟨a, b, c, d, e, f, g, i, rfl⟩ := list_len8 r hl
    obtain ⟨x0, rfl, _⟩ := field_int Try.underlying3 (hf 0 _ _ rfl rfl)
    obtain ⟨x1, rfl, _⟩ := field_int Try.underlying3 (hf 1 _ _ rfl rfl)
    obtain ⟨x2, rfl, _⟩ := field_int Try.underlying3 (hf 2 _ _ rfl rfl)
    obtain ⟨x3, rfl, _⟩ := field_int Try.underlying3 (hf 3 _ _ rfl rfl)
    obtain ⟨x4, rfl, _⟩ := field_int Try.underlying3 (hf 4 _ _ rfl rfl)
    obtain ⟨x5, rfl, _⟩ := field_int Try.underlying3 (hf 5 _ _ rfl rfl)
    obtain ⟨x6, rfl, _⟩ := field_int Try.underlying3 (hf 6 _ _ rfl rfl)
    obtain ⟨x7, rfl⟩ := field_bool Try.underlying4 (hf 7 _ _ rfl rfl)
    exact ⟨⟨x0, x1, x2, x3, x4, x5, x6, x7⟩, rfl⟩
  exact ⟨l, strV_of h4 (by simpa using h3) h1 h2⟩
end
end Go.Proofs.Ytegijfmdjaehjaa
