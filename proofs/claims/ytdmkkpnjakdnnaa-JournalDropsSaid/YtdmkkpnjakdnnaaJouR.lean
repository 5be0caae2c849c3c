/-
  What is known of arguments that are rides and slices of rides.
-/
import Derived.Test.YtdmkkpnjakdnnaaJouL
import Derived.Test.YtdmkkpnjakdnnaaRow
import Derived.Test.YtdmkkpnjakdnnaaRowS
import Derived.SizedLaws
namespace Go.Proofs.Ytdmkkpnjakdnnaa
open Go.ChangeShapes Go.WideShapes Go.ChangeAt Go.RowKit Go.Deep

section
variable {H : Type} {enc : TypeId × Value → H} {P : Program} {W : World} {base : Nat}
theorem list_of {α : Type} (f : α → List Value) : ∀ {es : List (List Value)}, (∀ r ∈ es, ∃ x, r = f x) → ∃ l : List α, es = l.map f
  | [], _ => ⟨[], rfl⟩
  | r :: es, h => by
    obtain ⟨x, rfl⟩ := h r (by simp)
    obtain ⟨l, rfl⟩ := list_of f (es := es) fun r' h' => h r' (by simp [h'])
    exact ⟨x :: l, rfl⟩
/-- the datum of a slice has as many elements -/
theorem len_datum {t e : TypeId} (ht : P.underlying t = some (.slice e)) {A : Option Addr} {n c : Nat} {d : DataW H} {p : List MemPlace} (h : DataW.Trod enc P W 0 (fun _ => true) true t (.slice A n c) d p) : n = 0 ∨ ∃ elems spare, d = .slice elems spare ∧ elems.length = n := by
  obtain ⟨fuel, hf⟩ := h
  rcases DataW.trod_slice ht hf with ⟨hcs, _⟩ | ⟨a, len, cap, elems, rest, m, _, hcs, hx, _, _, _, hl, _⟩
  · simp [Value.cells] at hcs
    exact .inl hcs.2.1
  · simp [Value.cells] at hcs
    simp only [Prod.mk.injEq] at hx
    exact .inr ⟨_, _, hx.1, by rw [List.length_map, hl, hcs.2.1]⟩
theorem open_u8 {t : TypeId} {v : Value} {d : DataW H} {p : List MemPlace} (ht : P.underlying t = some (.int .u8)) (hv : Value.okWide P W .any base t v) (h : DataW.Trod enc P W 0 (fun _ => true) true t v d p) :
    ∃ x : Int, v = .int .u8 x ∧ 0 ≤ x ∧ x < 256 := by
  obtain ⟨x, rfl, _, _, w⟩ := open_int ht hv h
  have := bounds_u8 w
  exact ⟨x, rfl, this.1, by omega⟩
theorem open_u16 {t : TypeId} {v : Value} {d : DataW H} {p : List MemPlace} (ht : P.underlying t = some (.int .u16)) (hv : Value.okWide P W .any base t v) (h : DataW.Trod enc P W 0 (fun _ => true) true t v d p) :
    ∃ x : Int, v = .int .u16 x ∧ 0 ≤ x ∧ x < 65536 := by
  obtain ⟨x, rfl, _, _, w⟩ := open_int ht hv h
  have := bounds_u16 w
  exact ⟨x, rfl, this.1, by omega⟩
end
section
variable {H : Type} {enc : TypeId × Value → H} {W : World} {base : Nat}
theorem open_rides {v : Value} {d : DataW H} {p : List MemPlace} (hv : Value.okWide Try.prog W .any base 22 v) (h : DataW.Trod enc Try.prog W 0 (fun _ => true) true 22 v d p) :
    ∃ l : List Rd, StrV Rd.cells 7 W W.heap.size v l := by
  obtain ⟨A, n, c, es, rfl, h1, h2, h3, h4, h5⟩ := open_structs_arg Try.underlying22 Try.underlying30 (by kernel_rfl) (by kernel_rfl) (by decide) hv h
  obtain ⟨l, rfl⟩ := list_of Rd.cells (es := es) fun r hr => by
    obtain ⟨hl, hf⟩ := h5 r hr
    obtain ⟨a, b, c, d, e, f, g, rfl⟩ := list_len7 r hl
    obtain ⟨x0, rfl, _⟩ := field_int Try.underlying3 (hf 0 _ _ rfl rfl)
    obtain ⟨x1, rfl, _⟩ := field_int Try.underlying3 (hf 1 _ _ rfl rfl)
    obtain ⟨x2, rfl, _⟩ := field_int Try.underlying3 (hf 2 _ _ rfl rfl)
    obtain ⟨x3, rfl, _⟩ := field_int Try.underlying3 (hf 3 _ _ rfl rfl)
    obtain ⟨x4, rfl, _⟩ := field_int Try.underlying3 (hf 4 _ _ rfl rfl)
    obtain ⟨x5, rfl, _⟩ := field_int Try.underlying3 (hf 5 _ _ rfl rfl)
    obtain ⟨x6, rfl, _⟩ := field_int Try.underlying3 (hf 6 _ _ rfl rfl)
    exact ⟨⟨x0, x1, x2, x3, x4, x5, x6⟩, rfl⟩
  exact ⟨l, strV_of h4 (by simpa using h3) h1 h2⟩
theorem open_ride {v : Value} {d : DataW H} {p : List MemPlace} (hv : Value.okWide Try.prog W .any base 30 v) (h : DataW.Trod enc Try.prog W 0 (fun _ => true) true 30 v d p) :
    ∃ r : Rd, v = .agg #[.int .i64 r.gate, .int .i64 r.seq, .int .i64 r.ser, .int .i64 r.cnt, .int .i64 r.prod, .int .i64 r.lift, .int .i64 r.att] := by
  obtain ⟨ol, rfl, oll, of⟩ := open_agg Try.underlying30 (by kernel_rfl) (by kernel_rfl) hv h
  obtain ⟨u0, u1, u2, u3, u4, u5, u6, rfl⟩ := list_len7 ol oll
  obtain ⟨x0, rfl, _⟩ := field_int Try.underlying3 (of 0 _ _ rfl rfl)
  obtain ⟨x1, rfl, _⟩ := field_int Try.underlying3 (of 1 _ _ rfl rfl)
  obtain ⟨x2, rfl, _⟩ := field_int Try.underlying3 (of 2 _ _ rfl rfl)
  obtain ⟨x3, rfl, _⟩ := field_int Try.underlying3 (of 3 _ _ rfl rfl)
  obtain ⟨x4, rfl, _⟩ := field_int Try.underlying3 (of 4 _ _ rfl rfl)
  obtain ⟨x5, rfl, _⟩ := field_int Try.underlying3 (of 5 _ _ rfl rfl)
  obtain ⟨x6, rfl, _⟩ := field_int Try.underlying3 (of 6 _ _ rfl rfl)
  exact ⟨⟨x0, x1, x2, x3, x4, x5, x6⟩, rfl⟩
/-- the form's own reach bounds the number of rides -/
theorem rides_reach {v : Value} {l : List Rd} (hv : StrV Rd.cells 7 W W.heap.size v l) {d : DataW H} {p : List MemPlace} (h : DataW.Trod enc Try.prog W 0 (fun _ => true) true 22 v d p) {ts : List TypeId} {ds : List (DataW H)}
    (hz : (DataW.weightsEach Try.prog (22 :: ts) (d :: ds)).all (· ≤ reachBytes) = true) : l.length ≤ 3000000000000 := by
  obtain ⟨A, c, rfl, _⟩ := hv
  rcases len_datum Try.underlying22 h with h0 | ⟨elems, spare, rfl, hl⟩
  · omega
  · have h1 := sized_slice hz (j := 0) (t := 22) (e := 30) rfl rfl Try.underlying22
    rw [show Try.prog.bytesOf 30 = 56 by kernel_rfl] at h1
    simp only [reachBytes] at h1
    omega
end
end Go.Proofs.Ytdmkkpnjakdnnaa
