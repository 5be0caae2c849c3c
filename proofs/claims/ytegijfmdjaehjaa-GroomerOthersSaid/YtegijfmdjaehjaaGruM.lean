/-
  Vehicles in memory.
-/
import Derived.Test.YtegijfmdjaehjaaChecked
import Derived.Test.YtegijfmdjaehjaaGruN
import Derived.Test.YtegijfmdjaehjaaOwnT
import Derived.Test.YtegijfmdjaehjaaMapI
import Derived.Test.YtegijfmdjaehjaaGroF
import Derived.BigQuiet
import Derived.Deep.Light
import Derived.IntWalk
namespace Go.Proofs.Ytegijfmdjaehjaa
open Go.RowKit

abbrev Gr.cells (r : Gr) : List Value := [.int .i64 r.id, .int .i64 r.nod, .int .i64 r.fuel, .int .i64 r.st, .int .i64 r.tg, .int .i64 r.run, .int .i64 r.til, .bool r.win]
theorem ei_gr : EInfo Try.prog 22 51 8 64 := EInfo.mk' Try.underlying22 (z := .agg #[.int .i64 0, .int .i64 0, .int .i64 0, .int .i64 0, .int .i64 0, .int .i64 0, .int .i64 0, .bool false]) (by kernel_rfl) rfl (by omega)
abbrev OwnGr (w : World) (base : Nat) (v : Value) (l : List Gr) : Prop := OwnT 51 Gr.cells 8 w base v l
abbrev GrV (w : World) (B : Nat) (v : Value) (l : List Gr) : Prop := StrV Gr.cells 8 w B v l
theorem one_gr (r : Gr) : ∀ u ∈ Gr.cells r, u.oneCell' = true := by
  intro u hu
  simp only [Gr.cells, List.mem_cons, List.not_mem_nil, or_false] at hu
  rcases hu with rfl | rfl | rfl | rfl | rfl | rfl | rfl | rfl <;> rfl
theorem one_grs (l : List Gr) : ∀ u ∈ (l.map Gr.cells).flatten, u.oneCell' = true := by
  intro u hu
  obtain ⟨x, hx, hu⟩ := List.mem_flatten.1 hu
  obtain ⟨r, _, rfl⟩ := List.mem_map.1 hx
  exact one_gr r u hu
theorem inG_of (id nod fuel st tg run til : Int) (win b : Bool) (h : b = inG ⟨id, nod, fuel, st, tg, run, til, win⟩) : b = decide (1 ≤ id ∧ id ≤ 9999 ∧ 1 ≤ nod ∧ nod ≤ 9999 ∧ 0 ≤ fuel ∧ fuel ≤ 1000000 ∧ 0 ≤ st ∧ st ≤ 2 ∧ 0 ≤ til ∧ til ≤ 20000000 ∧ 0 ≤ tg ∧ tg ≤ 9999 ∧ 0 ≤ run ∧ run ≤ 9999) := h
theorem enB_inj (x y : Bool) (h : Value.bool x = Value.bool y) : x = y := by injection h
theorem zero_bool (w : World) : (zeroValue 4).run Try.prog w = .ok (.bool false) w := by
  obtain ⟨i, hi, h0, _, _⟩ := info_parts (show (Try.prog.info? 4).map (fun i => (i.zero, i.size, i.bytes)) = some (some (.bool false), 1, 1) by kernel_rfl)
  simp [zeroValue, typeInfo, hi, h0]
end Go.Proofs.Ytegijfmdjaehjaa
