/-
  Do of the reference of chapter 56: the statement that builds the new sweep, in any order of its operations, state by state.
-/
import Derived.Test.YticoeibccdplaaaSwpU
namespace Go.Proofs.Yticoeibccdplaaa
open Go.RowKit

theorem lit_ne {w : World} {g n c : Nat} (h : g < w.heap.size) : some g ≠ (Value.slice (some ⟨w.heap.size, 0, none⟩) n c).ownBlock := by
  intro e
  simp only [Value.ownBlock, Option.some.injEq] at e
  omega
theorem new_ne {w : World} {base : Nat} {e : TypeId} {size n : Nat} {v : Value} {xs : List Value} (h : w.ownsRow base e size v n xs) : some w.heap.size ≠ v.ownBlock := by
  intro e
  have := (World.ownsRow.lt h _ e.symm).2
  omega
/-- what holds behind some of the operations -/
structure DoF (wb : World) (runs : List Int) (sw : List Sw) (run byy att fnd bg : Int) (b0 b3 b4 b7 b9 b10 b13 b14 : Bool) (v10 v17 v20 v21 v24 v26 v27 v30 : Value) (w : World) : Prop where
  below : Below wb.heap.size wb w
  f0 : b0 = true → b3 = false → w.ownsRow wb.heap.size 3 1 v17 0 []
  f3 : b3 = true → w.ownsRow wb.heap.size 3 1 v20 runs.length (runs.map (Value.int .i64))
  f4 : b4 = true → b7 = false → w.ownsRow wb.heap.size 39 4 v21 0 []
  f7 : b7 = true → b10 = false → w.ownsRow wb.heap.size 39 4 v24 sw.length (sw.map Sw.cells).flatten
  f9 : b9 = true → b10 = false → ∃ g, v26 = .slice (some ⟨g, 0, none⟩) 1 1 ∧ Blk w g 39 #[.int .i64 run, .int .i64 byy, .int .i64 att, .int .i64 fnd] ∧ (b4 = true → b7 = false → some g ≠ v21.ownBlock) ∧ (b7 = true → some g ≠ v24.ownBlock)
  f10 : b10 = true → w.ownsRow wb.heap.size 39 4 v27 (sw.length + 1) ((sw ++ [(⟨run, byy, att, fnd⟩ : Sw)]).map Sw.cells).flatten
  f13 : b13 = true → v30 = .agg #[v20, v27, .int .i64 bg]
  f14 : b14 = true → ∃ g, v10 = .pointer (some ⟨g, 0, none⟩) ∧ wb.heap.size ≤ g ∧ Blk w g 30 #[.slice none 0 0, .slice none 0 0, .int .i64 0]
theorem DoF.step {wb : World} {runs : List Int} {sw : List Sw} {run byy att fnd bg : Int} {b0 b3 b4 b7 b9 b10 b13 b14 : Bool} {v10 v17 v20 v21 v24 v26 v27 v30 : Value} {w w' : World} (h : DoF wb runs sw run byy att fnd bg b0 b3 b4 b7 b9 b10 b13 b14 v10 v17 v20 v21 v24 v26 v27 v30 w) (hb : Below w.heap.size w w') : DoF wb runs sw run byy att fnd bg b0 b3 b4 b7 b9 b10 b13 b14 v10 v17 v20 v21 v24 v26 v27 v30 w' :=
  ⟨h.below.trans (hb.mono h.below.size), fun x y => own_below (h.f0 x y) hb (Nat.le_refl _), fun x => own_below (h.f3 x) hb (Nat.le_refl _), fun x y => own_below (h.f4 x y) hb (Nat.le_refl _), fun x y => own_below (h.f7 x y) hb (Nat.le_refl _),
    fun x y => by obtain ⟨g, e, hB, h1, h2⟩ := h.f9 x y; exact ⟨g, e, hB.below hb hB.lt, h1, h2⟩, fun x => own_below (h.f10 x) hb (Nat.le_refl _), h.f13, fun x => by obtain ⟨g, e, h1, hB⟩ := h.f14 x; exact ⟨g, e, h1, hB.below hb hB.lt⟩⟩
/-- the act, by the slots that the statement writes -/
abbrev mkA (a : Act) : Value → Value → Value → Value → Value → Value → Value → Value → Act := fun v10 v17 v20 v21 v24 v26 v27 v30 => (((((((a.put (some 10) v10).put (some 17) v17).put (some 20) v20).put (some 21) v21).put (some 24) v24).put (some 26) v26).put (some 27) v27).put (some 30) v30
/-- what is asked of the region, and of what comes behind it -/
structure DoC (ops : Array Oper) (Q : Exit → Act → World → Prop) (S : World → Prop) (md : Region.Mode) (mk : Value → Value → Value → Value → Value → Value → Value → Value → Act) (wb : World) (runs : List Int) (sw : List Sw) (run byy att fnd bg : Int) (A1 : Option Addr) (c1 : Nat) (A : Option Addr) (c : Nat) : Prop where
  hlen : runs.length ≤ 1000
  hlen2 : sw.length ≤ 1000
  hr1 : Ints wb wb.heap.size A1 runs.length runs
  hr2 : Strs Sw.cells 4 wb wb.heap.size A sw.length sw
  hS : ∀ W, Below wb.heap.size wb W → S W
  hQ : ∀ (v : Value) c a w, Q (.panic c) (a.put (some 30) v) w → Q (.panic c) a w
  fin : ∀ v10 v17 v20 v21 v24 v26 v27 v30 w g A2 c2 A8 c8, v20 = .slice A2 runs.length c2 → v27 = .slice A8 (sw.length + 1) c8 → v10 = .pointer (some ⟨g, 0, none⟩) → Blk w g 30 #[v20, v27, .int .i64 bg] → w.ownsRow wb.heap.size 3 1 v20 runs.length (runs.map (Value.int .i64)) → w.ownsRow wb.heap.size 39 4 v27 (sw.length + 1) ((sw ++ [(⟨run, byy, att, fnd⟩ : Sw)]).map Sw.cells).flatten → wb.heap.size ≤ g → Below wb.heap.size wb w → Q .normal (mk v10 v17 v20 v21 v24 v26 v27 v30) w
  o0 : ∀ v10 v17 v20 v21 v24 v26 v27 v30, opFacts ops (mk v10 v17 v20 v21 v24 v26 v27 v30) 0 = some (some 17, .buildSlice 25 0 #[], true)
  o3 : ∀ v10 v17 v20 v21 v24 v26 v27 v30, opFacts ops (mk v10 v17 v20 v21 v24 v26 v27 v30) 3 = some (some 20, .call { callee := .builtin .append, args := #[.tmp 17, .tmp 19], argTypes := #[25, 25] }, true)
  o4 : ∀ v10 v17 v20 v21 v24 v26 v27 v30, opFacts ops (mk v10 v17 v20 v21 v24 v26 v27 v30) 4 = some (some 21, .buildSlice 28 0 #[], true)
  o7 : ∀ v10 v17 v20 v21 v24 v26 v27 v30, opFacts ops (mk v10 v17 v20 v21 v24 v26 v27 v30) 7 = some (some 24, .call { callee := .builtin .append, args := #[.tmp 21, .tmp 23], argTypes := #[28, 28] }, true)
  o9 : ∀ v10 v17 v20 v21 v24 v26 v27 v30, opFacts ops (mk v10 v17 v20 v21 v24 v26 v27 v30) 9 = some (some 26, .buildSlice 28 1 #[(0, .tmp 25)], true)
  o10 : ∀ v10 v17 v20 v21 v24 v26 v27 v30, opFacts ops (mk v10 v17 v20 v21 v24 v26 v27 v30) 10 = some (some 27, .call { callee := .builtin .append, args := #[.tmp 24, .tmp 26], argTypes := #[28, 28] }, true)
  o13 : ∀ v10 v17 v20 v21 v24 v26 v27 v30, opFacts ops (mk v10 v17 v20 v21 v24 v26 v27 v30) 13 = some (some 30, .build 30 #[(0, .tmp 20), (1, .tmp 27), (2, .tmp 29)], true)
  o14 : ∀ v10 v17 v20 v21 v24 v26 v27 v30, opFacts ops (mk v10 v17 v20 v21 v24 v26 v27 v30) 14 = some (some 10, .alloc 30, true)
  o15 : ∀ v10 v17 v20 v21 v24 v26 v27 v30, opFacts ops (mk v10 v17 v20 v21 v24 v26 v27 v30) 15 = some (none, .store 30 (.tmp 10) (.tmp 30), true)
  p10 : ∀ v10 v17 v20 v21 v24 v26 v27 v30 x, (mk v10 v17 v20 v21 v24 v26 v27 v30).put (some 10) x = mk x v17 v20 v21 v24 v26 v27 v30
  p17 : ∀ v10 v17 v20 v21 v24 v26 v27 v30 x, (mk v10 v17 v20 v21 v24 v26 v27 v30).put (some 17) x = mk v10 x v20 v21 v24 v26 v27 v30
  p20 : ∀ v10 v17 v20 v21 v24 v26 v27 v30 x, (mk v10 v17 v20 v21 v24 v26 v27 v30).put (some 20) x = mk v10 v17 x v21 v24 v26 v27 v30
  p21 : ∀ v10 v17 v20 v21 v24 v26 v27 v30 x, (mk v10 v17 v20 v21 v24 v26 v27 v30).put (some 21) x = mk v10 v17 v20 x v24 v26 v27 v30
  p24 : ∀ v10 v17 v20 v21 v24 v26 v27 v30 x, (mk v10 v17 v20 v21 v24 v26 v27 v30).put (some 24) x = mk v10 v17 v20 v21 x v26 v27 v30
  p26 : ∀ v10 v17 v20 v21 v24 v26 v27 v30 x, (mk v10 v17 v20 v21 v24 v26 v27 v30).put (some 26) x = mk v10 v17 v20 v21 v24 x v27 v30
  p27 : ∀ v10 v17 v20 v21 v24 v26 v27 v30 x, (mk v10 v17 v20 v21 v24 v26 v27 v30).put (some 27) x = mk v10 v17 v20 v21 v24 v26 x v30
  p30 : ∀ v10 v17 v20 v21 v24 v26 v27 v30 x, (mk v10 v17 v20 v21 v24 v26 v27 v30).put (some 30) x = mk v10 v17 v20 v21 v24 v26 v27 x
  e10 : ∀ v10 v17 v20 v21 v24 v26 v27 v30, (mk v10 v17 v20 v21 v24 v26 v27 v30).eval (.tmp 10) = v10
  e17 : ∀ v10 v17 v20 v21 v24 v26 v27 v30, (mk v10 v17 v20 v21 v24 v26 v27 v30).eval (.tmp 17) = v17
  e20 : ∀ v10 v17 v20 v21 v24 v26 v27 v30, (mk v10 v17 v20 v21 v24 v26 v27 v30).eval (.tmp 20) = v20
  e21 : ∀ v10 v17 v20 v21 v24 v26 v27 v30, (mk v10 v17 v20 v21 v24 v26 v27 v30).eval (.tmp 21) = v21
  e24 : ∀ v10 v17 v20 v21 v24 v26 v27 v30, (mk v10 v17 v20 v21 v24 v26 v27 v30).eval (.tmp 24) = v24
  e26 : ∀ v10 v17 v20 v21 v24 v26 v27 v30, (mk v10 v17 v20 v21 v24 v26 v27 v30).eval (.tmp 26) = v26
  e27 : ∀ v10 v17 v20 v21 v24 v26 v27 v30, (mk v10 v17 v20 v21 v24 v26 v27 v30).eval (.tmp 27) = v27
  e30 : ∀ v10 v17 v20 v21 v24 v26 v27 v30, (mk v10 v17 v20 v21 v24 v26 v27 v30).eval (.tmp 30) = v30
  e19 : ∀ v10 v17 v20 v21 v24 v26 v27 v30, (mk v10 v17 v20 v21 v24 v26 v27 v30).eval (.tmp 19) = .slice A1 runs.length c1
  e23 : ∀ v10 v17 v20 v21 v24 v26 v27 v30, (mk v10 v17 v20 v21 v24 v26 v27 v30).eval (.tmp 23) = .slice A sw.length c
  e25 : ∀ v10 v17 v20 v21 v24 v26 v27 v30, (mk v10 v17 v20 v21 v24 v26 v27 v30).eval (.tmp 25) = .agg #[.int .i64 run, .int .i64 byy, .int .i64 att, .int .i64 fnd]
  e29 : ∀ v10 v17 v20 v21 v24 v26 v27 v30, (mk v10 v17 v20 v21 v24 v26 v27 v30).eval (.tmp 29) = .int .i64 bg
  r0_3_4_7_9_10_13_14_15 : Region.ready md ops #[true, true, true, true, true, true, true, true, true, true, true, true, true, true, true, true] = []
  r0_3_4_7_9_10_13_14 : Region.ready md ops #[true, true, true, true, true, true, true, true, true, true, true, true, true, true, true, false] = [15]
  r0_3_4_7_9_10_13 : Region.ready md ops #[true, true, true, true, true, true, true, true, true, true, true, true, true, true, false, false] = [14]
  r0_3_4_7_9_10_14 : (Region.ready md ops #[true, true, true, true, true, true, true, true, true, true, true, true, true, false, true, false]).contains 13 = true
  q0_3_4_7_9_10_14 : Region.free md ops #[true, true, true, true, true, true, true, true, true, true, true, true, true, false, true, false] 13 = true
  r0_3_4_7_9_10 : (Region.ready md ops #[true, true, true, true, true, true, true, true, true, true, true, true, true, false, false, false]).contains 13 = true
  q0_3_4_7_9_10 : Region.free md ops #[true, true, true, true, true, true, true, true, true, true, true, true, true, false, false, false] 13 = true
  r0_3_4_7_9_14 : Region.ready md ops #[true, true, true, true, true, true, true, true, true, true, false, true, true, false, true, false] = [10]
  r0_3_4_7_9 : Region.ready md ops #[true, true, true, true, true, true, true, true, true, true, false, true, true, false, false, false] = [10, 14]
  r0_3_4_7_14 : Region.ready md ops #[true, true, true, true, true, true, true, true, true, false, false, true, true, false, true, false] = [9]
  r0_3_4_9_14 : Region.ready md ops #[true, true, true, true, true, true, true, false, true, true, false, true, true, false, true, false] = [7]
  r0_3_4_7 : Region.ready md ops #[true, true, true, true, true, true, true, true, true, false, false, true, true, false, false, false] = [9, 14]
  r0_3_4_9 : Region.ready md ops #[true, true, true, true, true, true, true, false, true, true, false, true, true, false, false, false] = [7, 14]
  r0_3_4_14 : Region.ready md ops #[true, true, true, true, true, true, true, false, true, false, false, true, true, false, true, false] = [7, 9]
  r0_3_9_14 : Region.ready md ops #[true, true, true, true, false, true, true, false, true, true, false, true, true, false, true, false] = [4]
  r0_4_9_14 : Region.ready md ops #[true, true, true, false, true, true, true, false, true, true, false, true, true, false, true, false] = [3]
  r0_3_4 : Region.ready md ops #[true, true, true, true, true, true, true, false, true, false, false, true, true, false, false, false] = [7, 9, 14]
  r0_3_9 : Region.ready md ops #[true, true, true, true, false, true, true, false, true, true, false, true, true, false, false, false] = [4, 14]
  r0_3_14 : Region.ready md ops #[true, true, true, true, false, true, true, false, true, false, false, true, true, false, true, false] = [4, 9]
  r0_4_9 : Region.ready md ops #[true, true, true, false, true, true, true, false, true, true, false, true, true, false, false, false] = [3, 14]
  r0_4_14 : Region.ready md ops #[true, true, true, false, true, true, true, false, true, false, false, true, true, false, true, false] = [3, 9]
  r0_9_14 : Region.ready md ops #[true, true, true, false, false, true, true, false, true, true, false, true, true, false, true, false] = [3, 4]
  r4_9_14 : Region.ready md ops #[false, true, true, false, true, true, true, false, true, true, false, true, true, false, true, false] = [0]
  r0_3 : Region.ready md ops #[true, true, true, true, false, true, true, false, true, false, false, true, true, false, false, false] = [4, 9, 14]
  r0_4 : Region.ready md ops #[true, true, true, false, true, true, true, false, true, false, false, true, true, false, false, false] = [3, 9, 14]
  r0_9 : Region.ready md ops #[true, true, true, false, false, true, true, false, true, true, false, true, true, false, false, false] = [3, 4, 14]
  r0_14 : Region.ready md ops #[true, true, true, false, false, true, true, false, true, false, false, true, true, false, true, false] = [3, 4, 9]
  r4_9 : Region.ready md ops #[false, true, true, false, true, true, true, false, true, true, false, true, true, false, false, false] = [0, 14]
  r4_14 : Region.ready md ops #[false, true, true, false, true, true, true, false, true, false, false, true, true, false, true, false] = [0, 9]
  r9_14 : Region.ready md ops #[false, true, true, false, false, true, true, false, true, true, false, true, true, false, true, false] = [0, 4]
  r0 : Region.ready md ops #[true, true, true, false, false, true, true, false, true, false, false, true, true, false, false, false] = [3, 4, 9, 14]
  r4 : Region.ready md ops #[false, true, true, false, true, true, true, false, true, false, false, true, true, false, false, false] = [0, 9, 14]
  r9 : Region.ready md ops #[false, true, true, false, false, true, true, false, true, true, false, true, true, false, false, false] = [0, 4, 14]
  r14 : Region.ready md ops #[false, true, true, false, false, true, true, false, true, false, false, true, true, false, true, false] = [0, 4, 9]
  rn : Region.ready md ops #[false, true, true, false, false, true, true, false, true, false, false, true, true, false, false, false] = [0, 4, 9, 14]
  ns : Region.noSelect ops = true
section
variable {ops : Array Oper} {Q : Exit → Act → World → Prop} {S : World → Prop} {md : Region.Mode} {mk : Value → Value → Value → Value → Value → Value → Value → Value → Act} {wb w : World} {runs : List Int} {sw : List Sw} {run byy att fnd bg : Int} {A1 A : Option Addr} {c1 c : Nat} {b0 b3 b4 b7 b9 b10 b13 b14 : Bool} {v10 v17 v20 v21 v24 v26 v27 v30 : Value} {K : Act → World → Prop}
theorem do0 (C : DoC ops Q S md mk wb runs sw run byy att fnd bg A1 c1 A c) (h : DoF wb runs sw run byy att fnd bg b0 b3 b4 b7 b9 b10 b13 b14 v10 v17 v20 v21 v24 v26 v27 v30 w) (hK : ∀ x w', DoF wb runs sw run byy att fnd bg true b3 b4 b7 b9 b10 b13 b14 v10 x v20 v21 v24 v26 v27 v30 w' → K (mk v10 x v20 v21 v24 v26 v27 v30) w') : wpOp Try.prog ops Q 0 K (mk v10 v17 v20 v21 v24 v26 v27 v30) w := by
  refine op_lit0 0 (some 17) 25 3 (C.o0 v10 v17 v20 v21 v24 v26 v27 v30) Try.underlying25 (by kernel_rfl) ?_
  intro wq hw hb
  rw [C.p17]
  have hsz := h.below.size
  exact hK _ _ { h.step hb with f0 := fun _ _ => by rw [hw]; exact World.ownsRow_lit _ #[] 0 hsz (by simp [maxLen]) rfl }
theorem do4 (C : DoC ops Q S md mk wb runs sw run byy att fnd bg A1 c1 A c) (h : DoF wb runs sw run byy att fnd bg b0 b3 b4 b7 b9 b10 b13 b14 v10 v17 v20 v21 v24 v26 v27 v30 w) (hK : ∀ x w', DoF wb runs sw run byy att fnd bg b0 b3 true b7 b9 b10 b13 b14 v10 v17 v20 x v24 v26 v27 v30 w' → K (mk v10 v17 v20 x v24 v26 v27 v30) w') : wpOp Try.prog ops Q 4 K (mk v10 v17 v20 v21 v24 v26 v27 v30) w := by
  refine op_lit0 4 (some 21) 28 39 (C.o4 v10 v17 v20 v21 v24 v26 v27 v30) Try.underlying28 (by kernel_rfl) ?_
  intro wq hw hb
  rw [C.p21]
  have hsz := h.below.size
  exact hK _ _ { h.step hb with
    f4 := fun _ _ => by rw [hw]; exact World.ownsRow_lit _ #[] 0 hsz (by simp [maxLen]) rfl
    f9 := fun x y => by obtain ⟨g, e, hB, _, h2⟩ := h.f9 x y; exact ⟨g, e, hB.below hb hB.lt, fun _ _ => lit_ne hB.lt, h2⟩ }
theorem do9 (C : DoC ops Q S md mk wb runs sw run byy att fnd bg A1 c1 A c) (h : DoF wb runs sw run byy att fnd bg b0 b3 b4 b7 b9 b10 b13 b14 v10 v17 v20 v21 v24 v26 v27 v30 w) (hK : ∀ x w', DoF wb runs sw run byy att fnd bg b0 b3 b4 b7 true b10 b13 b14 v10 v17 v20 v21 v24 x v27 v30 w' → K (mk v10 v17 v20 v21 v24 x v27 v30) w') : wpOp Try.prog ops Q 9 K (mk v10 v17 v20 v21 v24 v26 v27 v30) w := by
  refine op_lit1 9 (some 26) 28 39 (.tmp 25) _ _ _ _ (C.o9 v10 v17 v20 v21 v24 v26 v27 v30) (C.e25 v10 v17 v20 v21 v24 v26 v27 v30) Try.underlying28 (by kernel_rfl) ?_
  intro wq hx hb
  rw [C.p26]
  exact hK _ _ { h.step hb with f9 := fun _ y => ⟨_, rfl, hx, fun p q => new_ne (h.f4 p q), fun p => new_ne (h.f7 p y)⟩ }
theorem do14 (C : DoC ops Q S md mk wb runs sw run byy att fnd bg A1 c1 A c) (h : DoF wb runs sw run byy att fnd bg b0 b3 b4 b7 b9 b10 b13 b14 v10 v17 v20 v21 v24 v26 v27 v30 w) (hK : ∀ x w', DoF wb runs sw run byy att fnd bg b0 b3 b4 b7 b9 b10 b13 true x v17 v20 v21 v24 v26 v27 v30 w' → K (mk x v17 v20 v21 v24 v26 v27 v30) w') : wpOp Try.prog ops Q 14 K (mk v10 v17 v20 v21 v24 v26 v27 v30) w := by
  refine op_alloc 14 (some 10) 30 #[.slice none 0 0, .slice none 0 0, .int .i64 0] (C.o14 v10 v17 v20 v21 v24 v26 v27 v30) (by kernel_rfl) ?_
  intro wq hx hb
  rw [C.p10]
  exact hK _ _ { h.step hb with f14 := fun _ => ⟨_, rfl, h.below.size, hx⟩ }
theorem do3 (C : DoC ops Q S md mk wb runs sw run byy att fnd bg A1 c1 A c) (hb13 : b13 = false) (h : DoF wb runs sw run byy att fnd bg true false b4 b7 b9 b10 b13 b14 v10 v17 v20 v21 v24 v26 v27 v30 w) (hK : ∀ x w', DoF wb runs sw run byy att fnd bg true true b4 b7 b9 b10 b13 b14 v10 v17 x v21 v24 v26 v27 v30 w' → K (mk v10 v17 x v21 v24 v26 v27 v30) w') : wpOp Try.prog ops Q 3 K (mk v10 v17 v20 v21 v24 v26 v27 v30) w := by
  have me := h.f0 rfl rfl
  have hl := C.hlen
  refine op_app ei_ints 3 (some 20) (.tmp 17) (.tmp 19) (C.o3 v10 v17 v20 v21 v24 v26 v27 v30) wb.heap.size _ 0 [] (C.e17 v10 v17 v20 v21 v24 v26 v27 v30) me wb.heap.size A1 _ c1 (runs.map (Value.int .i64)) (C.e19 v10 v17 v20 v21 v24 v26 v27 v30) (C.hr1.below h.below) (oneCell_ints runs) (by simp only [maxLen]; omega) (by omega) h.below.size ?_
  intro v wq ho hg hb _
  rw [C.p20]
  have h13 : b13 = true → v30 = .agg #[v, v27, .int .i64 bg] := fun x => by rw [hb13] at x; cases x
  simp only [Nat.zero_add, List.nil_append] at ho
  exact hK _ _ ⟨h.below.trans hb, fun _ x => Bool.noConfusion x, fun _ => ho, fun x y => (h.f4 x y).kept hg (own_ne (h.f4 x y) me (by decide)), fun x y => (h.f7 x y).kept hg (own_ne (h.f7 x y) me (by decide)),
    fun x y => by obtain ⟨g, e, hB, h1, h2⟩ := h.f9 x y; exact ⟨g, e, hB.grown hg (own_blk_ne me hB (by decide)), h1, h2⟩, fun x => (h.f10 x).kept hg (own_ne (h.f10 x) me (by decide)), h13, fun x => by obtain ⟨g, e, h1, hB⟩ := h.f14 x; exact ⟨g, e, h1, hB.grown hg (own_blk_ne me hB (by decide))⟩⟩
theorem do7 (C : DoC ops Q S md mk wb runs sw run byy att fnd bg A1 c1 A c) (h : DoF wb runs sw run byy att fnd bg b0 b3 true false b9 false b13 b14 v10 v17 v20 v21 v24 v26 v27 v30 w) (hK : ∀ x w', DoF wb runs sw run byy att fnd bg b0 b3 true true b9 false b13 b14 v10 v17 v20 v21 x v26 v27 v30 w' → K (mk v10 v17 v20 v21 x v26 v27 v30) w') : wpOp Try.prog ops Q 7 K (mk v10 v17 v20 v21 v24 v26 v27 v30) w := by
  have me := h.f4 rfl rfl
  have hl := C.hlen2
  refine op_app ei_sw 7 (some 24) (.tmp 21) (.tmp 23) (C.o7 v10 v17 v20 v21 v24 v26 v27 v30) wb.heap.size _ 0 [] (C.e21 v10 v17 v20 v21 v24 v26 v27 v30) me wb.heap.size A _ c (sw.map Sw.cells).flatten (C.e23 v10 v17 v20 v21 v24 v26 v27 v30) (C.hr2.below h.below) (strs_one sw) (by simp only [maxLen]; omega) (by omega) h.below.size ?_
  intro v wq ho hg hb hat
  rw [C.p24]
  simp only [Nat.zero_add, List.nil_append] at ho
  exact hK _ _ ⟨h.below.trans hb, fun x y => (h.f0 x y).kept hg (own_ne (h.f0 x y) me (by decide)), fun x => (h.f3 x).kept hg (own_ne (h.f3 x) me (by decide)), fun _ x => Bool.noConfusion x, fun _ _ => ho,
    fun x y => by
      obtain ⟨g, e, hB, h1, _⟩ := h.f9 x y
      have h3 := h1 rfl rfl
      refine ⟨g, e, hB.grown hg h3, fun _ x => Bool.noConfusion x, fun _ => ?_⟩
      rcases hat with e2 | e2
      · rw [e2]; exact h3
      · rw [e2]; intro e3; injection e3 with e3; have := hB.lt; omega,
    fun x => Bool.noConfusion x, h.f13, fun x => by obtain ⟨g, e, h1, hB⟩ := h.f14 x; exact ⟨g, e, h1, hB.grown hg (own_blk_ne me hB (by decide))⟩⟩
theorem do10 (C : DoC ops Q S md mk wb runs sw run byy att fnd bg A1 c1 A c) (h : DoF wb runs sw run byy att fnd bg b0 b3 b4 true true false false b14 v10 v17 v20 v21 v24 v26 v27 v30 w) (hK : ∀ x w', DoF wb runs sw run byy att fnd bg b0 b3 b4 true true true false b14 v10 v17 v20 v21 v24 v26 x v30 w' → K (mk v10 v17 v20 v21 v24 v26 x v30) w') : wpOp Try.prog ops Q 10 K (mk v10 v17 v20 v21 v24 v26 v27 v30) w := by
  have me := h.f7 rfl rfl
  have hl := C.hlen2
  obtain ⟨g9, e9, hB9, _, hn9⟩ := h.f9 rfl rfl
  refine op_app ei_sw 10 (some 27) (.tmp 24) (.tmp 26) (C.o10 v10 v17 v20 v21 v24 v26 v27 v30) wb.heap.size _ sw.length (sw.map Sw.cells).flatten (C.e24 v10 v17 v20 v21 v24 v26 v27 v30) me _ _ 1 1 [.int .i64 run, .int .i64 byy, .int .i64 att, .int .i64 fnd] ((C.e26 v10 v17 v20 v21 v24 v26 v27 v30).trans e9) (reads_blk hB9 (n := 1) (s := 4) rfl) (by simp [Value.oneCell']) (by simp only [maxLen]; omega) (by omega) h.below.size ?_
  intro v wq ho hg hb _
  rw [C.p27]
  have h10 : wq.ownsRow wb.heap.size 39 4 v (sw.length + 1) ((sw ++ [(⟨run, byy, att, fnd⟩ : Sw)]).map Sw.cells).flatten := by rw [List.map_append, List.flatten_append]; simpa [Sw.cells] using ho
  exact hK _ _ ⟨h.below.trans hb, fun x y => (h.f0 x y).kept hg (own_ne (h.f0 x y) me (by decide)), fun x => (h.f3 x).kept hg (own_ne (h.f3 x) me (by decide)), fun _ x => Bool.noConfusion x, fun _ x => Bool.noConfusion x,
    fun _ x => Bool.noConfusion x, fun _ => h10, fun x => Bool.noConfusion x, fun x => by obtain ⟨g, e, h1, hB⟩ := h.f14 x; exact ⟨g, e, h1, hB.grown hg (own_blk_ne me hB (by decide))⟩⟩
theorem st0_3_4_7_9_10_13_14 (C : DoC ops Q S md mk wb runs sw run byy att fnd bg A1 c1 A c) (h : DoF wb runs sw run byy att fnd bg true true true true true true true true v10 v17 v20 v21 v24 v26 v27 v30 w) : wpAnyH Try.prog md ops Q S 1 #[true, true, true, true, true, true, true, true, true, true, true, true, true, true, true, false] (mk v10 v17 v20 v21 v24 v26 v27 v30) w := by
  have h3 := h.f3 rfl
  have h10 := h.f10 rfl
  obtain ⟨g, e14, hg, hB⟩ := h.f14 rfl
  have e13 := h.f13 rfl
  have hzg := h.below.size
  have o1 := own_one h3
  have o2 := own_one h10
  refine held_one 15 C.r0_3_4_7_9_10_13_14 ?_
  refine op_store_blk 15 30 (.tmp 10) (.tmp 30) (C.o15 v10 v17 v20 v21 v24 v26 v27 v30) g #[v20, v27, .int .i64 bg] ((C.e10 v10 v17 v20 v21 v24 v26 v27 v30).trans e14) ((C.e30 v10 v17 v20 v21 v24 v26 v27 v30).trans e13) _ _ hB (by kernel_rfl) rfl (by simp [o1, o2, show ∀ (x : Int), (Value.int .i64 x).oneCell' = true from fun _ => rfl]) ?_
  intro wq hx hon
  have h3' := hon.own h3 (fun e => (own_blk_ne h3 hB (by decide)) e.symm)
  have h10' := hon.own h10 (fun e => (own_blk_ne h10 hB (by decide)) e.symm)
  have hb := hon.below h.below hg
  obtain ⟨A2, c2, e1, _⟩ := own_open h3
  obtain ⟨A8, c8, e2, _⟩ := own_open h10
  refine ⟨C.hS _ hb, wpAnyH_done (listed := #[true, true, true, true, true, true, true, true, true, true, true, true, true, true, true, true]) C.r0_3_4_7_9_10_13_14_15 ?_ _⟩
  exact C.fin _ _ _ _ _ _ _ _ _ _ _ _ _ _ e1 e2 e14 hx h3' h10' hg hb
theorem st0_3_4_7_9_10_13 (C : DoC ops Q S md mk wb runs sw run byy att fnd bg A1 c1 A c) (h : DoF wb runs sw run byy att fnd bg true true true true true true true false v10 v17 v20 v21 v24 v26 v27 v30 w) : wpAnyH Try.prog md ops Q S 2 #[true, true, true, true, true, true, true, true, true, true, true, true, true, true, false, false] (mk v10 v17 v20 v21 v24 v26 v27 v30) w := by
  refine held_one 14 C.r0_3_4_7_9_10_13 ?_
  · exact do14 C h fun _ _ h' => ⟨C.hS _ h'.below, st0_3_4_7_9_10_13_14 C h'⟩
theorem st0_3_4_7_9_10_14 (C : DoC ops Q S md mk wb runs sw run byy att fnd bg A1 c1 A c) (h : DoF wb runs sw run byy att fnd bg true true true true true true false true v10 v17 v20 v21 v24 v26 v27 v30 w) : wpAnyH Try.prog md ops Q S 2 #[true, true, true, true, true, true, true, true, true, true, true, true, true, false, true, false] (mk v10 v17 v20 v21 v24 v26 v27 v30) w := by
  have h3 := h.f3 rfl
  have h10 := h.f10 rfl
  obtain ⟨A2, c2, rfl, _⟩ := own_open h3
  obtain ⟨A8, c8, rfl, _⟩ := own_open h10
  refine held_build 13 (some 30) 30 #[(0, .tmp 20), (1, .tmp 27), (2, .tmp 29)] [(0, .slice A2 runs.length c2), (1, .slice A8 (sw.length + 1) c8), (2, .int .i64 bg)] #[.slice A2 runs.length c2, .slice A8 (sw.length + 1) c8, .int .i64 bg] (C.o13 v10 v17 (.slice A2 runs.length c2) v21 v24 v26 (.slice A8 (sw.length + 1) c8) v30) C.ns C.q0_3_4_7_9_10_14 C.r0_3_4_7_9_10_14 (C.hQ _) (by simp [C.e20, C.e27, C.e29]) (by kernel_rfl) (C.hS _ h.below) ?_
  rw [C.p30]
  exact st0_3_4_7_9_10_13_14 C { h with f13 := fun _ => rfl }
theorem st0_3_4_7_9_10 (C : DoC ops Q S md mk wb runs sw run byy att fnd bg A1 c1 A c) (h : DoF wb runs sw run byy att fnd bg true true true true true true false false v10 v17 v20 v21 v24 v26 v27 v30 w) : wpAnyH Try.prog md ops Q S 3 #[true, true, true, true, true, true, true, true, true, true, true, true, true, false, false, false] (mk v10 v17 v20 v21 v24 v26 v27 v30) w := by
  have h3 := h.f3 rfl
  have h10 := h.f10 rfl
  obtain ⟨A2, c2, rfl, _⟩ := own_open h3
  obtain ⟨A8, c8, rfl, _⟩ := own_open h10
  refine held_build 13 (some 30) 30 #[(0, .tmp 20), (1, .tmp 27), (2, .tmp 29)] [(0, .slice A2 runs.length c2), (1, .slice A8 (sw.length + 1) c8), (2, .int .i64 bg)] #[.slice A2 runs.length c2, .slice A8 (sw.length + 1) c8, .int .i64 bg] (C.o13 v10 v17 (.slice A2 runs.length c2) v21 v24 v26 (.slice A8 (sw.length + 1) c8) v30) C.ns C.q0_3_4_7_9_10 C.r0_3_4_7_9_10 (C.hQ _) (by simp [C.e20, C.e27, C.e29]) (by kernel_rfl) (C.hS _ h.below) ?_
  rw [C.p30]
  exact st0_3_4_7_9_10_13 C { h with f13 := fun _ => rfl }
theorem st0_3_4_7_9_14 (C : DoC ops Q S md mk wb runs sw run byy att fnd bg A1 c1 A c) (h : DoF wb runs sw run byy att fnd bg true true true true true false false true v10 v17 v20 v21 v24 v26 v27 v30 w) : wpAnyH Try.prog md ops Q S 3 #[true, true, true, true, true, true, true, true, true, true, false, true, true, false, true, false] (mk v10 v17 v20 v21 v24 v26 v27 v30) w := by
  refine held_one 10 C.r0_3_4_7_9_14 ?_
  · exact do10 C h fun _ _ h' => ⟨C.hS _ h'.below, st0_3_4_7_9_10_14 C h'⟩
theorem st0_3_4_7_9 (C : DoC ops Q S md mk wb runs sw run byy att fnd bg A1 c1 A c) (h : DoF wb runs sw run byy att fnd bg true true true true true false false false v10 v17 v20 v21 v24 v26 v27 v30 w) : wpAnyH Try.prog md ops Q S 4 #[true, true, true, true, true, true, true, true, true, true, false, true, true, false, false, false] (mk v10 v17 v20 v21 v24 v26 v27 v30) w := by
  refine held_two 10 14 C.r0_3_4_7_9 ?_ ?_
  · exact do10 C h fun _ _ h' => ⟨C.hS _ h'.below, st0_3_4_7_9_10 C h'⟩
  · exact do14 C h fun _ _ h' => ⟨C.hS _ h'.below, st0_3_4_7_9_14 C h'⟩
theorem st0_3_4_7_14 (C : DoC ops Q S md mk wb runs sw run byy att fnd bg A1 c1 A c) (h : DoF wb runs sw run byy att fnd bg true true true true false false false true v10 v17 v20 v21 v24 v26 v27 v30 w) : wpAnyH Try.prog md ops Q S 4 #[true, true, true, true, true, true, true, true, true, false, false, true, true, false, true, false] (mk v10 v17 v20 v21 v24 v26 v27 v30) w := by
  refine held_one 9 C.r0_3_4_7_14 ?_
  · exact do9 C h fun _ _ h' => ⟨C.hS _ h'.below, st0_3_4_7_9_14 C h'⟩
theorem st0_3_4_9_14 (C : DoC ops Q S md mk wb runs sw run byy att fnd bg A1 c1 A c) (h : DoF wb runs sw run byy att fnd bg true true true false true false false true v10 v17 v20 v21 v24 v26 v27 v30 w) : wpAnyH Try.prog md ops Q S 4 #[true, true, true, true, true, true, true, false, true, true, false, true, true, false, true, false] (mk v10 v17 v20 v21 v24 v26 v27 v30) w := by
  refine held_one 7 C.r0_3_4_9_14 ?_
  · exact do7 C h fun _ _ h' => ⟨C.hS _ h'.below, st0_3_4_7_9_14 C h'⟩
theorem st0_3_4_7 (C : DoC ops Q S md mk wb runs sw run byy att fnd bg A1 c1 A c) (h : DoF wb runs sw run byy att fnd bg true true true true false false false false v10 v17 v20 v21 v24 v26 v27 v30 w) : wpAnyH Try.prog md ops Q S 5 #[true, true, true, true, true, true, true, true, true, false, false, true, true, false, false, false] (mk v10 v17 v20 v21 v24 v26 v27 v30) w := by
  refine held_two 9 14 C.r0_3_4_7 ?_ ?_
  · exact do9 C h fun _ _ h' => ⟨C.hS _ h'.below, st0_3_4_7_9 C h'⟩
  · exact do14 C h fun _ _ h' => ⟨C.hS _ h'.below, st0_3_4_7_14 C h'⟩
theorem st0_3_4_9 (C : DoC ops Q S md mk wb runs sw run byy att fnd bg A1 c1 A c) (h : DoF wb runs sw run byy att fnd bg true true true false true false false false v10 v17 v20 v21 v24 v26 v27 v30 w) : wpAnyH Try.prog md ops Q S 5 #[true, true, true, true, true, true, true, false, true, true, false, true, true, false, false, false] (mk v10 v17 v20 v21 v24 v26 v27 v30) w := by
  refine held_two 7 14 C.r0_3_4_9 ?_ ?_
  · exact do7 C h fun _ _ h' => ⟨C.hS _ h'.below, st0_3_4_7_9 C h'⟩
  · exact do14 C h fun _ _ h' => ⟨C.hS _ h'.below, st0_3_4_9_14 C h'⟩
theorem st0_3_4_14 (C : DoC ops Q S md mk wb runs sw run byy att fnd bg A1 c1 A c) (h : DoF wb runs sw run byy att fnd bg true true true false false false false true v10 v17 v20 v21 v24 v26 v27 v30 w) : wpAnyH Try.prog md ops Q S 5 #[true, true, true, true, true, true, true, false, true, false, false, true, true, false, true, false] (mk v10 v17 v20 v21 v24 v26 v27 v30) w := by
  refine held_two 7 9 C.r0_3_4_14 ?_ ?_
  · exact do7 C h fun _ _ h' => ⟨C.hS _ h'.below, st0_3_4_7_14 C h'⟩
  · exact do9 C h fun _ _ h' => ⟨C.hS _ h'.below, st0_3_4_9_14 C h'⟩
theorem st0_3_9_14 (C : DoC ops Q S md mk wb runs sw run byy att fnd bg A1 c1 A c) (h : DoF wb runs sw run byy att fnd bg true true false false true false false true v10 v17 v20 v21 v24 v26 v27 v30 w) : wpAnyH Try.prog md ops Q S 5 #[true, true, true, true, false, true, true, false, true, true, false, true, true, false, true, false] (mk v10 v17 v20 v21 v24 v26 v27 v30) w := by
  refine held_one 4 C.r0_3_9_14 ?_
  · exact do4 C h fun _ _ h' => ⟨C.hS _ h'.below, st0_3_4_9_14 C h'⟩
theorem st0_4_9_14 (C : DoC ops Q S md mk wb runs sw run byy att fnd bg A1 c1 A c) (h : DoF wb runs sw run byy att fnd bg true false true false true false false true v10 v17 v20 v21 v24 v26 v27 v30 w) : wpAnyH Try.prog md ops Q S 5 #[true, true, true, false, true, true, true, false, true, true, false, true, true, false, true, false] (mk v10 v17 v20 v21 v24 v26 v27 v30) w := by
  refine held_one 3 C.r0_4_9_14 ?_
  · exact do3 C rfl h fun _ _ h' => ⟨C.hS _ h'.below, st0_3_4_9_14 C h'⟩
theorem st0_3_4 (C : DoC ops Q S md mk wb runs sw run byy att fnd bg A1 c1 A c) (h : DoF wb runs sw run byy att fnd bg true true true false false false false false v10 v17 v20 v21 v24 v26 v27 v30 w) : wpAnyH Try.prog md ops Q S 6 #[true, true, true, true, true, true, true, false, true, false, false, true, true, false, false, false] (mk v10 v17 v20 v21 v24 v26 v27 v30) w := by
  refine held_three 7 9 14 C.r0_3_4 ?_ ?_ ?_
  · exact do7 C h fun _ _ h' => ⟨C.hS _ h'.below, st0_3_4_7 C h'⟩
  · exact do9 C h fun _ _ h' => ⟨C.hS _ h'.below, st0_3_4_9 C h'⟩
  · exact do14 C h fun _ _ h' => ⟨C.hS _ h'.below, st0_3_4_14 C h'⟩
theorem st0_3_9 (C : DoC ops Q S md mk wb runs sw run byy att fnd bg A1 c1 A c) (h : DoF wb runs sw run byy att fnd bg true true false false true false false false v10 v17 v20 v21 v24 v26 v27 v30 w) : wpAnyH Try.prog md ops Q S 6 #[true, true, true, true, false, true, true, false, true, true, false, true, true, false, false, false] (mk v10 v17 v20 v21 v24 v26 v27 v30) w := by
  refine held_two 4 14 C.r0_3_9 ?_ ?_
  · exact do4 C h fun _ _ h' => ⟨C.hS _ h'.below, st0_3_4_9 C h'⟩
  · exact do14 C h fun _ _ h' => ⟨C.hS _ h'.below, st0_3_9_14 C h'⟩
theorem st0_3_14 (C : DoC ops Q S md mk wb runs sw run byy att fnd bg A1 c1 A c) (h : DoF wb runs sw run byy att fnd bg true true false false false false false true v10 v17 v20 v21 v24 v26 v27 v30 w) : wpAnyH Try.prog md ops Q S 6 #[true, true, true, true, false, true, true, false, true, false, false, true, true, false, true, false] (mk v10 v17 v20 v21 v24 v26 v27 v30) w := by
  refine held_two 4 9 C.r0_3_14 ?_ ?_
  · exact do4 C h fun _ _ h' => ⟨C.hS _ h'.below, st0_3_4_14 C h'⟩
  · exact do9 C h fun _ _ h' => ⟨C.hS _ h'.below, st0_3_9_14 C h'⟩
theorem st0_4_9 (C : DoC ops Q S md mk wb runs sw run byy att fnd bg A1 c1 A c) (h : DoF wb runs sw run byy att fnd bg true false true false true false false false v10 v17 v20 v21 v24 v26 v27 v30 w) : wpAnyH Try.prog md ops Q S 6 #[true, true, true, false, true, true, true, false, true, true, false, true, true, false, false, false] (mk v10 v17 v20 v21 v24 v26 v27 v30) w := by
  refine held_two 3 14 C.r0_4_9 ?_ ?_
  · exact do3 C rfl h fun _ _ h' => ⟨C.hS _ h'.below, st0_3_4_9 C h'⟩
  · exact do14 C h fun _ _ h' => ⟨C.hS _ h'.below, st0_4_9_14 C h'⟩
theorem st0_4_14 (C : DoC ops Q S md mk wb runs sw run byy att fnd bg A1 c1 A c) (h : DoF wb runs sw run byy att fnd bg true false true false false false false true v10 v17 v20 v21 v24 v26 v27 v30 w) : wpAnyH Try.prog md ops Q S 6 #[true, true, true, false, true, true, true, false, true, false, false, true, true, false, true, false] (mk v10 v17 v20 v21 v24 v26 v27 v30) w := by
  refine held_two 3 9 C.r0_4_14 ?_ ?_
  · exact do3 C rfl h fun _ _ h' => ⟨C.hS _ h'.below, st0_3_4_14 C h'⟩
  · exact do9 C h fun _ _ h' => ⟨C.hS _ h'.below, st0_4_9_14 C h'⟩
theorem st0_9_14 (C : DoC ops Q S md mk wb runs sw run byy att fnd bg A1 c1 A c) (h : DoF wb runs sw run byy att fnd bg true false false false true false false true v10 v17 v20 v21 v24 v26 v27 v30 w) : wpAnyH Try.prog md ops Q S 6 #[true, true, true, false, false, true, true, false, true, true, false, true, true, false, true, false] (mk v10 v17 v20 v21 v24 v26 v27 v30) w := by
  refine held_two 3 4 C.r0_9_14 ?_ ?_
  · exact do3 C rfl h fun _ _ h' => ⟨C.hS _ h'.below, st0_3_9_14 C h'⟩
  · exact do4 C h fun _ _ h' => ⟨C.hS _ h'.below, st0_4_9_14 C h'⟩
theorem st4_9_14 (C : DoC ops Q S md mk wb runs sw run byy att fnd bg A1 c1 A c) (h : DoF wb runs sw run byy att fnd bg false false true false true false false true v10 v17 v20 v21 v24 v26 v27 v30 w) : wpAnyH Try.prog md ops Q S 6 #[false, true, true, false, true, true, true, false, true, true, false, true, true, false, true, false] (mk v10 v17 v20 v21 v24 v26 v27 v30) w := by
  refine held_one 0 C.r4_9_14 ?_
  · exact do0 C h fun _ _ h' => ⟨C.hS _ h'.below, st0_4_9_14 C h'⟩
theorem st0_3 (C : DoC ops Q S md mk wb runs sw run byy att fnd bg A1 c1 A c) (h : DoF wb runs sw run byy att fnd bg true true false false false false false false v10 v17 v20 v21 v24 v26 v27 v30 w) : wpAnyH Try.prog md ops Q S 7 #[true, true, true, true, false, true, true, false, true, false, false, true, true, false, false, false] (mk v10 v17 v20 v21 v24 v26 v27 v30) w := by
  refine held_three 4 9 14 C.r0_3 ?_ ?_ ?_
  · exact do4 C h fun _ _ h' => ⟨C.hS _ h'.below, st0_3_4 C h'⟩
  · exact do9 C h fun _ _ h' => ⟨C.hS _ h'.below, st0_3_9 C h'⟩
  · exact do14 C h fun _ _ h' => ⟨C.hS _ h'.below, st0_3_14 C h'⟩
theorem st0_4 (C : DoC ops Q S md mk wb runs sw run byy att fnd bg A1 c1 A c) (h : DoF wb runs sw run byy att fnd bg true false true false false false false false v10 v17 v20 v21 v24 v26 v27 v30 w) : wpAnyH Try.prog md ops Q S 7 #[true, true, true, false, true, true, true, false, true, false, false, true, true, false, false, false] (mk v10 v17 v20 v21 v24 v26 v27 v30) w := by
  refine held_three 3 9 14 C.r0_4 ?_ ?_ ?_
  · exact do3 C rfl h fun _ _ h' => ⟨C.hS _ h'.below, st0_3_4 C h'⟩
  · exact do9 C h fun _ _ h' => ⟨C.hS _ h'.below, st0_4_9 C h'⟩
  · exact do14 C h fun _ _ h' => ⟨C.hS _ h'.below, st0_4_14 C h'⟩
theorem st0_9 (C : DoC ops Q S md mk wb runs sw run byy att fnd bg A1 c1 A c) (h : DoF wb runs sw run byy att fnd bg true false false false true false false false v10 v17 v20 v21 v24 v26 v27 v30 w) : wpAnyH Try.prog md ops Q S 7 #[true, true, true, false, false, true, true, false, true, true, false, true, true, false, false, false] (mk v10 v17 v20 v21 v24 v26 v27 v30) w := by
  refine held_three 3 4 14 C.r0_9 ?_ ?_ ?_
  · exact do3 C rfl h fun _ _ h' => ⟨C.hS _ h'.below, st0_3_9 C h'⟩
  · exact do4 C h fun _ _ h' => ⟨C.hS _ h'.below, st0_4_9 C h'⟩
  · exact do14 C h fun _ _ h' => ⟨C.hS _ h'.below, st0_9_14 C h'⟩
theorem st0_14 (C : DoC ops Q S md mk wb runs sw run byy att fnd bg A1 c1 A c) (h : DoF wb runs sw run byy att fnd bg true false false false false false false true v10 v17 v20 v21 v24 v26 v27 v30 w) : wpAnyH Try.prog md ops Q S 7 #[true, true, true, false, false, true, true, false, true, false, false, true, true, false, true, false] (mk v10 v17 v20 v21 v24 v26 v27 v30) w := by
  refine held_three 3 4 9 C.r0_14 ?_ ?_ ?_
  · exact do3 C rfl h fun _ _ h' => ⟨C.hS _ h'.below, st0_3_14 C h'⟩
  · exact do4 C h fun _ _ h' => ⟨C.hS _ h'.below, st0_4_14 C h'⟩
  · exact do9 C h fun _ _ h' => ⟨C.hS _ h'.below, st0_9_14 C h'⟩
theorem st4_9 (C : DoC ops Q S md mk wb runs sw run byy att fnd bg A1 c1 A c) (h : DoF wb runs sw run byy att fnd bg false false true false true false false false v10 v17 v20 v21 v24 v26 v27 v30 w) : wpAnyH Try.prog md ops Q S 7 #[false, true, true, false, true, true, true, false, true, true, false, true, true, false, false, false] (mk v10 v17 v20 v21 v24 v26 v27 v30) w := by
  refine held_two 0 14 C.r4_9 ?_ ?_
  · exact do0 C h fun _ _ h' => ⟨C.hS _ h'.below, st0_4_9 C h'⟩
  · exact do14 C h fun _ _ h' => ⟨C.hS _ h'.below, st4_9_14 C h'⟩
theorem st4_14 (C : DoC ops Q S md mk wb runs sw run byy att fnd bg A1 c1 A c) (h : DoF wb runs sw run byy att fnd bg false false true false false false false true v10 v17 v20 v21 v24 v26 v27 v30 w) : wpAnyH Try.prog md ops Q S 7 #[false, true, true, false, true, true, true, false, true, false, false, true, true, false, true, false] (mk v10 v17 v20 v21 v24 v26 v27 v30) w := by
  refine held_two 0 9 C.r4_14 ?_ ?_
  · exact do0 C h fun _ _ h' => ⟨C.hS _ h'.below, st0_4_14 C h'⟩
  · exact do9 C h fun _ _ h' => ⟨C.hS _ h'.below, st4_9_14 C h'⟩
theorem st9_14 (C : DoC ops Q S md mk wb runs sw run byy att fnd bg A1 c1 A c) (h : DoF wb runs sw run byy att fnd bg false false false false true false false true v10 v17 v20 v21 v24 v26 v27 v30 w) : wpAnyH Try.prog md ops Q S 7 #[false, true, true, false, false, true, true, false, true, true, false, true, true, false, true, false] (mk v10 v17 v20 v21 v24 v26 v27 v30) w := by
  refine held_two 0 4 C.r9_14 ?_ ?_
  · exact do0 C h fun _ _ h' => ⟨C.hS _ h'.below, st0_9_14 C h'⟩
  · exact do4 C h fun _ _ h' => ⟨C.hS _ h'.below, st4_9_14 C h'⟩
theorem st0 (C : DoC ops Q S md mk wb runs sw run byy att fnd bg A1 c1 A c) (h : DoF wb runs sw run byy att fnd bg true false false false false false false false v10 v17 v20 v21 v24 v26 v27 v30 w) : wpAnyH Try.prog md ops Q S 8 #[true, true, true, false, false, true, true, false, true, false, false, true, true, false, false, false] (mk v10 v17 v20 v21 v24 v26 v27 v30) w := by
  refine held_four 3 4 9 14 C.r0 ?_ ?_ ?_ ?_
  · exact do3 C rfl h fun _ _ h' => ⟨C.hS _ h'.below, st0_3 C h'⟩
  · exact do4 C h fun _ _ h' => ⟨C.hS _ h'.below, st0_4 C h'⟩
  · exact do9 C h fun _ _ h' => ⟨C.hS _ h'.below, st0_9 C h'⟩
  · exact do14 C h fun _ _ h' => ⟨C.hS _ h'.below, st0_14 C h'⟩
theorem st4 (C : DoC ops Q S md mk wb runs sw run byy att fnd bg A1 c1 A c) (h : DoF wb runs sw run byy att fnd bg false false true false false false false false v10 v17 v20 v21 v24 v26 v27 v30 w) : wpAnyH Try.prog md ops Q S 8 #[false, true, true, false, true, true, true, false, true, false, false, true, true, false, false, false] (mk v10 v17 v20 v21 v24 v26 v27 v30) w := by
  refine held_three 0 9 14 C.r4 ?_ ?_ ?_
  · exact do0 C h fun _ _ h' => ⟨C.hS _ h'.below, st0_4 C h'⟩
  · exact do9 C h fun _ _ h' => ⟨C.hS _ h'.below, st4_9 C h'⟩
  · exact do14 C h fun _ _ h' => ⟨C.hS _ h'.below, st4_14 C h'⟩
theorem st9 (C : DoC ops Q S md mk wb runs sw run byy att fnd bg A1 c1 A c) (h : DoF wb runs sw run byy att fnd bg false false false false true false false false v10 v17 v20 v21 v24 v26 v27 v30 w) : wpAnyH Try.prog md ops Q S 8 #[false, true, true, false, false, true, true, false, true, true, false, true, true, false, false, false] (mk v10 v17 v20 v21 v24 v26 v27 v30) w := by
  refine held_three 0 4 14 C.r9 ?_ ?_ ?_
  · exact do0 C h fun _ _ h' => ⟨C.hS _ h'.below, st0_9 C h'⟩
  · exact do4 C h fun _ _ h' => ⟨C.hS _ h'.below, st4_9 C h'⟩
  · exact do14 C h fun _ _ h' => ⟨C.hS _ h'.below, st9_14 C h'⟩
theorem st14 (C : DoC ops Q S md mk wb runs sw run byy att fnd bg A1 c1 A c) (h : DoF wb runs sw run byy att fnd bg false false false false false false false true v10 v17 v20 v21 v24 v26 v27 v30 w) : wpAnyH Try.prog md ops Q S 8 #[false, true, true, false, false, true, true, false, true, false, false, true, true, false, true, false] (mk v10 v17 v20 v21 v24 v26 v27 v30) w := by
  refine held_three 0 4 9 C.r14 ?_ ?_ ?_
  · exact do0 C h fun _ _ h' => ⟨C.hS _ h'.below, st0_14 C h'⟩
  · exact do4 C h fun _ _ h' => ⟨C.hS _ h'.below, st4_14 C h'⟩
  · exact do9 C h fun _ _ h' => ⟨C.hS _ h'.below, st9_14 C h'⟩
theorem stn (C : DoC ops Q S md mk wb runs sw run byy att fnd bg A1 c1 A c) (h : DoF wb runs sw run byy att fnd bg false false false false false false false false v10 v17 v20 v21 v24 v26 v27 v30 w) : wpAnyH Try.prog md ops Q S 9 #[false, true, true, false, false, true, true, false, true, false, false, true, true, false, false, false] (mk v10 v17 v20 v21 v24 v26 v27 v30) w := by
  refine held_four 0 4 9 14 C.rn ?_ ?_ ?_ ?_
  · exact do0 C h fun _ _ h' => ⟨C.hS _ h'.below, st0 C h'⟩
  · exact do4 C h fun _ _ h' => ⟨C.hS _ h'.below, st4 C h'⟩
  · exact do9 C h fun _ _ h' => ⟨C.hS _ h'.below, st9 C h'⟩
  · exact do14 C h fun _ _ h' => ⟨C.hS _ h'.below, st14 C h'⟩
theorem do_start (C : DoC ops Q S md mk wb runs sw run byy att fnd bg A1 c1 A c) {fuel : Nat} {listed : Array Bool} {a : Act} (hf : fuel = 9) (hl : listed = #[false, true, true, false, false, true, true, false, true, false, false, true, true, false, false, false]) (ha : mk v10 v17 v20 v21 v24 v26 v27 v30 = a) (hw : Below wb.heap.size wb w) : wpAnyH Try.prog md ops Q S fuel listed a w := by
  subst hf hl ha
  exact stn C ⟨hw, fun x => Bool.noConfusion x, fun x => Bool.noConfusion x, fun x => Bool.noConfusion x, fun x => Bool.noConfusion x, fun x => Bool.noConfusion x, fun x => Bool.noConfusion x, fun x => Bool.noConfusion x, fun x => Bool.noConfusion x⟩
end
theorem do_start2 {ops : Array Oper} {Q : Exit → Act → World → Prop} {S : World → Prop} {md : Region.Mode} {wb w : World} {runs : List Int} {sw : List Sw} {run byy att fnd bg : Int} {A1 A : Option Addr} {c1 c : Nat} {fuel : Nat} {listed : Array Bool} {a : Act} (C : DoC ops Q S md (mkA a) wb runs sw run byy att fnd bg A1 c1 A c) (hf : fuel = 9) (hl : listed = #[false, true, true, false, false, true, true, false, true, false, false, true, true, false, false, false]) (ha : mkA a (a.eval (.tmp 10)) (a.eval (.tmp 17)) (a.eval (.tmp 20)) (a.eval (.tmp 21)) (a.eval (.tmp 24)) (a.eval (.tmp 26)) (a.eval (.tmp 27)) (a.eval (.tmp 30)) = a) (hw : Below wb.heap.size wb w) : wpAnyH Try.prog md ops Q S fuel listed a w :=
  do_start C hf hl ha hw
end Go.Proofs.Yticoeibccdplaaa
