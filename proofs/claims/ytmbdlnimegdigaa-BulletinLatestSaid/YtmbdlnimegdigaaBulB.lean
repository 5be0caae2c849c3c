/-
  sample of the law of chapter 49, walked.
-/
import Derived.Test.YtmbdlnimegdigaaBulI
namespace Go.Proofs.Ytmbdlnimegdigaa
open Go.RowKit

def sampleN : List Bu := [⟨1, 0, 1000, 0, 6000, 2, [1, 2]⟩, ⟨2, 500, 1500, 2000, 6000, 4, [1]⟩, ⟨2, 500, 1500, 0, 2000, 3, [1, 2]⟩]
theorem reads_new' (W : World) (t : TypeId) (cs : Array Value) (size n g : Nat) (hs : cs.size = n * size) (hg : g = W.heap.size) : Reads (W.alloc (.cells cs t)) (W.alloc (.cells cs t)).heap.size size (some ⟨g, 0, none⟩) n cs.toList := by
  subst hg
  have h := Reads.new W t cs size n hs
  have e : (W.alloc (.cells cs t)).heap.size = W.heap.size + 1 := by simp
  rw [e]
  exact h
theorem lit_row (W : World) (cs : Array Value) (t : TypeId) (l : List Int) (n g : Nat) (hcs : cs.toList = l.map (Value.int .i64)) (hn : l.length = n) (hm : n ≤ maxLen) (hg : g = W.heap.size) : RowV (W.alloc (.cells cs t)) (W.alloc (.cells cs t)).heap.size (.slice (some ⟨g, 0, none⟩) n n) l := by
  subst hn
  have h := reads_new' W t cs 1 l.length g (by rw [← Array.length_toList, hcs]; simp) hg
  rw [hcs] at h
  exact ⟨_, _, rfl, Nat.le_refl _, hm, h⟩
theorem below_alloc' {B : Nat} {a W : World} (h : Below B a W) (hB : B ≤ W.heap.size) (o : Obj) : Below B a (W.alloc o) := h.trans ((below_new W o).mono hB)
theorem RowV.alloc' {W : World} {v : Value} {l : List Int} (h : RowV W W.heap.size v l) (o : Obj) : RowV (W.alloc o) (W.alloc o).heap.size v l := (h.below (below_new W o)).more (below_new W o).size

set_option maxRecDepth 100000 in
set_option maxHeartbeats 2000000 in
theorem sample_any (w : World) : Calls Try.prog 24 #[] w fun e w' => ∃ A c, e = .returned (.slice A 3 c) ∧ Buls w' w'.heap.size A 3 sampleN ∧ Below w.heap.size w w' := by
  go_enter Try.func24, Try.ntmps24
  go_wp2_with
    (refine wpList_store_blk rfl 28 (.tmp 1) (.tmp 2) rfl w.heap.size #[.int .i64 500, .int .i64 1500] rfl rfl _ _ (Blk.new w 28 #[.int .i64 0, .int .i64 0]) (by kernel_rfl) rfl (by simp [Value.oneCell']) ?_
     intro w1 hx1 hon1
     have hb1 := hon1.below (below_new w (.cells #[.int .i64 0, .int .i64 0] 28)) (Nat.le_refl _)
     have HB1 := Lib.hid hb1
     have HX1 := Lib.hid hx1
     have hl1 : w.heap.size < w1.heap.size := hx1.lt
     have e0 : w1.cell? ⟨w.heap.size, 0, none⟩ = some (.int .i64 500) := HX1.out.cell 0
     have e1 : w1.cell? ⟨w.heap.size, 1, none⟩ = some (.int .i64 1500) := HX1.out.cell 1
     clear hx1 hon1 hb1)
  go_ret
  have hs1 := HB1.out.size
  refine ⟨_, _, rfl, ⟨[.slice (some ⟨w1.heap.size, 0, none⟩) 2 2, .slice (some ⟨w1.heap.size + 1, 0, none⟩) 1 1, .slice (some ⟨w1.heap.size + 1 + 1, 0, none⟩) 2 2], rfl, rfl, reads_new' _ _ _ 7 3 _ rfl (by simp), ?_⟩, ?_⟩
  · intro i b z hb hz
    match i, hb, hz with
    | 0, hb, hz =>
      obtain rfl := Option.some.inj (show some (⟨1, 0, 1000, 0, 6000, 2, [1, 2]⟩ : Bu) = some b from hb)
      obtain rfl := Option.some.inj (show some (Value.slice (some ⟨w1.heap.size, 0, none⟩) 2 2) = some z from hz)
      exact (((lit_row w1 _ _ [1, 2] 2 _ rfl rfl (by decide) rfl).alloc' _).alloc' _).alloc' _
    | 1, hb, hz =>
      obtain rfl := Option.some.inj (show some (⟨2, 500, 1500, 2000, 6000, 4, [1]⟩ : Bu) = some b from hb)
      obtain rfl := Option.some.inj (show some (Value.slice (some ⟨w1.heap.size + 1, 0, none⟩) 1 1) = some z from hz)
      exact ((lit_row _ _ _ [1] 1 _ rfl rfl (by decide) (by simp)).alloc' _).alloc' _
    | 2, hb, hz =>
      obtain rfl := Option.some.inj (show some (⟨2, 500, 1500, 0, 2000, 3, [1, 2]⟩ : Bu) = some b from hb)
      obtain rfl := Option.some.inj (show some (Value.slice (some ⟨w1.heap.size + 1 + 1, 0, none⟩) 2 2) = some z from hz)
      exact (lit_row _ _ _ [1, 2] 2 _ rfl rfl (by decide) (by simp)).alloc' _
    | i + 3, hb, _ => cases (show (none : Option Bu) = some b from hb)
  · refine below_alloc' (below_alloc' (below_alloc' (below_alloc' HB1.out hs1 _) ?_ _) ?_ _) ?_ _ <;> (simp; omega)
end Go.Proofs.Ytmbdlnimegdigaa
