/-
  The example of chapter 47 holds.
-/
import Derived.Test.YtbegehooefhiiaaRouG
import Derived.Test.YtbegehooefhiiaaRscD
import Derived.Test.YtbegehooefhiiaaAssX
namespace Go.Proofs.Ytbegehooefhiiaa
open Go.RowKit

def tl2 : List Tk := [⟨1, 10, false, []⟩, ⟨2, 20, false, []⟩]
def wl2 : List Bool := [false, false]
theorem tl2_ok : RtOK tl2 wl2 := by
  refine ⟨by decide, by decide, fun t ht => ?_, by decide, fun t ht => ?_⟩
  all_goals
    simp only [tl2, List.mem_cons, List.not_mem_nil, or_false] at ht
    rcases ht with rfl | rfl <;> simp
theorem tl2_end : (bestP tl2 wl2).2 = 20 := by decide +kernel
def am2 : List (List Int) := [[5, 1], [1, 5]]
theorem am2_right : RightM am2 := errM_ok (by decide +kernel)
theorem am2_best {p : List Nat} {l : Int} (h : IsBest (colsR am2) am2 p l) : p = [1, 0] ∧ l = 2 := by
  obtain ⟨q, k, h1, h2⟩ := bestF_isBest (colsR am2) am2 am2_right.nn am2_right.cols_le.1
  have e : bestF (colsR am2) am2 = some ([1, 0], 2) := by decide +kernel
  rw [e] at h1
  injection h1 with h1
  injection h1 with h1 h3
  subst h1
  subst h3
  exact h.unique h2
theorem sl2_y : ∀ i, i < 2 → ∃ y : Nat, (⟨15, [0, 0, 0, 0], [2, 2], [1, 2]⟩ : BS).y.getD i 0 = (y : Int) ∧ y ≤ 3 := by
  intro i hi
  rcases i with _ | _ | i
  · exact ⟨1, rfl, by omega⟩
  · exact ⟨2, rfl, by omega⟩
  · omega
theorem sl2_se : ∀ i, 0 ≤ (sl2.getD i sec0).se ∧ (sl2.getD i sec0).se ≤ 1000 := by
  intro i
  rcases i with _ | _ | i
  · exact ⟨by decide, by decide⟩
  · exact ⟨by decide, by decide⟩
  · exact ⟨(by show (0 : Int) ≤ 0; decide), (by show (0 : Int) ≤ 1000; decide)⟩
theorem sl2_pe : ∀ i, i < 2 → (sl2.getD i sec0).pe ≠ 0 := by
  intro i hi
  rcases i with _ | _ | i
  · decide
  · decide
  · omega
theorem size_alloc' (w : World) (o : Obj) : (w.alloc o).heap.size = w.heap.size + 1 := by simp
theorem row_lit (w : World) (l : List Int) (n : Nat) (hn : l.length = n) (hm : n ≤ 100) (cs : Array Value) (hcs : cs.toList = l.map (Value.int .i64)) :
    RowV (w.alloc (.cells cs 3)) (w.alloc (.cells cs 3)).heap.size (.slice (some ⟨w.heap.size, 0, none⟩) n n) l := by
  rw [size_alloc']
  exact RowV.new w _ l n hn (by unfold maxLen; omega) cs hcs
theorem RowV.next {w : World} {v : Value} {r : List Int} (h : RowV w w.heap.size v r) (o : Obj) : RowV (w.alloc o) (w.alloc o).heap.size v r := by
  rw [size_alloc']
  exact (h.alloc (Nat.le_refl _) o).more (by omega)
theorem am2_mat (W : World) : Mat (((W.alloc (.cells #[.int .i64 5, .int .i64 1] 3)).alloc (.cells #[.int .i64 1, .int .i64 5] 3)).alloc (.cells #[.slice (some ⟨W.heap.size, 0, none⟩) 2 2, .slice (some ⟨W.heap.size + 1, 0, none⟩) 2 2] 32))
    (((W.alloc (.cells #[.int .i64 5, .int .i64 1] 3)).alloc (.cells #[.int .i64 1, .int .i64 5] 3)).alloc (.cells #[.slice (some ⟨W.heap.size, 0, none⟩) 2 2, .slice (some ⟨W.heap.size + 1, 0, none⟩) 2 2] 32)).heap.size (some ⟨W.heap.size + 1 + 1, 0, none⟩) 2 am2 := by
  have r1 := (row_lit W [5, 1] 2 rfl (by omega) #[.int .i64 5, .int .i64 1] rfl).next (.cells #[.int .i64 1, .int .i64 5] 3)
  have r2 := row_lit (W.alloc (.cells #[.int .i64 5, .int .i64 1] 3)) [1, 5] 2 rfl (by omega) #[.int .i64 1, .int .i64 5] rfl
  rw [size_alloc' W] at r2
  have hM := Mat.new ((W.alloc (.cells #[.int .i64 5, .int .i64 1] 3)).alloc (.cells #[.int .i64 1, .int .i64 5] 3)) 32 #[.slice (some ⟨W.heap.size, 0, none⟩) 2 2, .slice (some ⟨W.heap.size + 1, 0, none⟩) 2 2] [[5, 1], [1, 5]] 2 rfl ⟨r1, r2, trivial⟩
  rw [size_alloc' (W.alloc _), size_alloc' W] at hM
  exact hM
theorem tl2_tks (w : World) : Tks (w.alloc (.cells #[.int .i64 1, .int .i64 10, .bool false, .slice none 0 0, .int .i64 2, .int .i64 20, .bool false, .slice none 0 0] 34)) (w.alloc (.cells #[.int .i64 1, .int .i64 10, .bool false, .slice none 0 0, .int .i64 2, .int .i64 20, .bool false, .slice none 0 0] 34)).heap.size (some ⟨w.heap.size, 0, none⟩) 2 tl2 := by
  refine ⟨[.slice none 0 0, .slice none 0 0], rfl, rfl, ?_, ?_⟩
  · rw [size_alloc']
    exact Reads.new w 34 #[.int .i64 1, .int .i64 10, .bool false, .slice none 0 0, .int .i64 2, .int .i64 20, .bool false, .slice none 0 0] 4 2 rfl
  · intro i b z hb hz
    rcases i with _ | _ | i
    · cases hb
      cases hz
      exact ⟨none, 0, rfl, Nat.le_refl _, by simp [maxLen], Reads.empty⟩
    · cases hb
      cases hz
      exact ⟨none, 0, rfl, Nat.le_refl _, by simp [maxLen], Reads.empty⟩
    · cases hb
theorem wl2_bools (w : World) : Bools (w.alloc (.cells #[.bool false, .bool false] 4)) (w.alloc (.cells #[.bool false, .bool false] 4)).heap.size (some ⟨w.heap.size, 0, none⟩) 2 wl2 := by
  rw [size_alloc']
  exact Reads.new w 4 #[.bool false, .bool false] 1 2 rfl
theorem sl2_strs (w : World) : Strs Sec.cells 3 (w.alloc (.cells #[.int .i64 1, .int .i64 3, .int .i64 10, .int .i64 2, .int .i64 1, .int .i64 15] 39)) (w.alloc (.cells #[.int .i64 1, .int .i64 3, .int .i64 10, .int .i64 2, .int .i64 1, .int .i64 15] 39)).heap.size (some ⟨w.heap.size, 0, none⟩) 2 sl2 := by
  rw [size_alloc']
  exact Reads.new w 39 #[.int .i64 1, .int .i64 3, .int .i64 10, .int .i64 2, .int .i64 1, .int .i64 15] 3 2 rfl
set_option maxRecDepth 100000 in
set_option maxHeartbeats 4000000 in
theorem alive_any (w : World) :
    Calls Try.prog 4 #[] w fun e w' => e = .returned (.bool true) ∧ Below w.heap.size w w' := by
  go_enter Try.func4, Try.ntmps4
  go_wp2_with fail
  have hT := tl2_tks w
  have hb1 := below_new w (.cells #[.int .i64 1, .int .i64 10, .bool false, .slice none 0 0, .int .i64 2, .int .i64 20, .bool false, .slice none 0 0] 34)
  have hs1 := size_alloc' w (.cells #[.int .i64 1, .int .i64 10, .bool false, .slice none 0 0, .int .i64 2, .int .i64 20, .bool false, .slice none 0 0] 34)
  generalize w.alloc (.cells #[.int .i64 1, .int .i64 10, .bool false, .slice none 0 0, .int .i64 2, .int .i64 20, .bool false, .slice none 0 0] 34) = w1 at hT hb1 hs1 ⊢
  have hW := wl2_bools w1
  have hb2 := below_new w1 (.cells #[.bool false, .bool false] 4)
  rw [hs1] at hW
  generalize w1.alloc (.cells #[.bool false, .bool false] 4) = w2 at hW hb2 ⊢
  with_reducible refine (best_any _ _ 2 2 2 2 tl2 wl2 w2 (hT.now hb2) hW (by omega) (by simp [maxLen]) tl2_ok).mono ?_
  rintro e w3 ⟨gp, rfl, _, hb3⟩
  have HT := Lib.hid ((hT.now hb2).now hb3)
  have HB3 : Hid (Below w.heap.size w w3) := hide ((hb1.trans (hb2.mono hb1.size)).trans (hb3.mono (Nat.le_trans hb1.size hb2.size)))
  clear hT hb1 hs1 hW hb2 hb3
  go_wp2_with fail
  have hS := sl2_strs w3
  have hb4 := below_new w3 (.cells #[.int .i64 1, .int .i64 3, .int .i64 10, .int .i64 2, .int .i64 1, .int .i64 15] 39)
  generalize w3.alloc (.cells #[.int .i64 1, .int .i64 3, .int .i64 10, .int .i64 2, .int .i64 1, .int .i64 15] 39) = w4 at hS hb4 ⊢
  have HPl : Hid (Calls Try.prog 10 #[.slice (some ⟨w3.heap.size, 0, none⟩) 2 2, .int .i64 2] w4 (PlnR 2 15 w4)) := hide (rplan_any _ 2 2 2 sl2 w4 hS rfl (by omega) (by omega) sl2_pe sl2_se _ ex_end sl2_y)
  with_reducible refine HPl.out.mono ?_
  rintro e w5 ⟨Aj, cj, rfl, hb5⟩
  have HB5 : Hid (Below w.heap.size w w5) := hide ((HB3.out.trans (hb4.mono HB3.out.size)).trans (hb5.mono (Nat.le_trans HB3.out.size hb4.size)))
  have HT5 := Lib.hid ((HT.out.now hb4).now hb5)
  clear hS hb4 hb5 HPl HT HB3
  go_wp2_with fail
  refine (Asg.best_ok _ 2 2 am2 _ (am2_mat w5) am2_right).mono ?_
  rintro e w6 ⟨p, l, vA, vc, rfl, hbest, _, _, _, hb6⟩
  obtain ⟨rfl, rfl⟩ := am2_best hbest
  have hb56 := (((Below.refl w5.heap.size w5).alloc (Nat.le_refl _) (.cells #[.int .i64 5, .int .i64 1] 3)).alloc (by simp) (.cells #[.int .i64 1, .int .i64 5] 3)).alloc (by simp; omega) (.cells #[.slice (some ⟨w5.heap.size, 0, none⟩) 2 2, .slice (some ⟨w5.heap.size + 1, 0, none⟩) 2 2] 32)
  have hb5' := hb56.trans (hb6.mono hb56.size)
  have HB6 : Hid (Below w.heap.size w w6) := hide (HB5.out.trans (hb5'.mono HB5.out.size))
  have HT6 := Lib.hid (HT5.out.now hb5')
  clear hb56 hb6 hb5' HT5 HB5 hbest
  go_wp2_with fail
  have hW := wl2_bools w6
  have hb7 := below_new w6 (.cells #[.bool false, .bool false] 4)
  generalize w6.alloc (.cells #[.bool false, .bool false] 4) = w7 at hW hb7 ⊢
  have HLe : Hid (∀ A B, Tks w7 w7.heap.size A 2 tl2 → Bools w7 w7.heap.size B 2 wl2 → Calls Try.prog 7 #[.slice A 2 2, .slice B 2 2] w7 (LeR 20 w7)) := fun A B h1 h2 => by
    have := least_any A B 2 2 2 2 tl2 wl2 w7 h1 h2 (by omega) (by simp [maxLen]) tl2_ok
    rwa [tl2_end] at this
  with_reducible refine (HLe.out _ _ (HT6.out.now hb7) hW).mono ?_
  rintro e w8 ⟨rfl, hb8⟩
  have HB8 : Hid (Below w.heap.size w w8) := hide ((HB6.out.trans (hb7.mono HB6.out.size)).trans (hb8.mono (Nat.le_trans HB6.out.size hb7.size)))
  clear hW hb7 hb8 HLe HT6 HB6
  go_wp2_with fail
  go_ret
  exact ⟨rfl, HB8.out⟩
end Go.Proofs.Ytbegehooefhiiaa
