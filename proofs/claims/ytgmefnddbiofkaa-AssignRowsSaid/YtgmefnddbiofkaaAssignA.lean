/-
  The examples of chapter 8 hold.
-/
import Derived.Test.YtgmefnddbiofkaaAssignD
namespace Go.Proofs.Ytgmefnddbiofkaa
open Go.RowKit

def m1 : List (List Int) := [[4, 1, 3], [2, 0, 5], [3, 2, 2]]
def m2 : List (List Int) := [[1, 1], [1, 1]]
def m3 : List (List Int) := [[7, 5, 5]]
def m4 : List (List Int) := [[1, 2], [3, 4]]
def m5 : List (List Int) := [[1], [2]]
theorem m1_right : RightM m1 := errR_ok (by decide +kernel)
theorem m2_right : RightM m2 := errR_ok (by decide +kernel)
theorem m3_right : RightM m3 := errR_ok (by decide +kernel)
theorem m4_right : RightM m4 := errR_ok (by decide +kernel)
theorem m1_best {p : List Nat} {l : Int} (h : IsBest (colsR m1) m1 p l) : p = [1, 0, 2] ∧ l = 5 := by
  obtain ⟨q, k, h1, h2⟩ := bestF_isBest (colsR m1) m1 m1_right.nn m1_right.cols_le.1
  have e : bestF (colsR m1) m1 = some ([1, 0, 2], 5) := by decide +kernel
  rw [e] at h1
  injection h1 with h1
  injection h1 with h1 h3
  subst h1
  subst h3
  exact h.unique h2
theorem m2_best {p : List Nat} {l : Int} (h : IsBest (colsR m2) m2 p l) : p = [0, 1] ∧ l = 2 := by
  obtain ⟨q, k, h1, h2⟩ := bestF_isBest (colsR m2) m2 m2_right.nn m2_right.cols_le.1
  have e : bestF (colsR m2) m2 = some ([0, 1], 2) := by decide +kernel
  rw [e] at h1
  injection h1 with h1
  injection h1 with h1 h3
  subst h1
  subst h3
  exact h.unique h2
theorem m3_best {p : List Nat} {l : Int} (h : IsBest (colsR m3) m3 p l) : p = [1] ∧ l = 5 := by
  obtain ⟨q, k, h1, h2⟩ := bestF_isBest (colsR m3) m3 m3_right.nn m3_right.cols_le.1
  have e : bestF (colsR m3) m3 = some ([1], 5) := by decide +kernel
  rw [e] at h1
  injection h1 with h1
  injection h1 with h1 h3
  subst h1
  subst h3
  exact h.unique h2

/-- a row's block behind the blocks of later rows -/
theorem row_lit (w : World) (l : List Int) (n : Nat) (hn : l.length = n) (hm : n ≤ 100) (cs : Array Value) (hcs : cs.toList = l.map (Value.int .i64)) :
    RowV (w.alloc (.cells cs 3)) (w.alloc (.cells cs 3)).heap.size (.slice (some ⟨w.heap.size, 0, none⟩) n n) l := by
  rw [World.heap_size_alloc']
  exact RowV.new w _ l n hn (by unfold maxLen; omega) cs hcs
theorem RowV.next {w : World} {v : Value} {r : List Int} (h : RowV w w.heap.size v r) (o : Obj) : RowV (w.alloc o) (w.alloc o).heap.size v r := by
  rw [World.heap_size_alloc']
  exact (h.alloc (Nat.le_refl _) o).more (by omega)

def RM (w : World) (rows : List (List Int)) (A : Option Addr) (n : Nat) (W : World) : Prop := Mat W W.heap.size A n rows ∧ Below w.heap.size w W
theorem best_at (w W : World) (rows : List (List Int)) (A : Option Addr) (n c : Nat) (h : RM w rows A n W) (hR : RightM rows) (q : List Nat) (k : Int) (hq : ∀ {p l}, IsBest (colsR rows) rows p l → p = q ∧ l = k) :
    Calls Try.prog 17 #[.slice A n c] W fun e w' => ∃ (vA : Option Addr) (vc : Nat), e = .returned (.tuple #[.slice vA q.length vc, .int .i64 k, .int .i64 0]) ∧
      Ints w' w'.heap.size vA q.length (intsN q) ∧ Below w.heap.size w w' ∧ Below W.heap.size W w' :=
  (best_ok A n c rows W h.1 hR).mono fun e w' ⟨p, l, vA, vc, he, hb, _, _, hi, hbw⟩ => by
    obtain ⟨rfl, rfl⟩ := hq hb
    exact ⟨vA, vc, he, hi, h.2.trans (hbw.mono h.2.size), hbw⟩
theorem below_alloc {w W : World} (h : Below w.heap.size w W) (o : Obj) : Below w.heap.size w (W.alloc o) := h.alloc h.size o

theorem lit1 {w W : World} (hb : Below w.heap.size w W) (l1 : List Int) (n1 : Nat) (h1 : l1.length = n1) (m1 : n1 ≤ 100) (c1 : Array Value) (e1 : c1.toList = l1.map (Value.int .i64)) :
    RM w [l1] (some ⟨W.heap.size + 1, 0, none⟩) 1 ((W.alloc (.cells c1 3)).alloc (.cells #[.slice (some ⟨W.heap.size, 0, none⟩) n1 n1] 27)) := by
  have r1 := row_lit W l1 n1 h1 m1 c1 e1
  have hM := Mat.new (W.alloc (.cells c1 3)) 27 #[.slice (some ⟨W.heap.size, 0, none⟩) n1 n1] [l1] 1 rfl ⟨r1, trivial⟩
  rw [World.heap_size_alloc' W] at hM
  exact ⟨hM, below_alloc (below_alloc hb _) _⟩
theorem lit2 {w W : World} (hb : Below w.heap.size w W) (l1 l2 : List Int) (n1 n2 : Nat) (h1 : l1.length = n1) (h2 : l2.length = n2) (m1 : n1 ≤ 100) (m2 : n2 ≤ 100) (c1 c2 : Array Value)
    (e1 : c1.toList = l1.map (Value.int .i64)) (e2 : c2.toList = l2.map (Value.int .i64)) :
    RM w [l1, l2] (some ⟨W.heap.size + 1 + 1, 0, none⟩) 2 (((W.alloc (.cells c1 3)).alloc (.cells c2 3)).alloc (.cells #[.slice (some ⟨W.heap.size, 0, none⟩) n1 n1, .slice (some ⟨W.heap.size + 1, 0, none⟩) n2 n2] 27)) := by
  have r1 := (row_lit W l1 n1 h1 m1 c1 e1).next (.cells c2 3)
  have r2 := row_lit (W.alloc (.cells c1 3)) l2 n2 h2 m2 c2 e2
  rw [World.heap_size_alloc' W] at r2
  have hM := Mat.new ((W.alloc (.cells c1 3)).alloc (.cells c2 3)) 27 #[.slice (some ⟨W.heap.size, 0, none⟩) n1 n1, .slice (some ⟨W.heap.size + 1, 0, none⟩) n2 n2] [l1, l2] 2 rfl ⟨r1, r2, trivial⟩
  rw [World.heap_size_alloc' (W.alloc _), World.heap_size_alloc' W] at hM
  exact ⟨hM, below_alloc (below_alloc (below_alloc hb _) _) _⟩
theorem lit3 {w W : World} (hb : Below w.heap.size w W) (l1 l2 l3 : List Int) (n1 n2 n3 : Nat) (h1 : l1.length = n1) (h2 : l2.length = n2) (h3 : l3.length = n3) (m1 : n1 ≤ 100) (m2 : n2 ≤ 100) (m3 : n3 ≤ 100) (c1 c2 c3 : Array Value)
    (e1 : c1.toList = l1.map (Value.int .i64)) (e2 : c2.toList = l2.map (Value.int .i64)) (e3 : c3.toList = l3.map (Value.int .i64)) :
    RM w [l1, l2, l3] (some ⟨W.heap.size + 1 + 1 + 1, 0, none⟩) 3 ((((W.alloc (.cells c1 3)).alloc (.cells c2 3)).alloc (.cells c3 3)).alloc
      (.cells #[.slice (some ⟨W.heap.size, 0, none⟩) n1 n1, .slice (some ⟨W.heap.size + 1, 0, none⟩) n2 n2, .slice (some ⟨W.heap.size + 1 + 1, 0, none⟩) n3 n3] 27)) := by
  have r1 := ((row_lit W l1 n1 h1 m1 c1 e1).next (.cells c2 3)).next (.cells c3 3)
  have r2 := (row_lit (W.alloc (.cells c1 3)) l2 n2 h2 m2 c2 e2).next (.cells c3 3)
  have r3 := row_lit ((W.alloc (.cells c1 3)).alloc (.cells c2 3)) l3 n3 h3 m3 c3 e3
  rw [World.heap_size_alloc' W] at r2
  rw [World.heap_size_alloc' (W.alloc _), World.heap_size_alloc' W] at r3
  have hM := Mat.new (((W.alloc (.cells c1 3)).alloc (.cells c2 3)).alloc (.cells c3 3)) 27 #[.slice (some ⟨W.heap.size, 0, none⟩) n1 n1, .slice (some ⟨W.heap.size + 1, 0, none⟩) n2 n2, .slice (some ⟨W.heap.size + 1 + 1, 0, none⟩) n3 n3] [l1, l2, l3] 3 rfl ⟨r1, r2, r3, trivial⟩
  rw [World.heap_size_alloc' ((W.alloc _).alloc _), World.heap_size_alloc' (W.alloc _), World.heap_size_alloc' W] at hM
  exact ⟨hM, below_alloc (below_alloc (below_alloc (below_alloc hb _) _) _) _⟩

theorem tot4 : totP m4 [1, 0] = (5, true) := by decide +kernel
theorem tot5 : totP m4 [1, 1] = (0, false) := by decide +kernel
theorem err5 : errR m5 = 3 := by decide +kernel

def chain4 (W : World) (x y : Int) : World :=
  ((((W.alloc (.cells #[.int .i64 1, .int .i64 2] 3)).alloc (.cells #[.int .i64 3, .int .i64 4] 3)).alloc (.cells #[.slice (some ⟨W.heap.size, 0, none⟩) 2 2, .slice (some ⟨W.heap.size + 1, 0, none⟩) 2 2] 27)).alloc (.cells #[.int .i64 x, .int .i64 y] 3))
theorem total_lit (W : World) (x y a : Int) (b : Bool) (h : totP m4 [x, y] = (a, b)) :
    Calls Try.prog 15 #[.slice (some ⟨W.heap.size + 1 + 1, 0, none⟩) 2 2, .slice (some ⟨W.heap.size + 1 + 1 + 1, 0, none⟩) 2 2] (chain4 W x y) fun e w' => e = .returned (.tuple #[.int .i64 a, .bool b]) ∧ Below W.heap.size W w' := by
  have hm4 := lit2 (Below.refl W.heap.size W) [1, 2] [3, 4] 2 2 rfl rfl (by omega) (by omega) #[.int .i64 1, .int .i64 2] #[.int .i64 3, .int .i64 4] rfl rfl
  have hm := hm4.1.alloc (Nat.le_refl _) (.cells #[.int .i64 x, .int .i64 y] 3)
  have hp := Reads.new (((W.alloc (.cells #[.int .i64 1, .int .i64 2] 3)).alloc (.cells #[.int .i64 3, .int .i64 4] 3)).alloc (.cells #[.slice (some ⟨W.heap.size, 0, none⟩) 2 2, .slice (some ⟨W.heap.size + 1, 0, none⟩) 2 2] 27)) 3 #[.int .i64 x, .int .i64 y] 1 2 rfl
  simp only [World.heap_size_alloc'] at hp
  refine (total_any _ _ _ _ m4 _ _ 2 [x, y] (chain4 W x y) (hm.more (show _ ≤ W.heap.size + 1 + 1 + 1 + 1 by simp only [World.heap_size_alloc']; omega)) m4_right hp (by omega) (by omega)).mono ?_
  rintro e w' ⟨rfl, rfl⟩
  exact ⟨by rw [h], below_alloc hm4.2 _⟩
theorem same_lit (W : World) (q : List Nat) (n c : Nat) (A : Option Addr) (cs : Array Value) (h : Ints W W.heap.size A n (intsN q)) (hn : n ≤ 100) (hq : q.length = n) (hcs : cs.toList = (intsN q).map (Value.int .i64)) :
    Calls Try.prog 19 #[.slice A n c, .slice (some ⟨W.heap.size, 0, none⟩) n n] (W.alloc (.cells cs 3)) fun e w' => e = .returned (.bool true) ∧ Below W.heap.size W w' := by
  have h2 := Reads.new W 3 cs 1 n (by rw [← Array.length_toList, hcs]; simp [intsN, hq])
  rw [hcs] at h2
  refine (same_b true _ _ _ _ _ _ _ _ _ _ _ (h.alloc (Nat.le_refl _) _) h2 (by unfold maxLen; omega) (by simp)).mono ?_
  rintro e w' ⟨rfl, m, rfl⟩
  exact ⟨rfl, below_drewN (below_alloc (Below.refl _ _) _) m⟩
theorem right_lit (W : World) :
    Calls Try.prog 12 #[.slice (some ⟨W.heap.size + 1 + 1, 0, none⟩) 2 2] (((W.alloc (.cells #[.int .i64 1] 3)).alloc (.cells #[.int .i64 2] 3)).alloc (.cells #[.slice (some ⟨W.heap.size, 0, none⟩) 1 1, .slice (some ⟨W.heap.size + 1, 0, none⟩) 1 1] 27))
      fun e w' => e = .returned (.int .i64 3) ∧ Below W.heap.size W w' := by
  have hm := lit2 (Below.refl W.heap.size W) [1] [2] 1 1 rfl rfl (by omega) (by omega) #[.int .i64 1] #[.int .i64 2] rfl rfl
  refine (right_any _ _ _ _ m5 _ hm.1 (by omega)).mono ?_
  rintro e w' ⟨rfl, rfl⟩
  exact ⟨by rw [err5], hm.2⟩

set_option maxHeartbeats 1000000 in
theorem alive_any (w : World) :
    Calls Try.prog 10 #[] w fun e w' => e = .returned (.bool true) ∧ Below w.heap.size w w' := by
  go_enter Try.func10, Try.ntmps10
  go_wp2_with fail
  refine (best_at w _ m1 _ _ _ (lit3 (Below.refl _ _) [4, 1, 3] [2, 0, 5] [3, 2, 2] 3 3 3 rfl rfl rfl (by omega) (by omega) (by omega) _ _ _ rfl rfl rfl) m1_right [1, 0, 2] 5 m1_best).mono ?_
  rintro e w1 ⟨A1, c1, rfl, hi1, hb1, _⟩
  have HI1 := Lib.hid hi1
  clear hi1
  go_wp2_with fail
  refine (best_at w1 _ m2 _ _ _ (lit2 (Below.refl _ _) [1, 1] [1, 1] 2 2 rfl rfl (by omega) (by omega) _ _ rfl rfl) m2_right [0, 1] 2 m2_best).mono ?_
  rintro e w2 ⟨A2, c2, rfl, hi2, hw2, _⟩
  have HI2 := Lib.hid hi2
  have HI1 := Lib.hid (HI1.out.now hw2)
  have hb2 := hb1.trans (hw2.mono hb1.size)
  clear hi2 hw2
  go_wp2_with fail
  refine (best_at w2 _ m3 _ _ _ (lit1 (Below.refl _ _) [7, 5, 5] 3 rfl (by omega) _ rfl) m3_right [1] 5 m3_best).mono ?_
  rintro e w3 ⟨A3, c3, rfl, hi3, hw3, _⟩
  have HI3 := Lib.hid hi3
  have HI2 := Lib.hid (HI2.out.now hw3)
  have HI1 := Lib.hid (HI1.out.now hw3)
  have hb3 := hb2.trans (hw3.mono hb2.size)
  clear hi3 hw3 hb1 hb2
  go_wp2_with fail
  refine (total_lit w3 1 0 5 true tot4).mono ?_
  rintro e w4 ⟨rfl, hw4⟩
  have HI3 := Lib.hid (HI3.out.now hw4)
  have HI2 := Lib.hid (HI2.out.now hw4)
  have HI1 := Lib.hid (HI1.out.now hw4)
  have hb4 := hb3.trans (hw4.mono hb3.size)
  clear hw4 hb3
  go_wp2_with fail
  refine (total_lit w4 1 1 0 false tot5).mono ?_
  rintro e w5 ⟨rfl, hw5⟩
  have HI3 := Lib.hid (HI3.out.now hw5)
  have HI2 := Lib.hid (HI2.out.now hw5)
  have HI1 := Lib.hid (HI1.out.now hw5)
  have hb5 := hb4.trans (hw5.mono hb4.size)
  clear hw5 hb4
  go_wp2_with fail
  refine (right_lit w5).mono ?_
  rintro e w6 ⟨rfl, hw6⟩
  have HI3 := Lib.hid (HI3.out.now hw6)
  have HI2 := Lib.hid (HI2.out.now hw6)
  have HI1 := Lib.hid (HI1.out.now hw6)
  have hb6 := hb5.trans (hw6.mono hb5.size)
  clear hw6 hb5
  go_wp2_with fail
  refine (same_lit w6 [1, 0, 2] 3 _ _ _ HI1.out (by omega) rfl rfl).mono ?_
  rintro e w7 ⟨rfl, hw7⟩
  have HI3 := Lib.hid (HI3.out.now hw7)
  have HI2 := Lib.hid (HI2.out.now hw7)
  have hb7 := hb6.trans (hw7.mono hb6.size)
  clear hw7 hb6
  go_wp2_with fail
  refine (same_lit w7 [0, 1] 2 _ _ _ HI2.out (by omega) rfl rfl).mono ?_
  rintro e w8 ⟨rfl, hw8⟩
  have HI3 := Lib.hid (HI3.out.now hw8)
  have hb8 := hb7.trans (hw8.mono hb7.size)
  clear hw8 hb7
  go_wp2_with fail
  refine (same_lit w8 [1] 1 _ _ _ HI3.out (by omega) rfl rfl).mono ?_
  rintro e w9 ⟨rfl, hw9⟩
  have hb9 := hb8.trans (hw9.mono hb8.size)
  clear hw9 hb8
  go_wp2_with fail
  go_ret
  exact ⟨rfl, hb9⟩
theorem rightB_right {rows : List (List Int)} (h : rightB rows = true) : RightM rows := by
  unfold rightB at h
  simp only [Bool.and_eq_true, decide_eq_true_eq] at h
  exact errR_ok h.2

end Go.Proofs.Ytgmefnddbiofkaa
