/-
  The search of Best of chapter 8, walked: the closure that tries the columns of one row, by induction on the rows that are left.
-/
import Derived.Test.YtgmefnddbiofkaaAssignS
import Derived.Test.YtgmefnddbiofkaaBlk
namespace Go.Proofs.Ytgmefnddbiofkaa
open Go.RowKit

/-- what the closure's captured variables hold: the prefix P, and what has been found; they lie in the blocks g .. g + 5 -/
structure DSt (w : World) (g : Nat) (A : Option Addr) (n c : Nat) (rows : List (List Int)) (vb vp vf : Value) (least : Int) (found : Bool) (P : List Nat) (st : St) : Prop where
  cost : Blk w g 22 #[.slice A n c]
  best : Blk w (g + 1) 27 #[vb]
  pre : Blk w (g + 2) 27 #[vp]
  lst : Blk w (g + 3) 3 #[.int .i64 least]
  fnd : Blk w (g + 4) 4 #[.bool found]
  fn : Blk w (g + 5) 37 #[vf]
  mat : Mat w g A n rows
  own : w.ownsRow (g + 6) 3 1 vp P.length ((intsN P).map (Value.int .i64))
  none_ : st = none → found = false
  some_ : ∀ b l, st = some (b, l) → found = true ∧ least = l ∧ w.ownsRow (g + 6) 3 1 vb b.length ((intsN b).map (Value.int .i64)) ∧ (vb.ownBlock = none ∨ vb.ownBlock ≠ vp.ownBlock)

section
variable {w : World} {g : Nat} {A : Option Addr} {n c : Nat} {rows : List (List Int)} {vb vp vf : Value} {least : Int} {found : Bool} {P : List Nat} {st : St}

theorem DSt.size (h : DSt w g A n c rows vb vp vf least found P st) : g + 6 ≤ w.heap.size := by have := h.fn.lt; omega
theorem DSt.found_eq (h : DSt w g A n c rows vb vp vf least found P st) : found = st.isSome := by
  rcases st with _ | ⟨b, l⟩
  · rw [h.none_ rfl]; rfl
  · rw [(h.some_ b l rfl).1]; rfl

theorem own_ne_block {w : World} {base : Nat} {e : TypeId} {size m : Nat} {v : Value} {xs : List Value} (h : w.ownsRow base e size v m xs) {k : Nat} (hk : k < base) : v.ownBlock ≠ some k := by
  intro e
  have := (h.lt k e).1
  omega

/-- a column is put behind the prefix -/
theorem DSt.push (h : DSt w g A n c rows vb vp vf least found P st) (k : Nat) (o : Obj) {v' : Value} {w2 : World}
    (hown : w2.ownsRow (g + 6) 3 1 v' (P.length + 1) ((intsN P).map (Value.int .i64) ++ [.int .i64 (k : Int)])) (hg : (w.alloc o).grownBy w2 vp.ownBlock)
    (hat : v'.ownBlock = vp.ownBlock ∨ v'.ownBlock = some (w.alloc o).heap.size) :
    DSt (w2.setCell ⟨g + 2, 0, none⟩ v') g A n c rows vb v' vf least found (P ++ [k]) st := by
  have hsz := h.size
  have hb : ∀ j, j < 6 → some (g + j) ≠ vp.ownBlock := fun j hj e => by
    have := (h.own.lt (g + j) e.symm).1
    omega
  have hbel : Below (g + 6) (w.alloc o) w2 := (Below.refl _ _).grown hg (by simp; omega) (fun k hk => (h.own.lt k hk).1)
  refine ⟨?_, ?_, ?_, ?_, ?_, ?_, ?_, ?_, h.none_, ?_⟩
  · exact ((h.cost.alloc o).grown hg (hb 0 (by omega))).far (p := ⟨g + 2, 0, none⟩) (by simp) _
  · exact ((h.best.alloc o).grown hg (hb 1 (by omega))).far (p := ⟨g + 2, 0, none⟩) (by simp) _
  · exact ((h.pre.alloc o).grown hg (hb 2 (by omega))).set1 _
  · exact ((h.lst.alloc o).grown hg (hb 3 (by omega))).far (p := ⟨g + 2, 0, none⟩) (by simp) _
  · exact ((h.fnd.alloc o).grown hg (hb 4 (by omega))).far (p := ⟨g + 2, 0, none⟩) (by simp) _
  · exact ((h.fn.alloc o).grown hg (hb 5 (by omega))).far (p := ⟨g + 2, 0, none⟩) (by simp) _
  · have h1 := (h.mat.alloc (by omega) o).below (hbel.mono (by omega))
    exact h1.keep fun p hp => World.cell?_setCell_other w2 ⟨g + 2, 0, none⟩ p v' (fun e => by subst e; simp at hp; omega)
  · have h1 := own_setCell hown (p := ⟨g + 2, 0, none⟩) (own_ne_block hown (by simp)) v'
    have e : (intsN P).map (Value.int .i64) ++ [.int .i64 (k : Int)] = (intsN (P ++ [k])).map (Value.int .i64) := by simp [intsN]
    rw [e] at h1
    simpa using h1
  · intro b l hs
    obtain ⟨h1, h2, h3, h4⟩ := h.some_ b l hs
    have hkept := (h3.alloc o).kept hg h4
    refine ⟨h1, h2, own_setCell hkept (own_ne_block hkept (by simp)) _, ?_⟩
    rcases hat with e | e
    · rw [e]; exact h4
    · right
      rw [e]
      intro e2
      have := (h3.lt _ e2).2
      simp at this
      omega

/-- the last column is taken away -/
theorem DSt.pop {k q cap : Nat} (h : DSt w g A n c rows vb (.slice (some ⟨q, 0, none⟩) (P.length + 1) cap) vf least found (P ++ [k]) st) :
    DSt (w.setCell ⟨g + 2, 0, none⟩ (.slice (some ⟨q, 0, none⟩) P.length cap)) g A n c rows vb (.slice (some ⟨q, 0, none⟩) P.length cap) vf least found P st := by
  have hown := h.own
  rw [List.length_append, List.length_singleton] at hown
  have hp := own_pop hown
  have e : ((intsN (P ++ [k])).map (Value.int .i64)).take P.length = (intsN P).map (Value.int .i64) := by
    simp [intsN]
  rw [e] at hp
  refine ⟨?_, ?_, ?_, ?_, ?_, ?_, ?_, ?_, h.none_, ?_⟩
  · exact h.cost.far (p := ⟨g + 2, 0, none⟩) (by simp) _
  · exact h.best.far (p := ⟨g + 2, 0, none⟩) (by simp) _
  · exact h.pre.set1 _
  · exact h.lst.far (p := ⟨g + 2, 0, none⟩) (by simp) _
  · exact h.fnd.far (p := ⟨g + 2, 0, none⟩) (by simp) _
  · exact h.fn.far (p := ⟨g + 2, 0, none⟩) (by simp) _
  · exact h.mat.keep fun p hp => World.cell?_setCell_other w ⟨g + 2, 0, none⟩ p _ (fun e => by subst e; simp at hp; omega)
  · exact own_setCell hp (own_ne_block hp (by simp)) _
  · intro b l hs
    obtain ⟨h1, h2, h3, h4⟩ := h.some_ b l hs
    exact ⟨h1, h2, own_setCell h3 (own_ne_block h3 (by simp)) _, h4⟩

/-- the prefix is an assignment: it is taken as the best one -/
theorem DSt.take (h : DSt w g A n c rows vb vp vf least found P st) (t : Int) {v : Value} {w1 : World} (hown : w1.ownsRow w.heap.size 3 1 v P.length ((intsN P).map (Value.int .i64))) (hbel : Below w.heap.size w w1) :
    DSt (((w1.setCell ⟨g + 1, 0, none⟩ v).setCell ⟨g + 3, 0, none⟩ (.int .i64 t)).setCell ⟨g + 4, 0, none⟩ (.bool true)) g A n c rows v vp vf t true P (some (P, t)) := by
  have hsz := h.size
  have ho1 := own_below h.own hbel (Nat.le_refl _)
  have hn : w1.ownsRow (g + 6) 3 1 v P.length ((intsN P).map (Value.int .i64)) := by
    refine ⟨hown.1, ?_⟩
    rcases hown.2 with h0 | ⟨q, cap, cur, h1, h2, h3⟩
    · exact .inl h0
    · exact .inr ⟨q, cap, cur, h1, by omega, h3⟩
  refine ⟨?_, ?_, ?_, ?_, ?_, ?_, ?_, ?_, fun e => (by cases e), ?_⟩
  · exact (((h.cost.below hbel (by omega)).far (p := ⟨g + 1, 0, none⟩) (by simp) _).far (p := ⟨g + 3, 0, none⟩) (by simp) _).far (p := ⟨g + 4, 0, none⟩) (by simp) _
  · exact (((h.best.below hbel (by omega)).set1 _).far (p := ⟨g + 3, 0, none⟩) (by simp) _).far (p := ⟨g + 4, 0, none⟩) (by simp) _
  · exact (((h.pre.below hbel (by omega)).far (p := ⟨g + 1, 0, none⟩) (by simp) _).far (p := ⟨g + 3, 0, none⟩) (by simp) _).far (p := ⟨g + 4, 0, none⟩) (by simp) _
  · exact (((h.lst.below hbel (by omega)).far (p := ⟨g + 1, 0, none⟩) (by simp) _).set1 _).far (p := ⟨g + 4, 0, none⟩) (by simp) _
  · exact (((h.fnd.below hbel (by omega)).far (p := ⟨g + 1, 0, none⟩) (by simp) _).far (p := ⟨g + 3, 0, none⟩) (by simp) _).set1 _
  · exact (((h.fn.below hbel (by omega)).far (p := ⟨g + 1, 0, none⟩) (by simp) _).far (p := ⟨g + 3, 0, none⟩) (by simp) _).far (p := ⟨g + 4, 0, none⟩) (by simp) _
  · have h1 := h.mat.below (hbel.mono (show g ≤ w.heap.size by omega))
    refine ((h1.keep fun p hp => World.cell?_setCell_other w1 ⟨g + 1, 0, none⟩ p v (fun e => by subst e; simp at hp; omega)).keep fun p hp => World.cell?_setCell_other _ ⟨g + 3, 0, none⟩ p _ (fun e => by subst e; simp at hp; omega)).keep fun p hp => World.cell?_setCell_other _ ⟨g + 4, 0, none⟩ p _ (fun e => by subst e; simp at hp; omega)
  · exact own_setCell (own_setCell (own_setCell ho1 (own_ne_block ho1 (by simp)) _) (own_ne_block ho1 (by simp)) _) (own_ne_block ho1 (by simp)) _
  · intro b l hs
    injection hs with hs
    injection hs with h1 h2
    subst h1
    subst h2
    refine ⟨rfl, rfl, own_setCell (own_setCell (own_setCell hn (own_ne_block hn (by simp)) _) (own_ne_block hn (by simp)) _) (own_ne_block hn (by simp)) _, ?_⟩
    rcases hv : v.ownBlock with _ | q
    · exact .inl rfl
    · right
      intro e
      have h1 := (hown.lt q hv).1
      have h2 := (h.own.lt q (by rw [← e])).2
      omega
end
end Go.Proofs.Ytgmefnddbiofkaa
