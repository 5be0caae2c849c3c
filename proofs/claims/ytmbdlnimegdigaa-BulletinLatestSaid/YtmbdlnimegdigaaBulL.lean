/-
  Two rows of one type side by side, and a block beside a row that grows; the plain steps of BulletinLatest.
-/
import Derived.Test.YtmbdlnimegdigaaBulI
import Derived.Test.YtmbdlnimegdigaaBulP
namespace Go.Proofs.Ytmbdlnimegdigaa
open Go.RowKit

/-- two values are no rows of one block -/
def NE (u v : Value) : Prop := u.ownBlock = none ∨ v.ownBlock = none ∨ u.ownBlock ≠ v.ownBlock
theorem NE.symm {u v : Value} (h : NE u v) : NE v u := by
  rcases h with h | h | h
  · exact .inr (.inl h)
  · exact .inl h
  · exact .inr (.inr fun e => h e.symm)
theorem NE.left {u v : Value} (h : NE u v) : u.ownBlock = none ∨ u.ownBlock ≠ v.ownBlock := by
  rcases h with h | h | h
  · exact .inl h
  · rw [h]
    by_cases hu : u.ownBlock = none
    · exact .inl hu
    · exact .inr hu
  · exact .inr h
theorem NE.app {u u' v : Value} {g : Nat} (h : NE u v) (hu : u'.ownBlock = u.ownBlock ∨ u'.ownBlock = some g) (hv : ∀ k, v.ownBlock = some k → k < g) : NE u' v := by
  rcases hu with hu | hu
  · unfold NE at h ⊢
    rw [hu]
    exact h
  · by_cases hn : v.ownBlock = none
    · exact .inr (.inl hn)
    · refine .inr (.inr fun e => ?_)
      have := hv g (by rw [← e, hu])
      omega
theorem kept_blk {w w' : World} {cs bs : Array Value} {te t : TypeId} {row : Option Nat} {g : Nat} (hg : (w.alloc (.cells cs te)).grownBy w' row) (hB : Blk w g t bs) (hne : row ≠ some g) : Blk w' g t bs := by
  have h1 : Blk (w.alloc (.cells cs te)) g t bs := hB.below (below_new w _) hB.lt
  exact (hg.block g h1.lt (fun e => hne e.symm)).trans h1
theorem kept_row {w w' : World} {cs : Array Value} {te e : TypeId} {row : Option Nat} {base size n : Nat} {v : Value} {xs : List Value} (hg : (w.alloc (.cells cs te)).grownBy w' row) (h : w.ownsRow base e size v n xs) (hne : v.ownBlock = none ∨ v.ownBlock ≠ row) : w'.ownsRow base e size v n xs := (h.alloc _).kept hg hne

theorem latest_yes {v : Int} {T : List Bu} {b : Bu} (h : b.ver = v) : latestN v (T ++ [b]) = latestN v T ++ [b] := by
  unfold latestN
  rw [List.filter_append]
  simp [h]
theorem latest_no {v : Int} {T : List Bu} {b : Bu} (h : b.ver ≠ v) : latestN v (T ++ [b]) = latestN v T := by
  unfold latestN
  rw [List.filter_append]
  simp [h]
theorem changed_snoc (v o : Int) (T : List Bu) (b : Bu) : changedN v o (T ++ [b]) = changedN v o T ++ [otherB v o b] := by
  unfold changedN
  rw [List.map_append]
  rfl
theorem other_yes {v o : Int} {b : Bu} (h : b.ver = v) : otherB v o b = b := if_pos h
theorem other_no {v o : Int} {b : Bu} (h : b.ver ≠ v) : otherB v o b = { b with lev := o } := if_neg h
theorem bu_mem {l : List Bu} {k : Nat} (h : k < l.length) : l.getD k ⟨0, 0, 0, 0, 0, 0, []⟩ ∈ l := by
  rw [List.getD_eq_getElem?_getD, List.getElem?_eq_getElem h]
  exact List.getElem_mem h
theorem ver_cur {l : List Bu} {b : Bu} {t : Int} (hb : b ∈ l) (h : hasB b t = true) : b.ver ≤ curN l t := (curF_ge t l 0).2 b hb h
theorem rowsV_snoc {w : World} {B : Nat} : ∀ {vs : List Value} {rs : List (List Int)} {v : Value} {r : List Int}, RowsV w B vs rs → RowV w B v r → RowsV w B (vs ++ [v]) (rs ++ [r])
  | [], [], _, _, _, h => ⟨h, trivial⟩
  | _ :: _, _ :: _, _, _, h, h' => ⟨h.1, rowsV_snoc h.2 h'⟩
  | [], _ :: _, _, _, h, _ => h.elim
  | _ :: _, [], _, _, h, _ => h.elim
theorem rowsV_map {w w' : World} {B B' : Nat} (hf : ∀ v r, RowV w B v r → RowV w' B' v r) : ∀ {vs : List Value} {rs : List (List Int)}, RowsV w B vs rs → RowsV w' B' vs rs
  | [], [], _ => trivial
  | _ :: _, _ :: _, h => ⟨hf _ _ h.1, rowsV_map hf h.2⟩
  | [], _ :: _, h => h.elim
  | _ :: _, [], h => h.elim
end Go.Proofs.Ytmbdlnimegdigaa
