/-
  The steps of Find's two ways back, in the words of the flow.
-/
import Derived.Test.YtihmboibpjfohaaCenK
import Derived.Test.YtihmboibpjfohaaFlsN
namespace Go.Proofs.Ytihmboibpjfohaa
open Go.RowKit

/-- what Find holds in memory -/
structure FS (es : List Ed) (A : Option Addr) (n c lo g2 g3 gF : Nat) (f : List Int) (w : World) : Prop where
  b2 : Blk w g2 66 #[.slice A n c]
  b3 : Blk w g3 42 #[.slice (some ⟨gF, 0, none⟩) n n]
  own : OwnG 3 w lo gF n n f
  strs : Strs Ed.cells 4 w lo A n es
  low : lo ≤ w.heap.size
section
variable {es : List Ed} {A : Option Addr} {n c lo g2 g3 gF : Nat} {f f' : List Int} {w w' : World}
theorem FS.below (h : FS es A n c lo g2 g3 gF f w) (hb : Below w.heap.size w w') : FS es A n c lo g2 g3 gF f w' :=
  ⟨h.b2.below hb h.b2.lt, h.b3.below hb h.b3.lt, own_below h.own hb (Nat.le_refl _), h.strs.below (hb.mono h.low), Nat.le_trans h.low hb.size⟩
theorem FS.grown (h : FS es A n c lo g2 g3 gF f w) {k : Nat} (hg : w.grownBy w' (some k)) (h2 : g2 ≠ k) (h3 : g3 ≠ k) (hF : gF ≠ k) (hk : lo ≤ k) : FS es A n c lo g2 g3 gF f w' :=
  ⟨h.b2.grown hg (fun e => h2 (Option.some.inj e)), h.b3.grown hg (fun e => h3 (Option.some.inj e)), World.ownsRow.kept h.own hg (.inr (fun e => hF (Option.some.inj e))), h.strs.below (below_grown hg h.low hk), Nat.le_trans h.low hg.size⟩
theorem FS.push (h : FS es A n c lo g2 g3 gF f w) (hg : w.grownBy w' (some gF)) (ho : OwnG 3 w' lo gF n n f') (h2 : g2 ≠ gF) (h3 : g3 ≠ gF) (hk : lo ≤ gF) : FS es A n c lo g2 g3 gF f' w' :=
  ⟨h.b2.grown hg (fun e => h2 (Option.some.inj e)), h.b3.grown hg (fun e => h3 (Option.some.inj e)), ho, h.strs.below (below_grown hg h.low hk), Nat.le_trans h.low hg.size⟩
theorem FS.ints (h : FS es A n c lo g2 g3 gF f w) : Ints w w.heap.size (some ⟨gF, 0, none⟩) n f := Reads.of_own h.own
end
/-- the first way back: more is at most what each move passed can carry -/
def J1 (es : List Ed) (A : Option Addr) (n c lo g1 g2 g3 gF : Nat) (f : List Int) (g : Int → Option Mv) (t : Int) (k : Nat) (w : World) : Prop :=
  FS es A n c lo g2 g3 gF f w ∧ ∃ x, Blk w g1 3 #[.int .i64 x] ∧ 0 < x ∧ x ≤ 1000000 ∧ ∀ k', k' < k → ∀ m, g (chainN es g k' t) = some m → x ≤ roomN es f m
/-- the second way back -/
def J2 (es : List Ed) (A : Option Addr) (n c lo g1 g2 g3 gF : Nat) (f : List Int) (g : Int → Option Mv) (seen : List Int) (s t x : Int) (k : Nat) (w : World) : Prop :=
  Blk w g1 3 #[.int .i64 x] ∧ (∀ k', k' < k → chainN es g k' t ≠ s) ∧ ∃ (j : Nat) (f' : List Int), j < seen.length ∧ seen.getD j 0 = chainN es g k t ∧ PuI es f seen t x j f' ∧ FS es A n c lo g2 g3 gF f' w
section
variable {es : List Ed} {A : Option Addr} {n c lo g1 g2 g3 gF : Nat} {f : List Int} {g : Int → Option Mv} {seen : List Int} {s t x : Int} {k : Nat} {w w' : World}
theorem J1.below (h : J1 es A n c lo g1 g2 g3 gF f g t k w) (hb : Below w.heap.size w w') : J1 es A n c lo g1 g2 g3 gF f g t k w' := by
  obtain ⟨h1, x, h2, h3⟩ := h
  exact ⟨h1.below hb, x, h2.below hb h2.lt, h3⟩
theorem J2.below (h : J2 es A n c lo g1 g2 g3 gF f g seen s t x k w) (hb : Below w.heap.size w w') : J2 es A n c lo g1 g2 g3 gF f g seen s t x k w' := by
  obtain ⟨h1, h2, j, f', h3, h4, h5, h6⟩ := h
  exact ⟨h1.below hb h1.lt, h2, j, f', h3, h4, h5, h6.below hb⟩
theorem move_at (hS : SrI es f s g seen) {y : Int} {m : Mv} (hm : g y = some m) (hy : y ≠ s) : ∃ j i, i < j ∧ j < seen.length ∧ seen.getD j 0 = y ∧ m.edge < es.length ∧ mvTo es m = y ∧ mvFrom es m = seen.getD i 0 ∧ 0 < roomN es f m := by
  obtain ⟨j, hj, hjy⟩ := mem_getD ((hS.dom y).1 (by rw [hm]; simp))
  obtain ⟨m', i, h1, h2, h3, h4, h5, h6⟩ := hS.find_ hj (by rw [hjy]; exact hy)
  rw [hjy, hm] at h2
  obtain rfl := Option.some.inj h2
  exact ⟨j, i, h1, hj, hjy, h3, by rw [h4, hjy], h5, h6⟩
theorem room_le (hf : IsFlow es f s t) (hB : Bnd es f) {m : Mv} (hm : m.edge < es.length) : roomN es f m ≤ 1000000 := by
  have h1 := hB.bnd m.edge hm
  unfold roomN
  split
  · have : (es.getD m.edge ⟨0, 0, 0, 0⟩).cst = (es.getD m.edge ed0).cst := rfl
    omega
  · omega
theorem least_step (hl : es.length = n) (hc : n ≤ c) (hc2 : c ≤ maxLen) (hB : Bnd es f) (hS : SrI es f s g seen) (h1F : gF ≠ g1) (h12 : g2 ≠ g1) (h13 : g3 ≠ g1) (hlo : lo ≤ g1)
    (m : Mv) (hJ : J1 es A n c lo g1 g2 g3 gF f g t k w) (hne : chainN es g k t ≠ s) (hg : g (chainN es g k t) = some m) (hm : m.edge < n) :
    Calls Try.prog 59 #[enM m, .pointer (some ⟨g1, 0, none⟩), .pointer (some ⟨g2, 0, none⟩), .pointer (some ⟨g3, 0, none⟩)] w fun e w' => e = .returned (.tuple #[]) ∧ J1 es A n c lo g1 g2 g3 gF f g t (k + 1) w' ∧ w.grownBy w' (some g1) := by
  obtain ⟨hF, x, hx, h0, h1, h2⟩ := hJ
  obtain ⟨j, i, _, _, _, _, _, _, hpos⟩ := move_at hS hg hne
  refine (least_any A (some ⟨gF, 0, none⟩) n c n es f m x (if roomN es f m < x then roomN es f m else x) g1 g2 g3 w (hF.strs.more hF.low) hl hc hc2 hF.ints (Nat.le_refl _) (by omega) hB hm hx hF.b2 hF.b3 rfl).mono ?_
  rintro e w' ⟨he, hb, hgr⟩
  refine ⟨he, ⟨hF.grown hgr h12 h13 h1F hlo, _, hb, by split <;> omega, by split <;> omega, fun k' hk' m' hm' => ?_⟩, hgr⟩
  rcases Nat.eq_or_lt_of_le (Nat.le_of_lt_succ hk') with rfl | hk'
  · rw [hg] at hm'
    obtain rfl := Option.some.inj hm'
    split <;> omega
  · have := h2 k' hk' m' hm'
    split <;> omega
theorem push_step (hl : es.length = n) (hn : n ≤ maxLen) (hcost : ∀ i, i < es.length → (es.getD i edZ).cst ≤ 1000000) (hS : SrI es f s g seen) (hx0 : 0 < x) (hx1 : x ≤ 1000000) (K : Nat) (hK : chainN es g K t = s) (hKl : ∀ k', k' < K → ∀ m, g (chainN es g k' t) = some m → x ≤ roomN es f m) (h1F : g1 ≠ gF) (h2F : g2 ≠ gF) (h3F : g3 ≠ gF) (hlo : lo ≤ gF)
    (m : Mv) (hJ : J2 es A n c lo g1 g2 g3 gF f g seen s t x k w) (hne : chainN es g k t ≠ s) (hg : g (chainN es g k t) = some m) (hm : m.edge < n) :
    Calls Try.prog 60 #[enM m, .pointer (some ⟨g3, 0, none⟩), .pointer (some ⟨g1, 0, none⟩)] w fun e w' => e = .returned (.tuple #[]) ∧ J2 es A n c lo g1 g2 g3 gF f g seen s t x (k + 1) w' ∧ w.grownBy w' (some gF) := by
  obtain ⟨h1, h2, j, f', h3, h4, h5, h6⟩ := hJ
  obtain ⟨j', i, hij, hj', hjy, _, hto, hfr, hpos⟩ := move_at hS hg hne
  obtain rfl : j' = j := nodup_at hS.nodup hj' h3 (by rw [hjy, h4])
  have hml : m.edge < es.length := by rw [hl]; exact hm
  have hb := h5.bnd m.edge hml
  have hcm := hcost m.edge hml
  refine (push_any gF n n g1 g3 lo f' m x w h6.own hn (Nat.le_refl _) hm h1 h6.b3 ⟨by omega, hx1⟩ ⟨by omega, by omega⟩ h1F).mono ?_
  rintro e w' ⟨he, ho, hgr⟩
  have hkK : k < K := by
    rcases Nat.lt_or_ge k K with h | h
    · exact h
    · rcases Nat.eq_or_lt_of_le h with rfl | h
      · exact absurd hK hne
      · exact absurd hK (h2 K h)
  refine ⟨he, ⟨h1.grown hgr (fun e => h1F (Option.some.inj e)), fun k' hk' => ?_, i, _, by omega, by rw [chain_next hg, hfr], h5.step hS.nodup hij h3 hml (by rw [hto, h4]) hfr hx0 (hKl k hkK m hg), h6.push hgr ho h2F h3F hlo⟩, hgr⟩
  rcases Nat.eq_or_lt_of_le (Nat.le_of_lt_succ hk') with rfl | hk'
  · exact hne
  · exact h2 k' hk'
end
end Go.Proofs.Ytihmboibpjfohaa
