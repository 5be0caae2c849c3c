/-
  Letters in memory.
-/
import Derived.Test.YtedeggjefnpjgaaDvF
import Derived.Test.YtedeggjefnpjgaaDvL
namespace Go.Proofs.Ytedeggjefnpjgaa
open Go.RowKit

structure Lt where
  fr : Int
  to_ : Int
  bd : List UInt8
def lt0 : Lt := ⟨0, 0, []⟩
/-- a slice of bytes -/
def BytV (w : World) (B : Nat) (v : Value) (r : List UInt8) : Prop := ∃ a c, v = .slice a r.length c ∧ r.length ≤ c ∧ c ≤ maxLen ∧ Bytes w B a r.length r
section
variable {w w' : World} {B B' : Nat} {v : Value} {r : List UInt8}
theorem BytV.keep (h : BytV w B v r) (hk : ∀ p : Addr, p.block < B → w'.cell? p = w.cell? p) : BytV w' B v r := by
  obtain ⟨a, c, e, h1, h2, h3⟩ := h
  exact ⟨a, c, e, h1, h2, h3.keep hk⟩
theorem BytV.more (h : BytV w B v r) (hB : B ≤ B') : BytV w B' v r := by
  obtain ⟨a, c, e, h1, h2, h3⟩ := h
  exact ⟨a, c, e, h1, h2, h3.more hB⟩
theorem BytV.below (h : BytV w B v r) (hb : Below B w w') : BytV w' B v r := h.keep fun _ hp => hb.cell hp
theorem BytV.now {w w' : World} {v : Value} {r : List UInt8} (h : BytV w w.heap.size v r) (hb : Below w.heap.size w w') : BytV w' w'.heap.size v r := (h.below hb).more hb.size
theorem BytV.nam (h : BytV w B v r) : ∃ A n c, v = .slice A n c ∧ Hid (r.length = n) ∧ n ≤ c ∧ c ≤ maxLen ∧ Bytes w B A n r := by
  obtain ⟨A, c, rfl, h1, h2, h3⟩ := h
  exact ⟨A, _, c, rfl, hide rfl, h1, h2, h3⟩
theorem BytV.one (h : BytV w B v r) : v.oneCell' = true := by obtain ⟨A, c, rfl, _⟩ := h; rfl
end
/-- the cells of a letter whose body is the slice z -/
def Lt.cells (b : Lt) (z : Value) : List Value := [.int .i64 b.fr, .int .i64 b.to_, z]
/-- a slice of letters -/
def Lts (w : World) (B : Nat) (A : Option Addr) (n : Nat) (bs : List Lt) : Prop :=
  ∃ zs : List Value, zs.length = n ∧ bs.length = n ∧ Reads w B 3 A n (List.zipWith Lt.cells bs zs).flatten ∧ ∀ (i : Nat) (b : Lt) (z : Value), bs[i]? = some b → zs[i]? = some z → BytV w B z b.bd
section
variable {w w' : World} {B B' n : Nat} {A : Option Addr} {bs : List Lt}
theorem Lts.len (h : Lts w B A n bs) : bs.length = n := by obtain ⟨_, _, h, _⟩ := h; exact h
theorem Lts.keep (h : Lts w B A n bs) (hk : ∀ p : Addr, p.block < B → w'.cell? p = w.cell? p) : Lts w' B A n bs := by
  obtain ⟨zs, h1, h2, h3, h4⟩ := h
  exact ⟨zs, h1, h2, h3.keep hk, fun i b z hb hz => (h4 i b z hb hz).keep hk⟩
theorem Lts.more (h : Lts w B A n bs) (hB : B ≤ B') : Lts w B' A n bs := by
  obtain ⟨zs, h1, h2, h3, h4⟩ := h
  exact ⟨zs, h1, h2, h3.more hB, fun i b z hb hz => (h4 i b z hb hz).more hB⟩
theorem Lts.below (h : Lts w B A n bs) (hb : Below B w w') : Lts w' B A n bs := h.keep fun _ hp => hb.cell hp
theorem Lts.now {w w' : World} {n : Nat} {A : Option Addr} {bs : List Lt} (h : Lts w w.heap.size A n bs) (hb : Below w.heap.size w w') : Lts w' w'.heap.size A n bs := (h.below hb).more hb.size
theorem Lts.nil (w : World) (B : Nat) : Lts w B none 0 [] := ⟨[], rfl, rfl, Reads.empty, by simp⟩
theorem zipL_len (bs : List Lt) (zs : List Value) : ∀ r ∈ List.zipWith Lt.cells bs zs, r.length = 3 := by
  intro r hr
  obtain ⟨i, hi, rfl⟩ := List.getElem_of_mem hr
  simp [Lt.cells]
/-- the element k -/
theorem Lts.at_ {k : Nat} (h : Lts w B A n bs) (hk : k < n) : ∃ (ad : Addr) (z : Value), A = some ad ∧ ad.block < B ∧ (∀ j u, ((bs.getD k lt0).cells z)[j]? = some u → w.cell? ((ad.add (k * 3)).add j) = some u) ∧ BytV w B z (bs.getD k lt0).bd := by
  obtain ⟨zs, h1, h2, h3, h4⟩ := h
  obtain ⟨ad, e, hb, hc⟩ := h3.2 (by omega)
  have e1 : bs.getD k lt0 = bs[k]'(by omega) := by simp [List.getElem?_eq_getElem (show k < bs.length by omega)]
  rw [e1]
  refine ⟨ad, zs[k]'(by omega), e, hb, fun j u hu => ?_, h4 k _ _ (List.getElem?_eq_getElem (by omega)) (List.getElem?_eq_getElem (by omega))⟩
  rw [add_of_add]
  refine hc _ u ?_
  have hj : j < 3 := by
    have := (List.getElem?_eq_some_iff.1 hu).1
    simpa [Lt.cells] using this
  rw [flat_at 3 _ (zipL_len bs zs) k j hj, List.getElem?_zipWith, List.getElem?_eq_getElem (show k < bs.length by omega), List.getElem?_eq_getElem (show k < zs.length by omega)]
  exact hu
end
theorem lt_take (l : List Lt) (k : Nat) (h : k < l.length) : l.take (k + 1) = l.take k ++ [l.getD k lt0] := by
  rw [List.take_succ_eq_append_getElem h]
  simp [List.getElem?_eq_getElem h]
theorem row_blk {w : World} {base : Nat} {e : TypeId} {size n : Nat} {v : Value} {xs : List Value} (h : w.ownsRow base e size v n xs) {k : Nat} {t : TypeId} {cs : Array Value} (hb : Blk w k t cs) (ht : t ≠ e) : v.ownBlock ≠ some k := by
  rcases h.2 with ⟨rfl, _⟩ | ⟨g, cap, cur, rfl, _, hg, _⟩
  · simp [Value.ownBlock]
  · intro e0
    have e1 : g = k := Option.some.inj e0
    subst e1
    have h2 := hg.symm.trans hb
    simp only [Option.some.injEq, Obj.cells.injEq] at h2
    exact ht h2.2.1.symm
theorem ei_lt : EInfo Try.prog 25 58 3 40 := EInfo.mk' Try.underlying25 (z := .agg #[.int .i64 0, .int .i64 0, .slice none 0 0]) (by kernel_rfl) rfl (by omega)
/-- a slice of letters of the call's own -/
def OwnLt (w : World) (base : Nat) (v : Value) (l : List Lt) : Prop :=
  ∃ zs : List Value, zs.length = l.length ∧ w.ownsRow base 58 3 v l.length (List.zipWith Lt.cells l zs).flatten ∧ ∀ (i : Nat) (b : Lt) (z : Value), l[i]? = some b → zs[i]? = some z → BytV w base z b.bd
theorem OwnLt.nil (w : World) (base : Nat) : OwnLt w base (.slice none 0 0) [] := ⟨[], rfl, World.ownsRow_nil _ _ _ _, fun i b z h => by cases h⟩
theorem OwnLt.nam {w : World} {base : Nat} {v : Value} {l : List Lt} (h : OwnLt w base v l) (hB : base ≤ w.heap.size) : ∃ A n c, v = .slice A n c ∧ Hid (l.length = n) ∧ n ≤ c ∧ c ≤ maxLen ∧ Lts w w.heap.size A n l := by
  obtain ⟨zs, h1, h2, h3⟩ := h
  obtain ⟨A, c, rfl, k1, k2, k3⟩ := own_open h2
  exact ⟨A, _, c, rfl, hide rfl, k1, k2, zs, h1, rfl, k3, fun i b z hb hz => (h3 i b z hb hz).more hB⟩
theorem OwnLt.now {w w' : World} {base : Nat} {v : Value} {l : List Lt} (h : OwnLt w base v l) (hB : base ≤ w.heap.size) (hb : Below w.heap.size w w') : OwnLt w' base v l := by
  obtain ⟨zs, h1, h2, h3⟩ := h
  exact ⟨zs, h1, own_below h2 hb (Nat.le_refl _), fun i b z hi hz => (h3 i b z hi hz).below (hb.mono hB)⟩
theorem zipL_snoc {l : List Lt} {zs : List Value} (h : zs.length = l.length) (t : Lt) (z : Value) : (List.zipWith Lt.cells (l ++ [t]) (zs ++ [z])).flatten = (List.zipWith Lt.cells l zs).flatten ++ t.cells z := by
  rw [List.zipWith_append h.symm]
  simp
/-- what is known of a row that grows -/
theorem OwnLt.parts {w : World} {base n : Nat} {v : Value} {l : List Lt} (h : OwnLt w base v l) (hn : l.length = n) : ∃ xs, w.ownsRow base 58 3 v n xs ∧ ∀ (w' : World) (v' : Value) (t : Lt) (z : Value), w'.ownsRow base 58 3 v' (n + 1) (xs ++ t.cells z) → Below base w w' → BytV w base z t.bd → OwnLt w' base v' (l ++ [t]) := by
  subst hn
  obtain ⟨zs, h1, h2, h3⟩ := h
  refine ⟨_, h2, fun w' v' t z ho hr hz => ⟨zs ++ [z], by simp [h1], ?_, fun i b z' hb hz' => ?_⟩⟩
  · rw [zipL_snoc h1, List.length_append]
    exact ho
  · rcases Nat.lt_or_ge i l.length with hi | hi
    · rw [List.getElem?_append_left hi] at hb
      rw [List.getElem?_append_left (by omega)] at hz'
      exact (h3 i b z' hb hz').below hr
    · rw [List.getElem?_append_right hi] at hb
      rw [List.getElem?_append_right (by omega), h1] at hz'
      cases hj : i - l.length with
      | zero =>
        rw [hj] at hb hz'
        simp at hb hz'
        subst hb hz'
        exact hz.below hr
      | succ j => rw [hj] at hb; simp at hb

/-- the network: its parts and its letters -/
def NetV (w : World) (B : Nat) (vp vm : Value) (ps : List Int) (ms : List Lt) : Prop := RowV w B vp ps ∧ ∃ A n c, vm = .slice A n c ∧ n ≤ c ∧ c ≤ maxLen ∧ Lts w B A n ms
theorem NetV.now {w w' : World} {vp vm : Value} {ps : List Int} {ms : List Lt} (h : NetV w w.heap.size vp vm ps ms) (hb : Below w.heap.size w w') : NetV w' w'.heap.size vp vm ps ms := by
  obtain ⟨h1, A, n, c, e, h2, h3, h4⟩ := h
  exact ⟨h1.now hb, A, n, c, e, h2, h3, h4.now hb⟩
end Go.Proofs.Ytedeggjefnpjgaa
