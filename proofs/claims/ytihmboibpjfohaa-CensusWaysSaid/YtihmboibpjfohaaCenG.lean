/-
  search of flow: what it holds, its step; walked.
-/
import Derived.Test.YtihmboibpjfohaaCenF
import Derived.Test.YtihmboibpjfohaaStrO
namespace Go.Proofs.Ytihmboibpjfohaa
open Go.RowKit

theorem keyed_int : Maps.Keyed Try.prog 3 := Maps.int_keyed Try.underlying3
theorem zero_move (w : World) : (zeroValue 85).run Try.prog w = .ok (enM ⟨0, false⟩) w := by
  obtain ⟨i, hi, h0, _, _⟩ := info_parts (show (Try.prog.info? 85).map (fun i => (i.zero, i.size, i.bytes)) = some (some (.agg #[.int .i64 0, .bool false]), 2, 16) by kernel_rfl)
  simp [zeroValue, typeInfo, hi, h0]
  rfl
theorem ei_int : ∃ i z, Try.prog.info? 3 = some i ∧ i.zero = some z ∧ i.size = 1 ∧ z.cells.size = 1 ∧ i.bytes ≤ 8 := by
  obtain ⟨i, hi, h0, h1, h2⟩ := info_parts (show (Try.prog.info? 3).map (fun i => (i.zero, i.size, i.bytes)) = some (some (.int .i64 0), 1, 8) by kernel_rfl)
  exact ⟨i, _, hi, h0, h1, rfl, by omega⟩
/-- where search keeps its things -/
structure Pl where
  lo : Nat
  gl : Nat
  gf : Nat
  b : Nat
  gm : Nat
  go : Nat
/-- what search holds in memory, from block lo on -/
structure St (p : Pl) (es : List Ed) (f : List Int) (A : Option Addr) (n c : Nat) (F : Option Addr) (c2 : Nat) (w : World) (g : Int → Option Mv) (q : List Int) (nm : Nat) : Prop where
  bl : Blk w p.gl 66 #[.slice A n c]
  bf : Blk w p.gf 42 #[.slice F n c2]
  mp : MapV Try.prog 3 enM w p.b nm g
  bm : Blk w p.gm 82 #[.map (some p.b)]
  bo : ∃ vq, Blk w p.go 42 #[vq] ∧ OwnQ w p.lo 3 vq q.length (q.map (Value.int .i64))
  rl : Strs Ed.cells 4 w p.lo A n es
  rf : Ints w p.lo F n f
  ne : p.go ≠ p.gf
  lob : p.lo ≤ p.b
  log : p.lo ≤ p.go
  low : p.lo ≤ w.heap.size
theorem own_apart {w : World} {v : Value} {m : Nat} {xs : List Value} {base : Nat} (hq : OwnQ w base 3 v m xs) {k : Nat} {t : TypeId} {cs : Array Value} (hb : Blk w k t cs) (ht : t ≠ 3) : v.ownBlock ≠ some k := by
  obtain ⟨_, g, p, cap, cur, rfl, _, hg, _⟩ := hq
  intro e
  have e1 : g = k := Option.some.inj e
  subst e1
  have h2 := hg.symm.trans hb
  simp only [Option.some.injEq, Obj.cells.injEq] at h2
  exact ht h2.2.1.symm
theorem map_apart {w : World} {b n : Nat} {g : Int → Option Mv} (hm : MapV Try.prog 3 enM w b n g) {k : Nat} {t : TypeId} {cs : Array Value} (hb : Blk w k t cs) : k ≠ b := by
  obtain ⟨D, ⟨es, clock, h1, _⟩, _⟩ := hm
  rintro rfl
  have h2 := hb.symm.trans h1
  cases h2
theorem own_map {w : World} {v : Value} {m : Nat} {xs : List Value} {base : Nat} (hq : OwnQ w base 3 v m xs) {b n : Nat} {g : Int → Option Mv} (hm : MapV Try.prog 3 enM w b n g) : v.ownBlock ≠ some b := by
  obtain ⟨_, g, p, cap, cur, rfl, _, hg, _⟩ := hq
  obtain ⟨D, ⟨es, clock, h1, _⟩, _⟩ := hm
  intro e
  have e1 : g = b := Option.some.inj e
  subst e1
  have h2 := hg.symm.trans h1
  cases h2
theorem blk_apart {w : World} {k k' : Nat} {t t' : TypeId} {cs cs' : Array Value} (h : Blk w k t cs) (h' : Blk w k' t' cs') (ht : t ≠ t') : k ≠ k' := by
  rintro rfl
  have h2 := h.symm.trans h'
  simp only [Option.some.injEq, Obj.cells.injEq] at h2
  exact ht h2.2.1
/-- blocks that the step leaves as they are -/
def Keep (p : Pl) (w w' : World) : Prop := ∀ (k : Nat) (t : TypeId) (cs : Array Value), Blk w k t cs → t ≠ 3 → k ≠ p.go → Blk w' k t cs
theorem Keep.of_below {p : Pl} {w w' : World} (h : Below w.heap.size w w') : Keep p w w' := fun _ _ _ hb _ _ => hb.below h hb.lt
theorem Keep.trans {p : Pl} {a b c : World} (h : Keep p a b) (h' : Keep p b c) : Keep p a c := fun k t cs hb ht hn => h' k t cs (h k t cs hb ht hn) ht hn
section
variable {p : Pl} {n c c2 nm : Nat} {es : List Ed} {f : List Int} {A F : Option Addr} {w w' : World} {g : Int → Option Mv} {q : List Int}
theorem St.now (h : St p es f A n c F c2 w g q nm) (hb : Below w.heap.size w w') : St p es f A n c F c2 w' g q nm := by
  obtain ⟨vq, h1, h2⟩ := h.bo
  exact ⟨h.bl.below hb h.bl.lt, h.bf.below hb h.bf.lt, h.mp.below hb h.mp.lt, h.bm.below hb h.bm.lt, ⟨vq, h1.below hb h1.lt, h2.below hb (Nat.le_refl _)⟩, h.rl.below (hb.mono h.low), h.rf.below (hb.mono h.low), h.ne, h.lob, h.log, Nat.le_trans h.low hb.size⟩
theorem St.put (h : St p es f A n c F c2 w g q nm) {x : Int} {m : Mv} (hm : MapV Try.prog 3 enM w' p.b (nm + 1) (putF g x m)) (hg : w.grownBy w' (some p.b)) : St p es f A n c F c2 w' (putF g x m) q (nm + 1) ∧ Below p.lo w w' ∧ Keep p w w' := by
  obtain ⟨vq, h1, h2⟩ := h.bo
  have hk : ∀ k, k < w.heap.size → k ≠ p.b → w'.heap[k]? = w.heap[k]? := fun k h1 h2 => hg.block k h1 (fun e => h2 (Option.some.inj e))
  have hbl : ∀ {k : Nat} {t : TypeId} {cs : Array Value}, Blk w k t cs → Blk w' k t cs := fun hb => (hk _ hb.lt (map_apart h.mp hb)).trans hb
  have hlob := h.lob
  have hlow := h.low
  have hbel : Below p.lo w w' := ⟨hg.os, hg.tape, hg.output, hg.size, fun k hk' => hk k (by omega) (by omega)⟩
  exact ⟨⟨hbl h.bl, hbl h.bf, hm, hbl h.bm, ⟨vq, hbl h1, h2.grown hg (own_map h2 h.mp)⟩, h.rl.below hbel, h.rf.below hbel, h.ne, h.lob, h.log, Nat.le_trans h.low hg.size⟩, hbel, fun _ _ _ hb _ _ => hbl hb⟩
/-- open is stored anew -/
theorem St.stored (h : St p es f A n c F c2 w g q nm) {q' : List Int} {v5 : Value} (hq : OwnQ w p.lo 3 v5 q'.length (q'.map (Value.int .i64))) : St p es f A n c F c2 (w.setCell ⟨p.go, 0, none⟩ v5) g q' nm ∧ Below p.lo w (w.setCell ⟨p.go, 0, none⟩ v5) := by
  obtain ⟨vq, h1, h2⟩ := h.bo
  have hbel : Below p.lo w (w.setCell ⟨p.go, 0, none⟩ v5) := (Below.refl _ _).setCell h.log _
  obtain ⟨g5, hv5, _, hlt5⟩ := hq.block
  have hap := own_apart hq h1 (by decide)
  refine ⟨⟨h.bl.far (blk_apart h.bl h1 (by decide)) _, h.bf.far (Ne.symm h.ne) _, h.mp.far (Ne.symm (map_apart h.mp h1)) _, h.bm.far (blk_apart h.bm h1 (by decide)) _, ⟨v5, h1.set1 _, hq.same (w' := w.setCell ⟨p.go, 0, none⟩ v5) hv5 (Below.heap_setCell _ _ _ _ (by rw [hv5] at hap; intro e; exact hap (by rw [e])))⟩, h.rl.below hbel, h.rf.below hbel, h.ne, h.lob, h.log, Nat.le_trans h.low hbel.size⟩, hbel⟩
/-- something is appended to open -/
theorem St.pushed (h : St p es f A n c F c2 w g q nm) {x : Int} {gq : Nat} {vq v5 : Value} {w1 w5 : World} (hw1 : Below w.heap.size w w1) (hvq : Blk w p.go 42 #[vq]) (hoq : OwnQ w p.lo 3 vq q.length (q.map (Value.int .i64))) (hvg : vq.ownBlock = some gq) (hg : w1.grownBy w5 (some gq)) (hq : OwnQ w5 p.lo 3 v5 (q.length + 1) (q.map (Value.int .i64) ++ [.int .i64 x])) :
    St p es f A n c F c2 (w5.setCell ⟨p.go, 0, none⟩ v5) g (q ++ [x]) nm ∧ Below p.lo w (w5.setCell ⟨p.go, 0, none⟩ v5) ∧ Blk w5 p.go 42 #[vq] ∧ Keep p w (w5.setCell ⟨p.go, 0, none⟩ v5) := by
  have hlow := h.low
  obtain ⟨gq', hv', hgq, hgl⟩ := hoq.block
  obtain rfl : gq = gq' := Option.some.inj (hvg.symm.trans hv')
  have hk : ∀ k, k < w.heap.size → k ≠ gq → w5.heap[k]? = w.heap[k]? := fun k h1 h2 => (hg.block k (by have := hw1.size; omega) (fun e => h2 (Option.some.inj e))).trans (hw1.block k h1)
  have hap : ∀ {k : Nat} {t : TypeId} {cs : Array Value}, Blk w k t cs → t ≠ 3 → k ≠ gq := fun hb ht e => own_apart hoq hb ht (by rw [hvg, e])
  have hbl : ∀ {k : Nat} {t : TypeId} {cs : Array Value}, Blk w k t cs → t ≠ 3 → Blk w5 k t cs := fun hb ht => (hk _ hb.lt (hap hb ht)).trans hb
  have hbel0 : Below p.lo w w5 := ⟨hg.os.trans hw1.os, hg.tape.trans hw1.tape, hg.output.trans hw1.output, Nat.le_trans hw1.size hg.size, fun k hk' => hk k (by omega) (by omega)⟩
  have hmb : p.b ≠ gq := fun e => own_map hoq h.mp (by rw [hvg, e])
  have hgo := hbl hvq (by decide)
  have hap5 := own_apart hq hgo (by decide)
  have hbel : Below p.lo w (w5.setCell ⟨p.go, 0, none⟩ v5) := hbel0.setCell h.log _
  obtain ⟨g5, hv5, _, hlt5⟩ := hq.block
  have hbl5 := hbl h.bl (by decide)
  have hbm5 := hbl h.bm (by decide)
  have hmp5 := h.mp.same (hk _ h.mp.lt hmb)
  refine ⟨⟨hbl5.far (blk_apart hbl5 hgo (by decide)) _, (hbl h.bf (by decide)).far (Ne.symm h.ne) _, hmp5.far (Ne.symm (map_apart hmp5 hgo)) _, hbm5.far (blk_apart hbm5 hgo (by decide)) _, ⟨v5, hgo.set1 _, ?_⟩, h.rl.below hbel, h.rf.below hbel, h.ne, h.lob, h.log, Nat.le_trans h.low hbel.size⟩, hbel, hgo, fun _ _ _ hb ht hne => (hbl hb ht).far hne _⟩
  have h6 := hq.same (w' := w5.setCell ⟨p.go, 0, none⟩ v5) hv5 (Below.heap_setCell _ _ _ _ (by rw [hv5] at hap5; intro e; exact hap5 (by rw [e])))
  rw [List.length_append, List.map_append]
  exact h6
end
end Go.Proofs.Ytihmboibpjfohaa
