/-
  uplink.Receive: a ride that is there already, walked.
-/
import Derived.Test.YtedeggjefnpjgaaDivY
namespace Go.Proofs.Ytedeggjefnpjgaa
open Go.RowKit

/-- two slices that share no memory -/
def NEr (u v : Value) : Prop := ∀ k, u.ownBlock = some k → v.ownBlock ≠ some k
/-- an inbox and the number before its next one -/
def RcR (g kx : Int) (G E : List Rd) (w : World) (e : Ending) (w' : World) : Prop := ∃ vg ve, e = .returned (.tuple #[.agg #[.int .i64 g, .int .i64 kx, vg, ve], .int .i64 (kx - 1)]) ∧ OwnRd w' 0 vg G ∧ OwnRd w' 0 ve E ∧ Below w.heap.size w w'
set_option maxRecDepth 100000 in
set_option maxHeartbeats 16000000 in
theorem recv_old (kx : Int) (gA : Option Addr) (gn gc : Nat) (eA : Option Addr) (en ec : Nat) (G E : List Rd) (r : Rd) (w : World) (hg : Strs Rd.cells 7 w w.heap.size gA gn G) (hgl : G.length = gn) (hgn : gn ≤ 1000) (he : Strs Rd.cells 7 w w.heap.size eA en E) (hel : E.length = en) (hen : en ≤ 1000) (hkx : 1 ≤ kx ∧ kx ≤ 1000) (hlt : r.seq < kx) :
    Calls Try.prog 22 #[.agg #[.int .i64 r.gate, .int .i64 kx, .slice gA gn gc, .slice eA en ec], r.val] w (RcR r.gate kx G E w) := by
  have HCg : Hid (∀ W, Below w.heap.size w W → Calls Try.prog 34 #[.slice gA gn gc] W fun e w' => ∃ v, e = .returned v ∧ OwnRd w' W.heap.size v G ∧ Below W.heap.size W w') := fun W h => clone_rd gA gn gc W.heap.size G W (hg.now h) hgl (by omega) (Nat.le_refl _)
  have HCe : Hid (∀ W, Below w.heap.size w W → Calls Try.prog 34 #[.slice eA en ec] W fun e w' => ∃ v, e = .returned v ∧ OwnRd w' W.heap.size v E ∧ Below W.heap.size W w') := fun W h => clone_rd eA en ec W.heap.size E W (he.now h) hel (by omega) (Nat.le_refl _)
  have HLg := Lib.hid hgl
  have HLe := Lib.hid hel
  have HFin : Hid (∀ vg ve w', OwnRd w' 0 vg G → OwnRd w' 0 ve E → Below w.heap.size w w' → RcR r.gate kx G E w (.returned (.tuple #[.agg #[.int .i64 r.gate, .int .i64 kx, vg, ve], .int .i64 (kx - 1)])) w') := fun vg ve w' h1 h2 h3 => ⟨vg, ve, rfl, h1, h2, h3⟩
  have htt : True := trivial
  generalize RcR r.gate kx G E w = RR at *
  obtain ⟨gate, seq, ser, cnt, prod, lift, att⟩ := r
  obtain ⟨hkx0, hkx1⟩ := hkx
  simp only at *
  clear hg hgl he hel
  go_enter Try.func22, Try.ntmps22
  go_upto_region 1 with (fail)
  have hwz : (w.alloc (Obj.cells #[Value.int .i64 gate, Value.int .i64 kx, Value.slice gA gn gc, Value.slice eA en ec] 32)).heap.size = w.heap.size + 1 := by simp
  obtain ⟨w0, hw0⟩ : ∃ W, w.alloc (Obj.cells #[Value.int .i64 gate, Value.int .i64 kx, Value.slice gA gn gc, Value.slice eA en ec] 32) = W := ⟨_, rfl⟩
  rw [hw0] at hwz ⊢
  have HX0 : Hid (Blk w0 w.heap.size 32 #[.int .i64 gate, .int .i64 kx, .slice gA gn gc, .slice eA en ec]) := hide (by rw [← hw0]; exact Blk.new w _ _)
  have HB0 : Hid (Below w.heap.size w w0) := hide (by rw [← hw0]; exact below_new w _)
  have hwz' : (w0.alloc (Obj.cells #[Value.int .i64 gate, Value.int .i64 seq, Value.int .i64 ser, Value.int .i64 cnt, Value.int .i64 prod, Value.int .i64 lift, Value.int .i64 att] 55)).heap.size = w.heap.size + 2 := by simp [hwz]
  obtain ⟨wa, hwa⟩ : ∃ W, w0.alloc (Obj.cells #[Value.int .i64 gate, Value.int .i64 seq, Value.int .i64 ser, Value.int .i64 cnt, Value.int .i64 prod, Value.int .i64 lift, Value.int .i64 att] 55) = W := ⟨_, rfl⟩
  rw [hwa] at hwz' ⊢
  have HTa : Hid (Blk wa (w.heap.size + 1) 55 #[.int .i64 gate, .int .i64 seq, .int .i64 ser, .int .i64 cnt, .int .i64 prod, .int .i64 lift, .int .i64 att]) := hide (by rw [← hwa, ← hwz]; exact Blk.new w0 _ _)
  have hba : Below w0.heap.size w0 wa := by rw [← hwa]; exact below_new w0 _
  have HXa := Lib.hid (HX0.out.below hba (by omega))
  have HBa := Lib.hid (HB0.out.trans (hba.mono HB0.out.size))
  obtain ⟨w1, hw1⟩ : ∃ W, wa.alloc (Obj.cells #[Value.int .i64 0, Value.int .i64 0, Value.slice none 0 0, Value.slice none 0 0] 32) = W := ⟨_, rfl⟩
  rw [hw1]
  have HY1 : Hid (Blk w1 (w.heap.size + 2) 32 #[.int .i64 0, .int .i64 0, .slice none 0 0, .slice none 0 0]) := hide (by rw [← hw1, ← hwz']; exact Blk.new wa _ _)
  have hb1 : Below wa.heap.size wa w1 := by rw [← hw1]; exact below_new wa _
  have HX1 := Lib.hid (HXa.out.below hb1 (by omega))
  have HT1 := Lib.hid (HTa.out.below hb1 (by omega))
  have HB1 := Lib.hid (HBa.out.trans (hb1.mono HBa.out.size))
  have hs1 : w.heap.size + 3 ≤ w1.heap.size := by have := HY1.out.lt; omega
  clear hw0 hwa hw1 hba hb1 hwz hwz' HX0 HB0 HXa HTa HBa
  have x2 : w1.cell? ⟨w.heap.size, 2, none⟩ = some (.slice gA gn gc) := HX1.out.cell 2
  go_wp2_with fail
  with_reducible refine (HCg.out w1 HB1.out).mono ?_
  rintro e w2 ⟨v2, rfl, ho2, hb2⟩
  have HB2 := Lib.hid (HB1.out.trans (hb2.mono HB1.out.size))
  have HX2 := Lib.hid (HX1.out.below hb2 (by omega))
  have HT2 := Lib.hid (HT1.out.below hb2 (by omega))
  have HY2 := Lib.hid (HY1.out.below hb2 (by omega))
  have hs2 : w.heap.size + 3 ≤ w2.heap.size := Nat.le_trans hs1 hb2.size
  have HG2 := Lib.hid (OwnRd.mono ho2 (show w.heap.size + 3 ≤ w1.heap.size from hs1))
  obtain ⟨hA, hn', hc, rfl, HNg, _, _, _⟩ := (OwnRd.strV ho2).nam
  obtain rfl : gn = hn' := by rw [← HLg.out, HNg.out]
  clear ho2 hb2 x2 HX1 HT1 HY1 HB1
  go_upto_region 2 with
    (refine wpList_store_field 28 (.tmp 11) (.tmp 10) rfl rfl w.heap.size 2 (.slice hA gn hc) rfl rfl 32 _ HX2.out (by kernel_rfl) (by simp) rfl rfl ?_
     intro w3 hx3 hon3
     have HX3 : Hid (Blk w3 w.heap.size 32 #[.int .i64 gate, .int .i64 kx, .slice hA gn hc, .slice eA en ec]) := hide hx3
     have HG3 : Hid (OwnRd w3 (w.heap.size + 3) (.slice hA gn hc) G) := hide (hon3.own HG2.out (row_blk HG2.out HX2.out (by decide)))
     have HT3 := Lib.hid (hon3.blk HT2.out (by omega))
     have HY3 := Lib.hid (hon3.blk HY2.out (by omega))
     have HB3 : Hid (Below w.heap.size w w3) := hide (hon3.below HB2.out (by omega))
     have hs3 : w.heap.size + 3 ≤ w3.heap.size := Nat.le_trans hs2 (Nat.le_of_eq hon3.size.symm)
     clear hx3 hon3)
  clear HX2 HG2 HT2 HY2 HB2 HCg
  have x3 : w3.cell? ⟨w.heap.size, 3, none⟩ = some (.slice eA en ec) := HX3.out.cell 3
  go_wp2_with fail
  with_reducible refine (HCe.out w3 HB3.out).mono ?_
  rintro e w4 ⟨v4, rfl, ho4, hb4⟩
  have HB4 := Lib.hid (HB3.out.trans (hb4.mono HB3.out.size))
  have HX4 := Lib.hid (HX3.out.below hb4 (by omega))
  have HT4 := Lib.hid (HT3.out.below hb4 (by omega))
  have HY4 := Lib.hid (HY3.out.below hb4 (by omega))
  have hs4 : w.heap.size + 3 ≤ w4.heap.size := Nat.le_trans hs3 hb4.size
  have HG4 : Hid (OwnRd w4 (w.heap.size + 3) (.slice hA gn hc) G) := hide (own_below HG3.out hb4 (Nat.le_refl _))
  have HE4 := Lib.hid (OwnRd.mono ho4 (show w.heap.size + 3 ≤ w3.heap.size from hs3))
  obtain ⟨fA, fn, fc, rfl, HNf, _, _, _⟩ := (OwnRd.strV ho4).nam
  obtain rfl : en = fn := by rw [← HLe.out, HNf.out]
  have HNE4 : Hid (NEr (.slice hA gn hc) (.slice fA en fc)) := hide (fun k hk hk' => by
    have h1 := (HG3.out.lt k hk).2
    have h2 := (ho4.lt k hk').1
    omega)
  clear ho4 hb4 x3 HX3 HT3 HY3 HB3 HG3
  go_upto_region 3 with
    (refine wpList_store_field 28 (.tmp 15) (.tmp 14) rfl rfl w.heap.size 3 (.slice fA en fc) rfl rfl 32 _ HX4.out (by kernel_rfl) (by simp) rfl rfl ?_
     intro w5 hx5 hon5
     have HX5 : Hid (Blk w5 w.heap.size 32 #[.int .i64 gate, .int .i64 kx, .slice hA gn hc, .slice fA en fc]) := hide hx5
     have HG5 : Hid (OwnRd w5 (w.heap.size + 3) (.slice hA gn hc) G) := hide (hon5.own HG4.out (row_blk HG4.out HX4.out (by decide)))
     have HE5 : Hid (OwnRd w5 (w.heap.size + 3) (.slice fA en fc) E) := hide (hon5.own HE4.out (row_blk HE4.out HX4.out (by decide)))
     have HT5 := Lib.hid (hon5.blk HT4.out (by omega))
     have HY5 := Lib.hid (hon5.blk HY4.out (by omega))
     have HB5 : Hid (Below w.heap.size w w5) := hide (hon5.below HB4.out (by omega))
     have hs5 : w.heap.size + 3 ≤ w5.heap.size := Nat.le_trans hs4 (Nat.le_of_eq hon5.size.symm)
     clear hx5 hon5)
  clear HX4 HG4 HE4 HT4 HY4 HB4 HCe
  have x0 : w5.cell? ⟨w.heap.size, 0, none⟩ = some (.int .i64 gate) := HX5.out.cell 0
  have x1 : w5.cell? ⟨w.heap.size, 1, none⟩ = some (.int .i64 kx) := HX5.out.cell 1
  have x3 : w5.cell? ⟨w.heap.size, 3, none⟩ = some (.slice fA en fc) := HX5.out.cell 3
  have y0 : w5.cell? ⟨w.heap.size + 1, 0, none⟩ = some (.int .i64 gate) := HT5.out.cell 0
  have y1 : w5.cell? ⟨w.heap.size + 1, 1, none⟩ = some (.int .i64 seq) := HT5.out.cell 1
  have d1 : seq < kx := hlt
  have hwk : IntKind.i64.wrap (kx - 1) = kx - 1 := by rw [IntKind.wrap_i64]; omega
  go_upto_region 17 with (fail)
  have hS17 : Blk w5.drew w.heap.size 32 #[.int .i64 gate, .int .i64 kx, .slice hA gn hc, .slice fA en fc] ∧ w5.drew.cell? ⟨w.heap.size, 1, none⟩ = some (.int .i64 kx) := ⟨HX5.out, HX5.out.cell 1⟩
  have HY17 : Hid (Blk w5.drew (w.heap.size + 2) 32 #[.int .i64 0, .int .i64 0, .slice none 0 0, .slice none 0 0]) := HY5
  have HG17 : Hid (OwnRd w5.drew (w.heap.size + 3) (.slice hA gn hc) G) := HG5
  have HE17 : Hid (OwnRd w5.drew (w.heap.size + 3) (.slice fA en fc) E) := HE5
  have HB17 : Hid (Below w.heap.size w w5.drew) := hide HB5.out.drew
  refine wp_region_held_drew (S := fun W => Blk W w.heap.size 32 #[.int .i64 gate, .int .i64 kx, .slice hA gn hc, .slice fA en fc] ∧ W.cell? ⟨w.heap.size, 1, none⟩ = some (.int .i64 kx)) (by kernel_rfl) (hS17) (fun hHeld => ?_)
  refine held_load 0 (some 94) 32 (.tmp 2) (by rfl) (by kernel_rfl) (by kernel_rfl) (by kernel_rfl) (w.heap.size) 32 #[.int .i64 gate, .int .i64 kx, .slice hA gn hc, .slice fA en fc] (fun _ _ _ h => h) (by rfl) (fun _ h => h.1) _ Try.underlying32 rfl (by kernel_rfl) (by assumption) ?_
  try simp only [Act.put, List.setIfInBounds_toArray, List.set_cons_zero, List.set_cons_succ]
  refine held_run 1 (some 95) (.fieldAddr 32 (.tmp 2) 1) ?v17_1_3 (by rfl) (by kernel_rfl) (by kernel_rfl) (by kernel_rfl) (fun _ _ _ h => h) (fun o ho w hS => ?y17_1_3) (by assumption) ?r17_1_3
  case y17_1_3 => (try dsimp only at hS); unfold execOp; simp only [ho]; go_simp; try with_reducible rfl
  try simp only [Act.put, List.setIfInBounds_toArray, List.set_cons_zero, List.set_cons_succ]
  refine held_run 2 (some 96) (.load 3 (.tmp 95)) ?v17_1_4 (by rfl) (by kernel_rfl) (by kernel_rfl) (by kernel_rfl) (fun _ _ _ h => h) (fun o ho w hS => ?y17_1_4) (by assumption) ?r17_1_4
  case y17_1_4 => (try dsimp only at hS); unfold execOp; simp only [ho]; go_simp; try with_reducible rfl
  try simp only [Act.put, List.setIfInBounds_toArray, List.set_cons_zero, List.set_cons_succ]
  refine held_run 3 (some 97) (.binOp .sub 3 (.tmp 96) (.const (.int .i64 1)) 3) ?v17_1_5 (by rfl) (by kernel_rfl) (by kernel_rfl) (by kernel_rfl) (fun _ _ _ h => h) (fun o ho w hS => ?y17_1_5) (by assumption) ?r17_1_5
  case y17_1_5 => (try dsimp only at hS); unfold execOp; simp only [ho]; go_simp; try with_reducible rfl
  try simp only [Act.put, List.setIfInBounds_toArray, List.set_cons_zero, List.set_cons_succ]
  refine held_one 4 (by kernel_rfl) ?_
  refine op_store_blk 4 32 (.tmp 4) (.tmp 94) (by rfl) (w.heap.size + 2) #[.int .i64 gate, .int .i64 kx, .slice hA gn hc, .slice fA en fc] rfl rfl _ _ (HY17.out) (by kernel_rfl) rfl (by simp [Value.oneCell']) ?_
  intro w18 hx18 hon18
  have hS18 : Blk w18 w.heap.size 32 #[.int .i64 gate, .int .i64 kx, .slice hA gn hc, .slice fA en fc] ∧ w18.cell? ⟨w.heap.size, 1, none⟩ = some (.int .i64 kx) := ⟨hon18.blk hS17.1 (by omega), (hon18.blk hS17.1 (by omega)).cell 1⟩
  have HX18 := Lib.hid hx18
  have HG18 : Hid (OwnRd w18 0 (.slice hA gn hc) G) := hide (OwnRd.to0 (base := w.heap.size + 3) (hon18.own HG17.out (row_blk HG17.out HY17.out (by decide))))
  have HE18 : Hid (OwnRd w18 0 (.slice fA en fc) E) := hide (OwnRd.to0 (base := w.heap.size + 3) (hon18.own HE17.out (row_blk HE17.out HY17.out (by decide))))
  have HB18 : Hid (Below w.heap.size w w18) := hide (hon18.below HB17.out (by omega))
  clear hx18 hon18
  refine ⟨hS18, ?_⟩
  try simp only [Act.put]
  refine held_run 5 (some 5) (.assign (.tmp 97)) ?v17_1_7 (by rfl) (by kernel_rfl) (by kernel_rfl) (by kernel_rfl) (fun _ _ _ h => h) (fun o ho w hS => ?y17_1_7) (by assumption) ?r17_1_7
  case y17_1_7 => (try dsimp only at hS); unfold execOp; simp only [ho]; go_simp; try with_reducible rfl
  try simp only [Act.put, List.setIfInBounds_toArray, List.set_cons_zero, List.set_cons_succ]
  refine wpAnyH_done (by kernel_rfl) ?_ _
  go_wp2_with fail
  refine bodyPost_ret (results_cell_row_tmp rfl _ _ (w.heap.size + 2) 32 _ _ _ rfl rfl HX18.out Try.underlying32 rfl (by kernel_rfl)) rfl ?_
  exact HFin.out _ _ _ HG18.out HE18.out HB18.out
end Go.Proofs.Ytedeggjefnpjgaa
