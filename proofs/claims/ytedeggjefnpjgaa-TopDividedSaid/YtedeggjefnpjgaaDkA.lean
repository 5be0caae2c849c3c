/-
  network.Can, walked.
  network.Lose, walked.
  network.Copy, walked.
-/
import Derived.Test.YtedeggjefnpjgaaDivH
namespace Go.Proofs.Ytedeggjefnpjgaa

section
open Go.RowKit

set_option maxRecDepth 100000 in
set_option maxHeartbeats 4000000 in
theorem can_any (pA : Option Addr) (pc : Nat) (vm : Value) (a b : Nat) (ps : List Int) (r : Bool) (w : World) (ha : a < 2) (hb : b < 2) (hp : Ints w w.heap.size pA 2 ps) (hm : ∃ A n c, vm = .slice A n c) (hr : (ps.getD a 0 == ps.getD b 0) = r) :
    Calls Try.prog 14 #[.agg #[.slice pA 2 pc, vm], .int .i64 a, .int .i64 b] w (BoR r w) := by
  have HEa : Hid (∀ W, Calls Try.prog 33 #[.agg #[.slice pA 2 pc, vm], .int .i64 a] W (BoR true W)) := fun W => exists_any pA pc vm a W (by omega) hm
  have HEb : Hid (∀ W, Calls Try.prog 33 #[.agg #[.slice pA 2 pc, vm], .int .i64 b] W (BoR true W)) := fun W => exists_any pA pc vm b W (by omega) hm
  obtain ⟨ad, hA, hab, hca⟩ := hp.int ha
  obtain ⟨ad', hA', _, hcb⟩ := hp.int hb
  have e : ad' = ad := by rw [hA] at hA'; exact (Option.some.inj hA').symm
  subst e hA
  obtain ⟨mA, mn, mc, rfl⟩ := hm
  generalize ps.getD a 0 = x at *
  generalize ps.getD b 0 = y at *
  have HCa := Lib.hid hca
  have HCb := Lib.hid hcb
  have HFin : Hid (∀ w', Below w.heap.size w w' → BoR r w (.returned (.bool r)) w') := fun w' h => ⟨rfl, h⟩
  generalize BoR r w = RR at *
  clear hp hca hcb hA'
  have ha2 : (a : Int) < 2 := by omega
  have hb2 : (b : Int) < 2 := by omega
  go_enter Try.func14, Try.ntmps14
  go_upto_region 1 with (fail)
  have HBw1 := (Blk.new w 27 #[.slice (some ad') 2 pc, .slice mA mn mc])
  have HLw1 := (below_new w (.cells #[.slice (some ad') 2 pc, .slice mA mn mc] 27))
  have hsw1 : (w.alloc (.cells #[.slice (some ad') 2 pc, .slice mA mn mc] 27)).heap.size = w.heap.size + 1 := by simp
  generalize w.alloc (.cells #[.slice (some ad') 2 pc, .slice mA mn mc] 27) = w1 at HBw1 HLw1 hsw1 ⊢
  replace HBw1 := Lib.hid HBw1
  replace HLw1 := Lib.hid HLw1
  have hlw1 : w.heap.size < w1.heap.size := by omega
  replace hsw1 := Lib.hid hsw1
  have HX1 := HBw1
  have hx1 := hlw1
  have HB1 := HLw1
  clear HBw1 HLw1 hsw1 hlw1
  have HX1d : Hid (Blk w1.drew w.heap.size 27 #[.slice (some ad') 2 pc, .slice mA mn mc]) := HX1
  have HB1d : Hid (Below w.heap.size w w1.drew) := hide HB1.out.drew
  have hx1d : w.heap.size < w1.drew.heap.size := hx1
  refine wp_region_held_drew (S := fun W => Blk W w.heap.size 27 #[.slice (some ad') 2 pc, .slice mA mn mc] ∧ W.cell? ⟨w.heap.size, 0, none⟩ = some (.slice (some ad') 2 pc) ∧ W.cell? (ad'.add a) = some (.int .i64 x) ∧ W.cell? (ad'.add b) = some (.int .i64 y)) (by kernel_rfl) (⟨HX1d.out, HX1d.out.cell 0, (HB1d.out.cell (by rw [block_of_add]; exact hab)).trans HCa.out, (HB1d.out.cell (by rw [block_of_add]; exact hab)).trans HCb.out⟩) (fun hHeld => ?_)
  refine held_load 0 (some 7) 27 (.tmp 3) (by rfl) (by kernel_rfl) (by kernel_rfl) (by kernel_rfl) (w.heap.size) 27 #[.slice (some ad') 2 pc, .slice mA mn mc] (fun _ _ _ h => h) (by rfl) (fun _ h => h.1) _ Try.underlying27 rfl (by kernel_rfl) (by assumption) ?_
  try simp only [Act.put, List.setIfInBounds_toArray, List.set_cons_zero, List.set_cons_succ]
  refine held_run 1 (some 8) (.move (.tmp 1)) ?v1_1_3 (by rfl) (by kernel_rfl) (by kernel_rfl) (by kernel_rfl) (fun _ _ _ h => h) (fun o ho w hS => ?y1_1_3) (by assumption) ?r1_1_3
  case y1_1_3 => (try dsimp only at hS); unfold execOp; simp only [ho]; go_simp; try with_reducible rfl
  try simp only [Act.put, List.setIfInBounds_toArray, List.set_cons_zero, List.set_cons_succ]
  refine held_call 2 (some 9) 33 [(.tmp 7), (.tmp 8)] #[27, 3] #[.agg #[.slice (some ad') 2 pc, .slice mA mn mc], .int .i64 a] (by rfl) (by rfl) (by kernel_rfl) Try.func33 (by rfl) (by rfl) ?_
  refine (HEa.out w1.drew).mono ?_
  rintro e w2 ⟨rfl, hb2⟩
  have HB2 : Hid (Below w.heap.size w w2) := hide (HB1d.out.trans (hb2.mono HB1d.out.size))
  have hH2 : Blk w2 w.heap.size 27 #[.slice (some ad') 2 pc, .slice mA mn mc] ∧ w2.cell? ⟨w.heap.size, 0, none⟩ = some (.slice (some ad') 2 pc) ∧ w2.cell? (ad'.add a) = some (.int .i64 x) ∧ w2.cell? (ad'.add b) = some (.int .i64 y) := ⟨HX1d.out.below hb2 hx1d, (HX1d.out.below hb2 hx1d).cell 0, (HB2.out.cell (by rw [block_of_add]; exact hab)).trans HCa.out, (HB2.out.cell (by rw [block_of_add]; exact hab)).trans HCb.out⟩
  have hx2 : w.heap.size < w2.heap.size := Nat.lt_of_lt_of_le hx1d hb2.size
  clear hb2
  refine ⟨_, rfl, hH2, ?_⟩
  try simp only [Act.put, List.setIfInBounds_toArray, List.set_cons_zero, List.set_cons_succ]
  refine held_run 3 (some 10) (.move (.tmp 9)) ?v1_1_5 (by rfl) (by kernel_rfl) (by kernel_rfl) (by kernel_rfl) (fun _ _ _ h => h) (fun o ho w hS => ?y1_1_5) (by assumption) ?r1_1_5
  case y1_1_5 => (try dsimp only at hS); unfold execOp; simp only [ho]; go_simp; try with_reducible rfl
  try simp only [Act.put, List.setIfInBounds_toArray, List.set_cons_zero, List.set_cons_succ]
  refine held_load 4 (some 11) 27 (.tmp 3) (by rfl) (by kernel_rfl) (by kernel_rfl) (by kernel_rfl) (w.heap.size) 27 #[.slice (some ad') 2 pc, .slice mA mn mc] (fun _ _ _ h => h) (by rfl) (fun _ h => h.1) _ Try.underlying27 rfl (by kernel_rfl) (by assumption) ?_
  try simp only [Act.put, List.setIfInBounds_toArray, List.set_cons_zero, List.set_cons_succ]
  refine held_run 5 (some 12) (.move (.tmp 2)) ?v1_1_7 (by rfl) (by kernel_rfl) (by kernel_rfl) (by kernel_rfl) (fun _ _ _ h => h) (fun o ho w hS => ?y1_1_7) (by assumption) ?r1_1_7
  case y1_1_7 => (try dsimp only at hS); unfold execOp; simp only [ho]; go_simp; try with_reducible rfl
  try simp only [Act.put, List.setIfInBounds_toArray, List.set_cons_zero, List.set_cons_succ]
  refine held_call 6 (some 13) 33 [(.tmp 11), (.tmp 12)] #[27, 3] #[.agg #[.slice (some ad') 2 pc, .slice mA mn mc], .int .i64 b] (by rfl) (by rfl) (by kernel_rfl) Try.func33 (by rfl) (by rfl) ?_
  refine (HEb.out w2).mono ?_
  rintro e w3 ⟨rfl, hb3⟩
  have HB3 : Hid (Below w.heap.size w w3) := hide (HB2.out.trans (hb3.mono HB2.out.size))
  have hH3 : Blk w3 w.heap.size 27 #[.slice (some ad') 2 pc, .slice mA mn mc] ∧ w3.cell? ⟨w.heap.size, 0, none⟩ = some (.slice (some ad') 2 pc) ∧ w3.cell? (ad'.add a) = some (.int .i64 x) ∧ w3.cell? (ad'.add b) = some (.int .i64 y) := ⟨hH2.1.below hb3 hx2, (hH2.1.below hb3 hx2).cell 0, (HB3.out.cell (by rw [block_of_add]; exact hab)).trans HCa.out, (HB3.out.cell (by rw [block_of_add]; exact hab)).trans HCb.out⟩
  refine ⟨_, rfl, hH3, ?_⟩
  try simp only [Act.put, List.setIfInBounds_toArray, List.set_cons_zero, List.set_cons_succ]
  refine held_run 7 (some 14) (.pick (.tmp 10) (.tmp 13) (.const (Value.bool false))) ?v1_1_9 (by rfl) (by kernel_rfl) (by kernel_rfl) (by kernel_rfl) (fun _ _ _ h => h) (fun o ho w hS => ?y1_1_9) (by assumption) ?r1_1_9
  case y1_1_9 => (try dsimp only at hS); unfold execOp; simp only [ho]; go_simp; try with_reducible rfl
  try simp only [Act.put, List.setIfInBounds_toArray, List.set_cons_zero, List.set_cons_succ]
  refine held_run 8 (some 15) (.move (.tmp 14)) ?v1_1_10 (by rfl) (by kernel_rfl) (by kernel_rfl) (by kernel_rfl) (fun _ _ _ h => h) (fun o ho w hS => ?y1_1_10) (by assumption) ?r1_1_10
  case y1_1_10 => (try dsimp only at hS); unfold execOp; simp only [ho]; go_simp; try with_reducible rfl
  try simp only [Act.put, List.setIfInBounds_toArray, List.set_cons_zero, List.set_cons_succ]
  refine held_run 9 (some 16) (.fieldAddr 27 (.tmp 3) 0) ?v1_1_11 (by rfl) (by kernel_rfl) (by kernel_rfl) (by kernel_rfl) (fun _ _ _ h => h) (fun o ho w hS => ?y1_1_11) (by assumption) ?r1_1_11
  case y1_1_11 => (try dsimp only at hS); unfold execOp; simp only [ho]; go_simp; try with_reducible rfl
  try simp only [Act.put, List.setIfInBounds_toArray, List.set_cons_zero, List.set_cons_succ]
  refine held_run 10 (some 17) (.load 24 (.tmp 16)) ?v1_1_12 (by rfl) (by kernel_rfl) (by kernel_rfl) (by kernel_rfl) (fun _ _ _ h => h) (fun o ho w hS => ?y1_1_12) (by assumption) ?r1_1_12
  case y1_1_12 => (try dsimp only at hS); unfold execOp; simp only [ho]; go_simp; try with_reducible rfl
  try simp only [Act.put, List.setIfInBounds_toArray, List.set_cons_zero, List.set_cons_succ]
  refine held_run 11 (some 18) (.move (.tmp 1)) ?v1_1_13 (by rfl) (by kernel_rfl) (by kernel_rfl) (by kernel_rfl) (fun _ _ _ h => h) (fun o ho w hS => ?y1_1_13) (by assumption) ?r1_1_13
  case y1_1_13 => (try dsimp only at hS); unfold execOp; simp only [ho]; go_simp; try with_reducible rfl
  try simp only [Act.put, List.setIfInBounds_toArray, List.set_cons_zero, List.set_cons_succ]
  refine held_run 12 (some 19) (.indexAddr 24 (.tmp 17) (.tmp 18)) ?v1_1_14 (by rfl) (by kernel_rfl) (by kernel_rfl) (by kernel_rfl) (fun _ _ _ h => h) (fun o ho w hS => ?y1_1_14) (by assumption) ?r1_1_14
  case y1_1_14 => (try dsimp only at hS); unfold execOp; simp only [ho]; go_simp; try with_reducible rfl
  try simp only [Act.put, List.setIfInBounds_toArray, List.set_cons_zero, List.set_cons_succ]
  refine held_run 13 (some 20) (.load 3 (.tmp 19)) ?v1_1_15 (by rfl) (by kernel_rfl) (by kernel_rfl) (by kernel_rfl) (fun _ _ _ h => h) (fun o ho w hS => ?y1_1_15) (by assumption) ?r1_1_15
  case y1_1_15 => (try dsimp only at hS); unfold execOp; simp only [ho]; go_simp; try with_reducible rfl
  try simp only [Act.put, List.setIfInBounds_toArray, List.set_cons_zero, List.set_cons_succ]
  refine held_run 14 (some 21) (.fieldAddr 27 (.tmp 3) 0) ?v1_1_16 (by rfl) (by kernel_rfl) (by kernel_rfl) (by kernel_rfl) (fun _ _ _ h => h) (fun o ho w hS => ?y1_1_16) (by assumption) ?r1_1_16
  case y1_1_16 => (try dsimp only at hS); unfold execOp; simp only [ho]; go_simp; try with_reducible rfl
  try simp only [Act.put, List.setIfInBounds_toArray, List.set_cons_zero, List.set_cons_succ]
  refine held_run 15 (some 22) (.load 24 (.tmp 21)) ?v1_1_17 (by rfl) (by kernel_rfl) (by kernel_rfl) (by kernel_rfl) (fun _ _ _ h => h) (fun o ho w hS => ?y1_1_17) (by assumption) ?r1_1_17
  case y1_1_17 => (try dsimp only at hS); unfold execOp; simp only [ho]; go_simp; try with_reducible rfl
  try simp only [Act.put, List.setIfInBounds_toArray, List.set_cons_zero, List.set_cons_succ]
  refine held_run 16 (some 23) (.move (.tmp 2)) ?v1_1_18 (by rfl) (by kernel_rfl) (by kernel_rfl) (by kernel_rfl) (fun _ _ _ h => h) (fun o ho w hS => ?y1_1_18) (by assumption) ?r1_1_18
  case y1_1_18 => (try dsimp only at hS); unfold execOp; simp only [ho]; go_simp; try with_reducible rfl
  try simp only [Act.put, List.setIfInBounds_toArray, List.set_cons_zero, List.set_cons_succ]
  refine held_run 17 (some 24) (.indexAddr 24 (.tmp 22) (.tmp 23)) ?v1_1_19 (by rfl) (by kernel_rfl) (by kernel_rfl) (by kernel_rfl) (fun _ _ _ h => h) (fun o ho w hS => ?y1_1_19) (by assumption) ?r1_1_19
  case y1_1_19 => (try dsimp only at hS); unfold execOp; simp only [ho]; go_simp; try with_reducible rfl
  try simp only [Act.put, List.setIfInBounds_toArray, List.set_cons_zero, List.set_cons_succ]
  refine held_run 18 (some 25) (.load 3 (.tmp 24)) ?v1_1_20 (by rfl) (by kernel_rfl) (by kernel_rfl) (by kernel_rfl) (fun _ _ _ h => h) (fun o ho w hS => ?y1_1_20) (by assumption) ?r1_1_20
  case y1_1_20 => (try dsimp only at hS); unfold execOp; simp only [ho]; go_simp; try with_reducible rfl
  try simp only [Act.put, List.setIfInBounds_toArray, List.set_cons_zero, List.set_cons_succ]
  refine held_run 19 (some 26) (.binOp .eql 3 (.tmp 20) (.tmp 25) 3) ?v1_1_21 (by rfl) (by kernel_rfl) (by kernel_rfl) (by kernel_rfl) (fun _ _ _ h => h) (fun o ho w hS => ?y1_1_21) (by assumption) ?r1_1_21
  case y1_1_21 => (try dsimp only at hS); unfold execOp; simp only [ho]; go_simp; try with_reducible rfl
  try simp only [Act.put, List.setIfInBounds_toArray, List.set_cons_zero, List.set_cons_succ]
  refine held_run 20 (some 27) (.pick (.tmp 15) (.tmp 26) (.const (Value.bool false))) ?v1_1_22 (by rfl) (by kernel_rfl) (by kernel_rfl) (by kernel_rfl) (fun _ _ _ h => h) (fun o ho w hS => ?y1_1_22) (by assumption) ?r1_1_22
  case y1_1_22 => (try dsimp only at hS); unfold execOp; simp only [ho]; go_simp; try with_reducible rfl
  try simp only [Act.put, List.setIfInBounds_toArray, List.set_cons_zero, List.set_cons_succ]
  refine held_run 21 (some 6) (.assign (.tmp 27)) ?v1_1_23 (by rfl) (by kernel_rfl) (by kernel_rfl) (by kernel_rfl) (fun _ _ _ h => h) (fun o ho w hS => ?y1_1_23) (by assumption) ?r1_1_23
  case y1_1_23 => (try dsimp only at hS); unfold execOp; simp only [ho]; go_simp; try with_reducible rfl
  try simp only [Act.put, List.setIfInBounds_toArray, List.set_cons_zero, List.set_cons_succ]
  refine wpAnyH_done (by kernel_rfl) ?_ _
  go_wp2_with fail
  try go_ret
  exact HFin.out _ HB3.out
end

section
open Go.RowKit

theorem blk_ne {w : World} {g k : Nat} {t te : TypeId} {cs cur : Array Value} (h : Blk w g te cur) (hk : Blk w k t cs) (ht : t ≠ te) : k ≠ g := fun e => by
  subst e
  have h2 := h.symm.trans hk
  simp only [Option.some.injEq, Obj.cells.injEq] at h2
  exact ht h2.2.1.symm
set_option maxRecDepth 100000 in
set_option maxHeartbeats 4000000 in
theorem lose_no (vp : Value) (mA : Option Addr) (mn mc : Nat) (i : Int) (w : World) (hv : ∃ A n c, vp = .slice A n c) (hi : i < 0 ∨ (mn : Int) ≤ i) :
    Calls Try.prog 8 #[.agg #[vp, .slice mA mn mc], .int .i64 i] w (NfR 8 w) := by
  obtain ⟨pA, pn, pc, rfl⟩ := hv
  have HFin : Hid (∀ w', Below w.heap.size w w' → NfR 8 w (.returned (.tuple #[.agg #[.slice none 0 0, .slice none 0 0], .int .i64 8])) w') := fun w' h => ⟨rfl, h⟩
  generalize NfR 8 w = RR at *
  have HI := Lib.hid hi
  clear hi
  go_enter Try.func8, Try.ntmps8
  go_upto_region 1 with (fail)
  have hwz : (w.alloc (Obj.cells #[Value.slice pA pn pc, Value.slice mA mn mc] 27)).heap.size = w.heap.size + 1 := by simp
  obtain ⟨w0, hw0⟩ : ∃ W, w.alloc (Obj.cells #[Value.slice pA pn pc, Value.slice mA mn mc] 27) = W := ⟨_, rfl⟩
  rw [hw0] at hwz ⊢
  have HX0 : Hid (Blk w0 w.heap.size 27 #[.slice pA pn pc, .slice mA mn mc]) := hide (by rw [← hw0]; exact Blk.new w _ _)
  have HB0 : Hid (Below w.heap.size w w0) := hide (by rw [← hw0]; exact below_new w _)
  obtain ⟨w1, hw1⟩ : ∃ W, w0.alloc (Obj.cells #[Value.slice none 0 0, Value.slice none 0 0] 27) = W := ⟨_, rfl⟩
  rw [hw1]
  have HY1 : Hid (Blk w1 (w.heap.size + 1) 27 #[.slice none 0 0, .slice none 0 0]) := hide (by rw [← hw1, ← hwz]; exact Blk.new w0 _ _)
  have hb1 : Below w0.heap.size w0 w1 := by rw [← hw1]; exact below_new w0 _
  have HX1 := Lib.hid (HX0.out.below hb1 (by omega))
  have HB1 := Lib.hid (HB0.out.trans (hb1.mono HB0.out.size))
  have hs1 : w.heap.size + 2 ≤ w1.heap.size := by have := HY1.out.lt; omega
  clear hw0 hw1 hb1 hwz HX0 HB0
  have n1 : w1.cell? ⟨w.heap.size, 1, none⟩ = some (.slice mA mn mc) := HX1.out.cell 1
  by_cases hneg : i < 0
  · go_wp2_with
      (refine wpList_store_blk rfl 27 (.tmp 4) (.tmp 16) rfl (w.heap.size + 1) #[.slice none 0 0, .slice none 0 0] rfl rfl _ _ HY1.out (by kernel_rfl) rfl (by simp [Value.oneCell']) ?_
       intro w9 hx9 hon9
       have HX9 := Lib.hid hx9
       have HB9 : Hid (Below w.heap.size w w9) := hide (hon9.below HB1.out (by omega))
       clear hx9 hon9)
    refine bodyPost_ret (results_cell_row_tmp rfl _ _ (w.heap.size + 1) 27 _ _ _ rfl rfl HX9.out Try.underlying27 rfl (by kernel_rfl)) rfl ?_
    exact HFin.out _ HB9.out
  · have hge : i ≥ (mn : Int) := by rcases HI.out with h | h; exact absurd h hneg; exact h
    go_wp2_with
      (refine wpList_store_blk rfl 27 (.tmp 4) (.tmp 16) rfl (w.heap.size + 1) #[.slice none 0 0, .slice none 0 0] rfl rfl _ _ HY1.out (by kernel_rfl) rfl (by simp [Value.oneCell']) ?_
       intro w9 hx9 hon9
       have HX9 := Lib.hid hx9
       have HB9 : Hid (Below w.heap.size w w9) := hide (hon9.below HB1.out (by omega))
       clear hx9 hon9)
    refine bodyPost_ret (results_cell_row_tmp rfl _ _ (w.heap.size + 1) 27 _ _ _ rfl rfl HX9.out Try.underlying27 rfl (by kernel_rfl)) rfl ?_
    exact HFin.out _ HB9.out
set_option maxRecDepth 100000 in
set_option maxHeartbeats 4000000 in
theorem lose_any (pA : Option Addr) (pc : Nat) (mA : Option Addr) (mn mc : Nat) (i : Nat) (ps : List Int) (ms : List Lt) (w : World) (hp : Ints w w.heap.size pA 2 ps) (hm : Lts w w.heap.size mA mn ms) (hn : mn ≤ 256) (hbl : ∀ m ∈ ms, m.bd.length ≤ 2000) (hi : i < mn) :
    Calls Try.prog 8 #[.agg #[.slice pA 2 pc, .slice mA mn mc], .int .i64 i] w (NtR ps (ms.eraseIdx i) w) := by
  have HCo : Hid (∀ W, Below w.heap.size w W → Calls Try.prog 25 #[.agg #[.slice pA 2 pc, .slice mA mn mc]] W (CopR ps ms W)) := fun W h => ncopied_any pA pc mA mn mc ps ms W (hp.now h) (hm.now h) hn hbl
  have hml : ms.length = mn := hm.len
  have HFin : Hid (∀ vp vm w', NetO w' vp vm ps (ms.eraseIdx i) → Below w.heap.size w w' → NtR ps (ms.eraseIdx i) w (.returned (.tuple #[.agg #[vp, vm], .int .i64 0])) w') := fun vp vm w' h1 h2 => ⟨vp, vm, rfl, h1, h2⟩
  generalize NtR ps (ms.eraseIdx i) w = RR at *
  have HMl := Lib.hid hml
  clear hp hm hbl hml
  go_enter Try.func8, Try.ntmps8
  go_upto_region 1 with (fail)
  have hwz : (w.alloc (Obj.cells #[Value.slice pA 2 pc, Value.slice mA mn mc] 27)).heap.size = w.heap.size + 1 := by simp
  obtain ⟨w0, hw0⟩ : ∃ W, w.alloc (Obj.cells #[Value.slice pA 2 pc, Value.slice mA mn mc] 27) = W := ⟨_, rfl⟩
  rw [hw0] at hwz ⊢
  have HX0 : Hid (Blk w0 w.heap.size 27 #[.slice pA 2 pc, .slice mA mn mc]) := hide (by rw [← hw0]; exact Blk.new w _ _)
  have HB0 : Hid (Below w.heap.size w w0) := hide (by rw [← hw0]; exact below_new w _)
  obtain ⟨w1, hw1⟩ : ∃ W, w0.alloc (Obj.cells #[Value.slice none 0 0, Value.slice none 0 0] 27) = W := ⟨_, rfl⟩
  rw [hw1]
  have HY1 : Hid (Blk w1 (w.heap.size + 1) 27 #[.slice none 0 0, .slice none 0 0]) := hide (by rw [← hw1, ← hwz]; exact Blk.new w0 _ _)
  have hb1 : Below w0.heap.size w0 w1 := by rw [← hw1]; exact below_new w0 _
  have HX1 := Lib.hid (HX0.out.below hb1 (by omega))
  have HB1 := Lib.hid (HB0.out.trans (hb1.mono HB0.out.size))
  have hs1 : w.heap.size + 2 ≤ w1.heap.size := by have := HY1.out.lt; omega
  clear hw0 hw1 hb1 hwz HX0 HB0
  have n1 : w1.cell? ⟨w.heap.size, 1, none⟩ = some (.slice mA mn mc) := HX1.out.cell 1
  have hd0 : ¬ (i : Int) < 0 := by omega
  have hd1 : ¬ (i : Int) ≥ (mn : Int) := by omega
  go_wp2_with (refine wpList_load_blk rfl 27 (.tmp 2) rfl w.heap.size rfl _ _ HX1.out _ Try.underlying27 rfl (by kernel_rfl) ?_)
  with_reducible refine (HCo.out w1 HB1.out).mono ?_
  rintro e w3 ⟨vp, vm, rfl, hop, hom, hb3⟩
  have HB3 := Lib.hid (HB1.out.trans (hb3.mono HB1.out.size))
  have HY3 := Lib.hid (HY1.out.below hb3 (by omega))
  have hs3 : w.heap.size + 2 ≤ w3.heap.size := Nat.le_trans hs1 hb3.size
  have HOm := Lib.hid (hom.mono (show w.heap.size + 2 ≤ w1.heap.size from hs1))
  have HOp := Lib.hid (own_mono hop (show w.heap.size + 2 ≤ w1.heap.size from hs1))
  have hpo : vp.oneCell' = true := own_one hop
  have hmo : vm.oneCell' = true := own_one hom.choose_spec.2.1
  obtain ⟨A0, c0', rfl, _, _, _⟩ := own_open hop
  obtain ⟨Am, nm, cm, rfl, HNm, hnm1, hnm2, _⟩ := hom.nam
  obtain rfl : nm = mn := by rw [← HNm.out, HMl.out]
  clear hb3 HX1 HY1 HB1 hop hom n1
  go_upto_region 4 with (fail)
  have HBw4 := (Blk.new w3 27 #[.slice A0 2 c0', .slice Am nm cm])
  have HLw4 := (below_new w3 (.cells #[.slice A0 2 c0', .slice Am nm cm] 27))
  have hsw4 : (w3.alloc (.cells #[.slice A0 2 c0', .slice Am nm cm] 27)).heap.size = w3.heap.size + 1 := by simp
  generalize w3.alloc (.cells #[.slice A0 2 c0', .slice Am nm cm] 27) = w4 at HBw4 HLw4 hsw4 ⊢
  replace HBw4 := Lib.hid HBw4
  replace HLw4 := Lib.hid HLw4
  have hlw4 : w3.heap.size < w4.heap.size := by omega
  replace hsw4 := Lib.hid hsw4
  have HX4 := HBw4
  have hx4 := hlw4
  have HL4 := HLw4
  have HY4 := Lib.hid (HY3.out.below HL4.out (by omega))
  have HOm4 := Lib.hid (HOm.out.now HL4.out)
  have HOp4 := Lib.hid (own_below HOp.out HL4.out (Nat.le_refl _))
  have cm4 : w4.cell? ⟨w3.heap.size, 1, none⟩ = some (.slice Am nm cm) := HX4.out.cell 1
  have HDe := Lib.hid (dele_lt HOm4.out HNm.out i hi)
  have hw1 : IntKind.i64.wrap ((i : Int) + 1) = (i : Int) + 1 := by rw [IntKind.wrap_i64]; simp only [maxLen] at hnm2; omega
  clear HBw4 HLw4 hsw4 hlw4 HY3 HOm HOp HOm4
  go_wp2_with fail
  with_reducible refine HDe.out.mono ?_
  rintro e w5 ⟨vd, g, rfl, hod, hg, _, ⟨cur, hcur⟩, ho5⟩
  have hgl : g ≠ w3.heap.size := Ne.symm (blk_ne hcur HX4.out (by decide))
  have HX5 := Lib.hid (ho5.blk HX4.out (Ne.symm hgl))
  have HY5 := Lib.hid (ho5.blk HY4.out (Ne.symm (by omega)))
  have HOp5 := Lib.hid (ho5.own HOp4.out (row_blk HOp4.out hcur (by decide)))
  have HL5 : Hid (Below (w.heap.size + 2) w3 w5) := hide (ho5.below (HL4.out.mono hs3) hg)
  have HOd := Lib.hid hod
  obtain ⟨Ad, nd, cd, rfl, _, _, _, _⟩ := hod.nam
  clear hw1 hd0 hd1 cm4 HDe HX4 HY4 HOp4 hod ho5 hcur
  go_wp2_with
    (first
     | (refine wpList_store_field 25 (.tmp 25) (.tmp 24) rfl rfl w3.heap.size 1 (.slice Ad nd cd) rfl rfl 27 _ HX5.out (by kernel_rfl) (by simp) rfl rfl ?_
        intro w6 hx6 hon6
        have HX6 : Hid (Blk w6 w3.heap.size 27 #[.slice A0 2 c0', .slice Ad nd cd]) := hide hx6
        have HY6 := Lib.hid (hon6.blk HY5.out (by omega))
        have HOd6 := Lib.hid (HOd.out.onlyT hon6 HX5.out (by decide) (by decide))
        have HOp6 := Lib.hid (hon6.own HOp5.out (row_blk HOp5.out HX5.out (by decide)))
        have HL6 : Hid (Below (w.heap.size + 2) w3 w6) := hide (hon6.below HL5.out hs3)
        clear hx6 hon6)
     | (refine wpList_load_blk rfl 27 (.tmp 6) rfl w3.heap.size rfl _ _ HX6.out _ Try.underlying27 rfl (by kernel_rfl) ?_)
     | (refine wpList_store_blk rfl 27 (.tmp 4) (.tmp 26) rfl (w.heap.size + 1) #[.slice A0 2 c0', .slice Ad nd cd] rfl rfl _ _ HY6.out (by kernel_rfl) rfl (by simp [Value.oneCell']) ?_
        intro w7 hx7 hon7
        have HX7 := Lib.hid hx7
        have HN7 : Hid (NetO w7 (.slice A0 2 c0') (.slice Ad nd cd) ps (ms.eraseIdx i)) := hide (netV_of (hon7.own HOp6.out (row_blk HOp6.out HY6.out (by decide))) (HOd6.out.onlyT hon7 HY6.out (by decide) (by decide)))
        have HB7 : Hid (Below w.heap.size w w7) := hide (hon7.below (HB3.out.trans (HL6.out.mono (by omega))) (by omega))
        clear hx7 hon7))
  refine bodyPost_ret (results_cell_row_tmp rfl _ _ (w.heap.size + 1) 27 _ _ _ rfl rfl HX7.out Try.underlying27 rfl (by kernel_rfl)) rfl ?_
  exact HFin.out _ _ _ HN7.out HB7.out
end

section
open Go.RowKit

set_option maxRecDepth 100000 in
set_option maxHeartbeats 4000000 in
theorem copy_no (vp : Value) (mA : Option Addr) (mn mc : Nat) (i : Int) (w : World) (hv : ∃ A n c, vp = .slice A n c) (hi : i < 0 ∨ (mn : Int) ≤ i) :
    Calls Try.prog 9 #[.agg #[vp, .slice mA mn mc], .int .i64 i] w (NfR 8 w) := by
  obtain ⟨pA, pn, pc, rfl⟩ := hv
  have HFin : Hid (∀ w', Below w.heap.size w w' → NfR 8 w (.returned (.tuple #[.agg #[.slice none 0 0, .slice none 0 0], .int .i64 8])) w') := fun w' h => ⟨rfl, h⟩
  generalize NfR 8 w = RR at *
  have HI := Lib.hid hi
  clear hi
  go_enter Try.func9, Try.ntmps9
  go_upto_region 1 with (fail)
  have hwz : (w.alloc (Obj.cells #[Value.slice pA pn pc, Value.slice mA mn mc] 27)).heap.size = w.heap.size + 1 := by simp
  obtain ⟨w0, hw0⟩ : ∃ W, w.alloc (Obj.cells #[Value.slice pA pn pc, Value.slice mA mn mc] 27) = W := ⟨_, rfl⟩
  rw [hw0] at hwz ⊢
  have HX0 : Hid (Blk w0 w.heap.size 27 #[.slice pA pn pc, .slice mA mn mc]) := hide (by rw [← hw0]; exact Blk.new w _ _)
  have HB0 : Hid (Below w.heap.size w w0) := hide (by rw [← hw0]; exact below_new w _)
  obtain ⟨w1, hw1⟩ : ∃ W, w0.alloc (Obj.cells #[Value.slice none 0 0, Value.slice none 0 0] 27) = W := ⟨_, rfl⟩
  rw [hw1]
  have HY1 : Hid (Blk w1 (w.heap.size + 1) 27 #[.slice none 0 0, .slice none 0 0]) := hide (by rw [← hw1, ← hwz]; exact Blk.new w0 _ _)
  have hb1 : Below w0.heap.size w0 w1 := by rw [← hw1]; exact below_new w0 _
  have HX1 := Lib.hid (HX0.out.below hb1 (by omega))
  have HB1 := Lib.hid (HB0.out.trans (hb1.mono HB0.out.size))
  have hs1 : w.heap.size + 2 ≤ w1.heap.size := by have := HY1.out.lt; omega
  clear hw0 hw1 hb1 hwz HX0 HB0
  have n1 : w1.cell? ⟨w.heap.size, 1, none⟩ = some (.slice mA mn mc) := HX1.out.cell 1
  by_cases hneg : i < 0
  · go_wp2_with
      (refine wpList_store_blk rfl 27 (.tmp 4) (.tmp 17) rfl (w.heap.size + 1) #[.slice none 0 0, .slice none 0 0] rfl rfl _ _ HY1.out (by kernel_rfl) rfl (by simp [Value.oneCell']) ?_
       intro w9 hx9 hon9
       have HX9 := Lib.hid hx9
       have HB9 : Hid (Below w.heap.size w w9) := hide (hon9.below HB1.out (by omega))
       clear hx9 hon9)
    refine bodyPost_ret (results_cell_row_tmp rfl _ _ (w.heap.size + 1) 27 _ _ _ rfl rfl HX9.out Try.underlying27 rfl (by kernel_rfl)) rfl ?_
    exact HFin.out _ HB9.out
  · have hge : i ≥ (mn : Int) := by rcases HI.out with h | h; exact absurd h hneg; exact h
    go_wp2_with
      (refine wpList_store_blk rfl 27 (.tmp 4) (.tmp 17) rfl (w.heap.size + 1) #[.slice none 0 0, .slice none 0 0] rfl rfl _ _ HY1.out (by kernel_rfl) rfl (by simp [Value.oneCell']) ?_
       intro w9 hx9 hon9
       have HX9 := Lib.hid hx9
       have HB9 : Hid (Below w.heap.size w w9) := hide (hon9.below HB1.out (by omega))
       clear hx9 hon9)
    refine bodyPost_ret (results_cell_row_tmp rfl _ _ (w.heap.size + 1) 27 _ _ _ rfl rfl HX9.out Try.underlying27 rfl (by kernel_rfl)) rfl ?_
    exact HFin.out _ HB9.out
set_option maxRecDepth 100000 in
set_option maxHeartbeats 4000000 in
theorem copy_full (vp : Value) (mA : Option Addr) (mn mc : Nat) (i : Nat) (w : World) (hv : ∃ A n c, vp = .slice A n c) (hi : i < mn) (hn : 256 ≤ mn) :
    Calls Try.prog 9 #[.agg #[vp, .slice mA mn mc], .int .i64 i] w (NfR 9 w) := by
  obtain ⟨pA, pn, pc, rfl⟩ := hv
  have HFin : Hid (∀ w', Below w.heap.size w w' → NfR 9 w (.returned (.tuple #[.agg #[.slice none 0 0, .slice none 0 0], .int .i64 9])) w') := fun w' h => ⟨rfl, h⟩
  generalize NfR 9 w = RR at *
  go_enter Try.func9, Try.ntmps9
  go_upto_region 1 with (fail)
  have hwz : (w.alloc (Obj.cells #[Value.slice pA pn pc, Value.slice mA mn mc] 27)).heap.size = w.heap.size + 1 := by simp
  obtain ⟨w0, hw0⟩ : ∃ W, w.alloc (Obj.cells #[Value.slice pA pn pc, Value.slice mA mn mc] 27) = W := ⟨_, rfl⟩
  rw [hw0] at hwz ⊢
  have HX0 : Hid (Blk w0 w.heap.size 27 #[.slice pA pn pc, .slice mA mn mc]) := hide (by rw [← hw0]; exact Blk.new w _ _)
  have HB0 : Hid (Below w.heap.size w w0) := hide (by rw [← hw0]; exact below_new w _)
  obtain ⟨w1, hw1⟩ : ∃ W, w0.alloc (Obj.cells #[Value.slice none 0 0, Value.slice none 0 0] 27) = W := ⟨_, rfl⟩
  rw [hw1]
  have HY1 : Hid (Blk w1 (w.heap.size + 1) 27 #[.slice none 0 0, .slice none 0 0]) := hide (by rw [← hw1, ← hwz]; exact Blk.new w0 _ _)
  have hb1 : Below w0.heap.size w0 w1 := by rw [← hw1]; exact below_new w0 _
  have HX1 := Lib.hid (HX0.out.below hb1 (by omega))
  have HB1 := Lib.hid (HB0.out.trans (hb1.mono HB0.out.size))
  have hs1 : w.heap.size + 2 ≤ w1.heap.size := by have := HY1.out.lt; omega
  clear hw0 hw1 hb1 hwz HX0 HB0
  have n1 : w1.cell? ⟨w.heap.size, 1, none⟩ = some (.slice mA mn mc) := HX1.out.cell 1
  have hd0 : ¬ (i : Int) < 0 := by omega
  have hd1 : ¬ (i : Int) ≥ (mn : Int) := by omega
  have hd2 : (mn : Int) ≥ 256 := by omega
  go_wp2_with
    (refine wpList_store_blk rfl 27 (.tmp 4) (.tmp 22) rfl (w.heap.size + 1) #[.slice none 0 0, .slice none 0 0] rfl rfl _ _ HY1.out (by kernel_rfl) rfl (by simp [Value.oneCell']) ?_
     intro w9 hx9 hon9
     have HX9 := Lib.hid hx9
     have HB9 : Hid (Below w.heap.size w w9) := hide (hon9.below HB1.out (by omega))
     clear hx9 hon9)
  refine bodyPost_ret (results_cell_row_tmp rfl _ _ (w.heap.size + 1) 27 _ _ _ rfl rfl HX9.out Try.underlying27 rfl (by kernel_rfl)) rfl ?_
  exact HFin.out _ HB9.out
set_option maxRecDepth 100000 in
set_option maxHeartbeats 4000000 in
theorem copy_any (pA : Option Addr) (pc : Nat) (mA : Option Addr) (mn mc : Nat) (i : Nat) (ps : List Int) (ms : List Lt) (w : World) (hp : Ints w w.heap.size pA 2 ps) (hm : Lts w w.heap.size mA mn ms) (hn : mn < 256) (hbl : ∀ m ∈ ms, m.bd.length ≤ 2000) (hi : i < mn) :
    Calls Try.prog 9 #[.agg #[.slice pA 2 pc, .slice mA mn mc], .int .i64 i] w (NtR ps (ms ++ [ms.getD i lt0]) w) := by
  have HCo : Hid (∀ W, Below w.heap.size w W → Calls Try.prog 25 #[.agg #[.slice pA 2 pc, .slice mA mn mc]] W (CopR ps ms W)) := fun W h => ncopied_any pA pc mA mn mc ps ms W (hp.now h) (hm.now h) (by omega) hbl
  have hml : ms.length = mn := hm.len
  have hbq : (ms.getD i lt0).bd.length ≤ 2000 := by
    have hi' : i < ms.length := by omega
    have e : ms.getD i lt0 = ms[i] := by simp [List.getElem?_eq_getElem hi']
    rw [e]
    exact hbl _ (List.getElem_mem hi')
  have HFin : Hid (∀ vp vm w', NetO w' vp vm ps (ms ++ [ms.getD i lt0]) → Below w.heap.size w w' → NtR ps (ms ++ [ms.getD i lt0]) w (.returned (.tuple #[.agg #[vp, vm], .int .i64 0])) w') := fun vp vm w' h1 h2 => ⟨vp, vm, rfl, h1, h2⟩
  generalize NtR ps (ms ++ [ms.getD i lt0]) w = RR at *
  have HMl := Lib.hid hml
  clear hp hm hbl hml
  go_enter Try.func9, Try.ntmps9
  go_upto_region 1 with (fail)
  have hwz : (w.alloc (Obj.cells #[Value.slice pA 2 pc, Value.slice mA mn mc] 27)).heap.size = w.heap.size + 1 := by simp
  obtain ⟨w0, hw0⟩ : ∃ W, w.alloc (Obj.cells #[Value.slice pA 2 pc, Value.slice mA mn mc] 27) = W := ⟨_, rfl⟩
  rw [hw0] at hwz ⊢
  have HX0 : Hid (Blk w0 w.heap.size 27 #[.slice pA 2 pc, .slice mA mn mc]) := hide (by rw [← hw0]; exact Blk.new w _ _)
  have HB0 : Hid (Below w.heap.size w w0) := hide (by rw [← hw0]; exact below_new w _)
  obtain ⟨w1, hw1⟩ : ∃ W, w0.alloc (Obj.cells #[Value.slice none 0 0, Value.slice none 0 0] 27) = W := ⟨_, rfl⟩
  rw [hw1]
  have HY1 : Hid (Blk w1 (w.heap.size + 1) 27 #[.slice none 0 0, .slice none 0 0]) := hide (by rw [← hw1, ← hwz]; exact Blk.new w0 _ _)
  have hb1 : Below w0.heap.size w0 w1 := by rw [← hw1]; exact below_new w0 _
  have HX1 := Lib.hid (HX0.out.below hb1 (by omega))
  have HB1 := Lib.hid (HB0.out.trans (hb1.mono HB0.out.size))
  have hs1 : w.heap.size + 2 ≤ w1.heap.size := by have := HY1.out.lt; omega
  clear hw0 hw1 hb1 hwz HX0 HB0
  have n1 : w1.cell? ⟨w.heap.size, 1, none⟩ = some (.slice mA mn mc) := HX1.out.cell 1
  have hd0 : ¬ (i : Int) < 0 := by omega
  have hd1 : ¬ (i : Int) ≥ (mn : Int) := by omega
  have hd2 : ¬ (mn : Int) ≥ 256 := by omega
  go_wp2_with (refine wpList_load_blk rfl 27 (.tmp 2) rfl w.heap.size rfl _ _ HX1.out _ Try.underlying27 rfl (by kernel_rfl) ?_)
  with_reducible refine (HCo.out w1 HB1.out).mono ?_
  rintro e w3 ⟨vp, vm, rfl, hop, hom, hb3⟩
  have HB3 := Lib.hid (HB1.out.trans (hb3.mono HB1.out.size))
  have HY3 := Lib.hid (HY1.out.below hb3 (by omega))
  have hs3 : w.heap.size + 2 ≤ w3.heap.size := Nat.le_trans hs1 hb3.size
  have HOm := Lib.hid (hom.mono (show w.heap.size + 2 ≤ w1.heap.size from hs1))
  have HOp := Lib.hid (own_mono hop (show w.heap.size + 2 ≤ w1.heap.size from hs1))
  have hpo : vp.oneCell' = true := own_one hop
  have hmo : vm.oneCell' = true := own_one hom.choose_spec.2.1
  obtain ⟨A0, c0', rfl, _, _, _⟩ := own_open hop
  obtain ⟨Am, nm, cm, rfl, HNm, hnm1, hnm2, hLm⟩ := hom.nam
  obtain rfl : nm = mn := by rw [← HNm.out, HMl.out]
  clear hb3 HX1 HY1 HB1 hop hom n1
  go_upto_region 6 with (fail)
  have HBw4 := (Blk.new w3 27 #[.slice A0 2 c0', .slice Am nm cm])
  have HLw4 := (below_new w3 (.cells #[.slice A0 2 c0', .slice Am nm cm] 27))
  have hsw4 : (w3.alloc (.cells #[.slice A0 2 c0', .slice Am nm cm] 27)).heap.size = w3.heap.size + 1 := by simp
  generalize w3.alloc (.cells #[.slice A0 2 c0', .slice Am nm cm] 27) = w4 at HBw4 HLw4 hsw4 ⊢
  replace HBw4 := Lib.hid HBw4
  replace HLw4 := Lib.hid HLw4
  have hlw4 : w3.heap.size < w4.heap.size := by omega
  replace hsw4 := Lib.hid hsw4
  have HX4 := HBw4
  have hx4 := hlw4
  have HL4 := HLw4
  have HY4 := Lib.hid (HY3.out.below HL4.out (by omega))
  have HOm4 := Lib.hid (HOm.out.now HL4.out)
  have HOp4 := Lib.hid (own_below HOp.out HL4.out (Nat.le_refl _))
  have cm4 : w4.cell? ⟨w3.heap.size, 1, none⟩ = some (.slice Am nm cm) := HX4.out.cell 1
  obtain ⟨ad, z, rfl, hab, hcl, hz⟩ := (hLm.now HL4.out).at_ hi
  generalize ms.getD i lt0 = q at *
  obtain ⟨fr, t, bd⟩ := q
  obtain ⟨Ab, nb, cb, rfl, HLb, hb1, hb2, hzb⟩ := hz.nam
  have HCl2 : Hid (∀ j u, ([.int .i64 fr, .int .i64 t, .slice Ab nb cb] : List Value)[j]? = some u → w4.cell? ((ad.add (i * 3)).add j) = some u) := hcl
  have hnb : nb ≤ 2000 := by rw [← HLb.out]; exact hbq
  have HZb := Lib.hid hzb
  have hx34 : w.heap.size + 2 ≤ w4.heap.size := by omega
  clear HBw4 HLw4 hsw4 hlw4 HY3 HOm HOp hLm hcl hz hzb hbq
  go_upto_region 7 with (refine wpList_load_at 58 (.tmp 28) rfl rfl (ad.add (i * 3)) rfl [.int .i64 fr, .int .i64 t, .slice Ab nb cb] HCl2.out _ Try.underlying58 rfl (by kernel_rfl) ?_)
  have HBw5 := (Blk.new w4 58 #[.int .i64 fr, .int .i64 t, .slice Ab nb cb])
  have HLw5 := (below_new w4 (.cells #[.int .i64 fr, .int .i64 t, .slice Ab nb cb] 58))
  have hsw5 : (w4.alloc (.cells #[.int .i64 fr, .int .i64 t, .slice Ab nb cb] 58)).heap.size = w4.heap.size + 1 := by simp
  generalize w4.alloc (.cells #[.int .i64 fr, .int .i64 t, .slice Ab nb cb] 58) = w5 at HBw5 HLw5 hsw5 ⊢
  replace HBw5 := Lib.hid HBw5
  replace HLw5 := Lib.hid HLw5
  have hlw5 : w4.heap.size < w5.heap.size := by omega
  replace hsw5 := Lib.hid hsw5
  have HM5 := HBw5
  have hm5 := hlw5
  have HL5 := HLw5
  have HC := Lib.hid (clone_b Ab nb cb w5.heap.size bd w5 (HZb.out.now HL5.out) (by omega) (Nat.le_refl _))
  have HX5 := Lib.hid (HX4.out.below HL5.out hx4)
  have HY5 := Lib.hid (HY4.out.below HL5.out (by omega))
  have HOp5 := Lib.hid (own_below HOp4.out HL5.out (Nat.le_refl _))
  clear HBw5 HLw5 hsw5 hlw5 HCl2 HZb cm4 HX4 HY4 HOp4
  have y0 : w5.cell? ⟨w4.heap.size, 0, none⟩ = some (.int .i64 fr) := HM5.out.cell 0
  have y1 : w5.cell? ⟨w4.heap.size, 1, none⟩ = some (.int .i64 t) := HM5.out.cell 1
  have y2 : w5.cell? ⟨w4.heap.size, 2, none⟩ = some (.slice Ab nb cb) := HM5.out.cell 2
  go_wp2_with fail
  with_reducible refine HC.out.mono ?_
  rintro e w6 ⟨vz, rfl, hoz, hb6⟩
  have HM6 := Lib.hid (HM5.out.below hb6 hm5)
  have HX6 := Lib.hid (HX5.out.below hb6 (by omega))
  have HY6 := Lib.hid (HY5.out.below hb6 (by omega))
  have HOp6 := Lib.hid (own_below HOp5.out hb6 (Nat.le_refl _))
  have HL6 : Hid (Below w4.heap.size w4 w6) := hide (HL5.out.trans (hb6.mono HL5.out.size))
  have hone : vz.oneCell' = true := hoz.bytV.one
  have HOz := Lib.hid (OwnB.mono hoz (show w.heap.size + 2 ≤ w5.heap.size by omega))
  have hne : vz.ownBlock ≠ some w4.heap.size := fun e => by
    have := (hoz.lt _ e).1
    omega
  obtain ⟨Az, nz, cz, rfl, HLz, hz1, hz2, _⟩ := hoz.nam
  have cm6 : w6.cell? ⟨w3.heap.size, 1, none⟩ = some (.slice (some ad) nm cm) := HX6.out.cell 1
  clear y0 y1 y2 HM5 HX5 HY5 HOp5 HL5 hb6 hoz HC
  go_wp2_with
    (first
     | (refine wpList_store_field 56 (.tmp 33) (.tmp 32) rfl rfl w4.heap.size 2 (.slice Az nz cz) rfl rfl 58 _ HM6.out (by kernel_rfl) (by simp) rfl rfl ?_
        intro w7 hx7 hon7
        have HM7 : Hid (Blk w7 w4.heap.size 58 #[.int .i64 fr, .int .i64 t, .slice Az nz cz]) := hide hx7
        have HL7 : Hid (Below w4.heap.size w4 w7) := hide (hon7.below HL6.out (Nat.le_refl _))
        have HX7 := Lib.hid (hon7.blk HX6.out (by omega))
        have HY7 := Lib.hid (hon7.blk HY6.out (by omega))
        have HOp7 := Lib.hid (hon7.own HOp6.out (row_blk HOp6.out HM6.out (by decide)))
        have HOz7 := Lib.hid (hon7.own HOz.out hne)
        have HOm7 := Lib.hid (HOm4.out.now HL7.out)
        have cm7 : w7.cell? ⟨w3.heap.size, 1, none⟩ = some (.slice (some ad) nm cm) := HX7.out.cell 1
        obtain ⟨xs, hxs, hgr⟩ := HOm7.out.parts HNm.out
        have HXs := Lib.hid hxs
        have HGr := Lib.hid hgr
        have hx7s : w.heap.size + 2 ≤ w7.heap.size := Nat.le_trans hx34 HL7.out.size
        clear hx7 hon7 hxs hgr)
     | (refine wpList_load_blk rfl 58 (.tmp 7) rfl w4.heap.size rfl _ _ HM7.out _ Try.underlying58 rfl (by kernel_rfl) ?_)
     | (at_builtin
        refine wpList_app_lit ei_lt rfl (.tmp 35) (.tmp 37) rfl (w.heap.size + 2) (.slice (some ad) nm cm) nm xs rfl HXs.out 1 rfl rfl (by simp [Value.oneCell']) (by simp only [maxLen]; omega) (by omega) hx7s ?_
        intro v8 w8 hown8 hb8 hg8 _
        have HOm8 := Lib.hid (HGr.out w8 v8 ⟨fr, t, bd⟩ (.slice Az nz cz) hown8 (grownL_alloc hg8) HOz7.out)
        have hg8' := grownL_alloc hg8
        have HX8 := Lib.hid (HX7.out.grown hg8' (Ne.symm (row_blk HXs.out HX7.out (by decide))))
        have HY8 := Lib.hid (HY7.out.grown hg8' (Ne.symm (row_blk HXs.out HY7.out (by decide))))
        have HOp8 := Lib.hid (World.ownsRow.kept HOp7.out hg8' (own_ne HOp7.out HXs.out (by decide)))
        have HL8 : Hid (Below (w.heap.size + 2) w4 w8) := hide ((HL7.out.mono hx34).trans hb8)
        obtain ⟨A8, n8, c8, rfl, _, _, _, _⟩ := HOm8.out.nam
        clear hown8 hb8 hg8 hg8')
     | (refine wpList_store_field 25 (.tmp 39) (.tmp 38) rfl rfl w3.heap.size 1 (.slice A8 n8 c8) rfl rfl 27 _ HX8.out (by kernel_rfl) (by simp) rfl rfl ?_
        intro w10 hx10 hon10
        have HX10 : Hid (Blk w10 w3.heap.size 27 #[.slice A0 2 c0', .slice A8 n8 c8]) := hide hx10
        have HY10 := Lib.hid (hon10.blk HY8.out (by omega))
        have HOm10 := Lib.hid (HOm8.out.onlyT hon10 HX8.out (by decide) (by decide))
        have HOp10 := Lib.hid (hon10.own HOp8.out (row_blk HOp8.out HX8.out (by decide)))
        have HL10 : Hid (Below (w.heap.size + 2) w3 w10) := hide (hon10.below ((HL4.out.mono hs3).trans HL8.out) hs3)
        clear hx10 hon10)
     | (refine wpList_load_blk rfl 27 (.tmp 6) rfl w3.heap.size rfl _ _ HX10.out _ Try.underlying27 rfl (by kernel_rfl) ?_)
     | (refine wpList_store_blk rfl 27 (.tmp 4) (.tmp 40) rfl (w.heap.size + 1) #[.slice A0 2 c0', .slice A8 n8 c8] rfl rfl _ _ HY10.out (by kernel_rfl) rfl (by simp [Value.oneCell']) ?_
        intro w11 hx11 hon11
        have HX11 := Lib.hid hx11
        have HN11 : Hid (NetO w11 (.slice A0 2 c0') (.slice A8 n8 c8) ps (ms ++ [⟨fr, t, bd⟩])) := hide (netV_of (hon11.own HOp10.out (row_blk HOp10.out HY10.out (by decide))) (HOm10.out.onlyT hon11 HY10.out (by decide) (by decide)))
        have HB11 : Hid (Below w.heap.size w w11) := hide (hon11.below (HB3.out.trans (HL10.out.mono (by omega))) (by omega))
        clear hx11 hon11))
  refine bodyPost_ret (results_cell_row_tmp rfl _ _ (w.heap.size + 1) 27 _ _ _ rfl rfl HX11.out Try.underlying27 rfl (by kernel_rfl)) rfl ?_
  exact HFin.out _ _ _ HN11.out HB11.out
end
end Go.Proofs.Ytedeggjefnpjgaa
