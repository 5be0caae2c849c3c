/-
  Check of chapter 25 and of its reference, walked.
-/
import Derived.Test.YthlhphifibldnaaCodecV
import Derived.Test.YthlhphifibldnaaSealK
import Derived.Test.YthlhphifibldnaaMat
import Derived.Test.YthlhphifibldnaaMedN
import Derived.Test.YthlhphifibldnaaMedR
import Derived.Test.YthlhphifibldnaaMedY
import Derived.Test.YthlhphifibldnaaMedT
import Derived.Test.YthlhphifibldnaaMedS
import Derived.Test.YthlhphifibldnaaStr
import Derived.Test.YthlhphifibldnaaReg
namespace Go.Proofs.Ythlhphifibldnaa
open Go.RowKit

set_option maxRecDepth 100000 in
set_option maxHeartbeats 4000000 in
theorem check_bad (key : Nat) (m : Med) (w : World) (r : Int) (hr : RightE m r) (h0 : r ≠ 0) : Calls Try.prog 15 #[.int .u64 (key : Int), .agg #[.int .i64 m.ser, .int .i64 m.cnt, .int .i64 m.prd, .int .i64 m.fst, .int .i64 m.lft, .int .i64 m.tdy, .int .i64 m.lif, .int .i64 m.at_, .int .u64 m.tag]] w fun e w' => e = .returned (.bool false) ∧ Below w.heap.size w w' := by
  have HR : Hid (∀ W : World, Calls Try.prog 11 #[.agg #[.int .i64 m.ser, .int .i64 m.cnt, .int .i64 m.prd, .int .i64 m.fst, .int .i64 m.lft, .int .i64 m.tdy, .int .i64 m.lif, .int .i64 m.at_, .int .u64 m.tag]] W fun e w' => e = .returned (.int .i64 r) ∧ Below W.heap.size W w') := fun W => (mright_any m W).mono fun e w' ⟨r', he, h1, h2⟩ => ⟨by rw [he, h1.unique hr], h2⟩
  clear hr
  obtain ⟨ser, cnt, prd, fst, lft, tdy, lif, at_, tag⟩ := m
  have d1 : (r == 0) = false := beq_eq_false_iff_ne.2 h0
  have d2 : decide (r = 0) = false := by simpa using h0
  clear h0
  go_enter Try.func15, Try.ntmps15
  go_wp2_with fail
  have HBw0 := (Blk.new w 24 #[.int .i64 ser, .int .i64 cnt, .int .i64 prd, .int .i64 fst, .int .i64 lft, .int .i64 tdy, .int .i64 lif, .int .i64 at_, .int .u64 tag])
  have HLw0 := (below_new w (.cells #[.int .i64 ser, .int .i64 cnt, .int .i64 prd, .int .i64 fst, .int .i64 lft, .int .i64 tdy, .int .i64 lif, .int .i64 at_, .int .u64 tag] 24))
  have hsw0 : (w.alloc (.cells #[.int .i64 ser, .int .i64 cnt, .int .i64 prd, .int .i64 fst, .int .i64 lft, .int .i64 tdy, .int .i64 lif, .int .i64 at_, .int .u64 tag] 24)).heap.size = w.heap.size + 1 := by simp
  generalize w.alloc (.cells #[.int .i64 ser, .int .i64 cnt, .int .i64 prd, .int .i64 fst, .int .i64 lft, .int .i64 tdy, .int .i64 lif, .int .i64 at_, .int .u64 tag] 24) = w0 at HBw0 HLw0 hsw0 ⊢
  replace HBw0 := Lib.hid HBw0
  replace HLw0 := Lib.hid HLw0
  have hlw0 : w.heap.size < w0.heap.size := by omega
  replace hsw0 := Lib.hid hsw0
  refine wp_region_held_drew (S := fun W => W.cell? ⟨w.heap.size, 0, none⟩ = some (.int .i64 ser) ∧ W.cell? ⟨w.heap.size, 1, none⟩ = some (.int .i64 cnt) ∧ W.cell? ⟨w.heap.size, 2, none⟩ = some (.int .i64 prd) ∧ W.cell? ⟨w.heap.size, 3, none⟩ = some (.int .i64 fst) ∧ W.cell? ⟨w.heap.size, 4, none⟩ = some (.int .i64 lft) ∧ W.cell? ⟨w.heap.size, 5, none⟩ = some (.int .i64 tdy) ∧ W.cell? ⟨w.heap.size, 6, none⟩ = some (.int .i64 lif) ∧ W.cell? ⟨w.heap.size, 7, none⟩ = some (.int .i64 at_) ∧ W.cell? ⟨w.heap.size, 8, none⟩ = some (.int .u64 tag)) (by kernel_rfl) (⟨HBw0.out.cell 0, HBw0.out.cell 1, HBw0.out.cell 2, HBw0.out.cell 3, HBw0.out.cell 4, HBw0.out.cell 5, HBw0.out.cell 6, HBw0.out.cell 7, HBw0.out.cell 8⟩) (fun hHeld => ?_)
  refine held_run 0 (some 5) (.load 24 (.tmp 3)) ?v1_0 (by rfl) (by kernel_rfl) (by kernel_rfl) (by kernel_rfl) (fun _ _ _ h => h) (fun o ho w hS => ?y1_0) (by assumption) ?r1_0
  case y1_0 => (try dsimp only at hS); unfold execOp; simp only [ho]; go_simp; try with_reducible rfl
  try simp only [Act.put, List.setIfInBounds_toArray, List.set_cons_zero, List.set_cons_succ]
  refine held_call 1 (some 6) 11 [(.tmp 5)] #[24] #[.agg #[.int .i64 ser, .int .i64 cnt, .int .i64 prd, .int .i64 fst, .int .i64 lft, .int .i64 tdy, .int .i64 lif, .int .i64 at_, .int .u64 tag]] (by rfl) (by rfl) (by kernel_rfl) Try.func11 (by rfl) (by rfl) ?_
  refine (HR.out _).mono ?_
  rintro e w2 ⟨rfl, hb2⟩
  have HBx2 := Lib.hid ((HBw0.out.drewN 1).below hb2 hlw0)
  have HB2 := Lib.hid ((below_drewN HLw0.out 1).trans (hb2.mono HLw0.out.size))
  have hl2 : w.heap.size < w2.heap.size := Nat.lt_of_lt_of_le hlw0 hb2.size
  have hH2 : (fun W => W.cell? ⟨w.heap.size, 0, none⟩ = some (.int .i64 ser) ∧ W.cell? ⟨w.heap.size, 1, none⟩ = some (.int .i64 cnt) ∧ W.cell? ⟨w.heap.size, 2, none⟩ = some (.int .i64 prd) ∧ W.cell? ⟨w.heap.size, 3, none⟩ = some (.int .i64 fst) ∧ W.cell? ⟨w.heap.size, 4, none⟩ = some (.int .i64 lft) ∧ W.cell? ⟨w.heap.size, 5, none⟩ = some (.int .i64 tdy) ∧ W.cell? ⟨w.heap.size, 6, none⟩ = some (.int .i64 lif) ∧ W.cell? ⟨w.heap.size, 7, none⟩ = some (.int .i64 at_) ∧ W.cell? ⟨w.heap.size, 8, none⟩ = some (.int .u64 tag)) w2 := ⟨HBx2.out.cell 0, HBx2.out.cell 1, HBx2.out.cell 2, HBx2.out.cell 3, HBx2.out.cell 4, HBx2.out.cell 5, HBx2.out.cell 6, HBx2.out.cell 7, HBx2.out.cell 8⟩
  clear hb2
  refine ⟨_, rfl, hH2, ?_⟩
  try simp only [Act.put, List.setIfInBounds_toArray, List.set_cons_zero, List.set_cons_succ]
  refine held_run 2 (some 7) (.binOp .eql 26 (.tmp 6) (.const (.int .i64 0)) 26) ?v1_2 (by rfl) (by kernel_rfl) (by kernel_rfl) (by kernel_rfl) (fun _ _ _ h => h) (fun o ho w hS => ?y1_2) (by assumption) ?r1_2
  case y1_2 => (try dsimp only at hS); unfold execOp; simp only [ho]; go_simp; try with_reducible rfl
  try simp only [Act.put, List.setIfInBounds_toArray, List.set_cons_zero, List.set_cons_succ]
  refine held_run 3 (some 8) (.move (.tmp 7)) ?v1_3 (by rfl) (by kernel_rfl) (by kernel_rfl) (by kernel_rfl) (fun _ _ _ h => h) (fun o ho w hS => ?y1_3) (by assumption) ?r1_3
  case y1_3 => (try dsimp only at hS); unfold execOp; simp only [ho]; go_simp; try with_reducible rfl
  try simp only [Act.put, List.setIfInBounds_toArray, List.set_cons_zero, List.set_cons_succ]
  refine held_skip 4 (some 9) (by rfl) (by kernel_rfl) (by kernel_rfl) (by kernel_rfl) (fun _ _ _ h => h) (by assumption) ?_
  try simp only [Act.put, List.setIfInBounds_toArray, List.set_cons_zero, List.set_cons_succ]
  refine held_skip 5 (some 10) (by rfl) (by kernel_rfl) (by kernel_rfl) (by kernel_rfl) (fun _ _ _ h => h) (by assumption) ?_
  try simp only [Act.put, List.setIfInBounds_toArray, List.set_cons_zero, List.set_cons_succ]
  refine held_skip 6 (some 11) (by rfl) (by kernel_rfl) (by kernel_rfl) (by kernel_rfl) (fun _ _ _ h => h) (by assumption) ?_
  try simp only [Act.put, List.setIfInBounds_toArray, List.set_cons_zero, List.set_cons_succ]
  refine held_skip 7 (some 12) (by rfl) (by kernel_rfl) (by kernel_rfl) (by kernel_rfl) (fun _ _ _ h => h) (by assumption) ?_
  try simp only [Act.put, List.setIfInBounds_toArray, List.set_cons_zero, List.set_cons_succ]
  refine held_skip 8 (some 13) (by rfl) (by kernel_rfl) (by kernel_rfl) (by kernel_rfl) (fun _ _ _ h => h) (by assumption) ?_
  try simp only [Act.put, List.setIfInBounds_toArray, List.set_cons_zero, List.set_cons_succ]
  refine held_run 9 (some 14) (.pick (.tmp 8) (.tmp 13) (.const (Value.bool false))) ?v1_9 (by rfl) (by kernel_rfl) (by kernel_rfl) (by kernel_rfl) (fun _ _ _ h => h) (fun o ho w hS => ?y1_9) (by assumption) ?r1_9
  case y1_9 => (try dsimp only at hS); unfold execOp; simp only [ho]; go_simp; try with_reducible rfl
  try simp only [Act.put, List.setIfInBounds_toArray, List.set_cons_zero, List.set_cons_succ]
  refine held_run 10 (some 4) (.assign (.tmp 14)) ?v1_10 (by rfl) (by kernel_rfl) (by kernel_rfl) (by kernel_rfl) (fun _ _ _ h => h) (fun o ho w hS => ?y1_10) (by assumption) ?r1_10
  case y1_10 => (try dsimp only at hS); unfold execOp; simp only [ho]; go_simp; try with_reducible rfl
  try simp only [Act.put, List.setIfInBounds_toArray, List.set_cons_zero, List.set_cons_succ]
  refine wpAnyH_done (by kernel_rfl) ?_ _
  go_wp2_with fail
  go_ret
  exact ⟨rfl, HB2.out⟩

set_option maxRecDepth 100000 in
set_option maxHeartbeats 4000000 in
theorem check_yes (key : Nat) (m : Med) (w : World) (hk : key < 18446744073709551616) (hr : RightE m 0) (ht : m.tag = ((tagM key m : Nat) : Int)) : Calls Try.prog 15 #[.int .u64 (key : Int), .agg #[.int .i64 m.ser, .int .i64 m.cnt, .int .i64 m.prd, .int .i64 m.fst, .int .i64 m.lft, .int .i64 m.tdy, .int .i64 m.lif, .int .i64 m.at_, .int .u64 m.tag]] w fun e w' => e = .returned (.bool true) ∧ Below w.heap.size w w' := by
  have HR : Hid (∀ W : World, Calls Try.prog 11 #[.agg #[.int .i64 m.ser, .int .i64 m.cnt, .int .i64 m.prd, .int .i64 m.fst, .int .i64 m.lft, .int .i64 m.tdy, .int .i64 m.lif, .int .i64 m.at_, .int .u64 m.tag]] W fun e w' => e = .returned (.int .i64 0) ∧ Below W.heap.size W w') := fun W => (mright_any m W).mono fun e w' ⟨r', he, h1, h2⟩ => ⟨by rw [he, h1.unique hr], h2⟩
  have HS : Hid (∀ W : World, Calls Try.prog 17 #[.int .u64 (key : Int), .agg #[.int .i64 m.ser, .int .i64 m.cnt, .int .i64 m.prd, .int .i64 m.fst, .int .i64 m.lft, .int .i64 m.tdy, .int .i64 m.lif, .int .i64 m.at_, .int .u64 m.tag]] W fun e w' => e = .returned (.agg #[.int .i64 m.ser, .int .i64 m.cnt, .int .i64 m.prd, .int .i64 m.fst, .int .i64 m.lft, .int .i64 m.tdy, .int .i64 m.lif, .int .i64 m.at_, .int .u64 ((tagM key m : Nat) : Int)]) ∧ Below W.heap.size W w') := fun W => sign_any key hk m W hr.ok.1
  generalize tagM key m = T at *
  clear hr hk
  obtain ⟨ser, cnt, prd, fst, lft, tdy, lif, at_, tag⟩ := m
  simp only at ht
  have d1 : (tag == (T : Int)) = true := beq_iff_eq.2 ht
  have d2 : ((T : Int) == tag) = true := beq_iff_eq.2 ht.symm
  clear ht
  go_enter Try.func15, Try.ntmps15
  go_wp2_with fail
  have HBw0 := (Blk.new w 24 #[.int .i64 ser, .int .i64 cnt, .int .i64 prd, .int .i64 fst, .int .i64 lft, .int .i64 tdy, .int .i64 lif, .int .i64 at_, .int .u64 tag])
  have HLw0 := (below_new w (.cells #[.int .i64 ser, .int .i64 cnt, .int .i64 prd, .int .i64 fst, .int .i64 lft, .int .i64 tdy, .int .i64 lif, .int .i64 at_, .int .u64 tag] 24))
  have hsw0 : (w.alloc (.cells #[.int .i64 ser, .int .i64 cnt, .int .i64 prd, .int .i64 fst, .int .i64 lft, .int .i64 tdy, .int .i64 lif, .int .i64 at_, .int .u64 tag] 24)).heap.size = w.heap.size + 1 := by simp
  generalize w.alloc (.cells #[.int .i64 ser, .int .i64 cnt, .int .i64 prd, .int .i64 fst, .int .i64 lft, .int .i64 tdy, .int .i64 lif, .int .i64 at_, .int .u64 tag] 24) = w0 at HBw0 HLw0 hsw0 ⊢
  replace HBw0 := Lib.hid HBw0
  replace HLw0 := Lib.hid HLw0
  have hlw0 : w.heap.size < w0.heap.size := by omega
  replace hsw0 := Lib.hid hsw0
  refine wp_region_held_drew (S := fun W => W.cell? ⟨w.heap.size, 0, none⟩ = some (.int .i64 ser) ∧ W.cell? ⟨w.heap.size, 1, none⟩ = some (.int .i64 cnt) ∧ W.cell? ⟨w.heap.size, 2, none⟩ = some (.int .i64 prd) ∧ W.cell? ⟨w.heap.size, 3, none⟩ = some (.int .i64 fst) ∧ W.cell? ⟨w.heap.size, 4, none⟩ = some (.int .i64 lft) ∧ W.cell? ⟨w.heap.size, 5, none⟩ = some (.int .i64 tdy) ∧ W.cell? ⟨w.heap.size, 6, none⟩ = some (.int .i64 lif) ∧ W.cell? ⟨w.heap.size, 7, none⟩ = some (.int .i64 at_) ∧ W.cell? ⟨w.heap.size, 8, none⟩ = some (.int .u64 tag)) (by kernel_rfl) (⟨HBw0.out.cell 0, HBw0.out.cell 1, HBw0.out.cell 2, HBw0.out.cell 3, HBw0.out.cell 4, HBw0.out.cell 5, HBw0.out.cell 6, HBw0.out.cell 7, HBw0.out.cell 8⟩) (fun hHeld => ?_)
  refine held_run 0 (some 5) (.load 24 (.tmp 3)) ?v1_0 (by rfl) (by kernel_rfl) (by kernel_rfl) (by kernel_rfl) (fun _ _ _ h => h) (fun o ho w hS => ?y1_0) (by assumption) ?r1_0
  case y1_0 => (try dsimp only at hS); unfold execOp; simp only [ho]; go_simp; try with_reducible rfl
  try simp only [Act.put, List.setIfInBounds_toArray, List.set_cons_zero, List.set_cons_succ]
  refine held_call 1 (some 6) 11 [(.tmp 5)] #[24] #[.agg #[.int .i64 ser, .int .i64 cnt, .int .i64 prd, .int .i64 fst, .int .i64 lft, .int .i64 tdy, .int .i64 lif, .int .i64 at_, .int .u64 tag]] (by rfl) (by rfl) (by kernel_rfl) Try.func11 (by rfl) (by rfl) ?_
  refine (HR.out _).mono ?_
  rintro e w2 ⟨rfl, hb2⟩
  have HBx2 := Lib.hid ((HBw0.out.drewN 1).below hb2 hlw0)
  have HB2 := Lib.hid ((below_drewN HLw0.out 1).trans (hb2.mono HLw0.out.size))
  have hl2 : w.heap.size < w2.heap.size := Nat.lt_of_lt_of_le hlw0 hb2.size
  have hH2 : (fun W => W.cell? ⟨w.heap.size, 0, none⟩ = some (.int .i64 ser) ∧ W.cell? ⟨w.heap.size, 1, none⟩ = some (.int .i64 cnt) ∧ W.cell? ⟨w.heap.size, 2, none⟩ = some (.int .i64 prd) ∧ W.cell? ⟨w.heap.size, 3, none⟩ = some (.int .i64 fst) ∧ W.cell? ⟨w.heap.size, 4, none⟩ = some (.int .i64 lft) ∧ W.cell? ⟨w.heap.size, 5, none⟩ = some (.int .i64 tdy) ∧ W.cell? ⟨w.heap.size, 6, none⟩ = some (.int .i64 lif) ∧ W.cell? ⟨w.heap.size, 7, none⟩ = some (.int .i64 at_) ∧ W.cell? ⟨w.heap.size, 8, none⟩ = some (.int .u64 tag)) w2 := ⟨HBx2.out.cell 0, HBx2.out.cell 1, HBx2.out.cell 2, HBx2.out.cell 3, HBx2.out.cell 4, HBx2.out.cell 5, HBx2.out.cell 6, HBx2.out.cell 7, HBx2.out.cell 8⟩
  clear hb2
  refine ⟨_, rfl, hH2, ?_⟩
  try simp only [Act.put, List.setIfInBounds_toArray, List.set_cons_zero, List.set_cons_succ]
  refine held_run 2 (some 7) (.binOp .eql 26 (.tmp 6) (.const (.int .i64 0)) 26) ?v1_2 (by rfl) (by kernel_rfl) (by kernel_rfl) (by kernel_rfl) (fun _ _ _ h => h) (fun o ho w hS => ?y1_2) (by assumption) ?r1_2
  case y1_2 => (try dsimp only at hS); unfold execOp; simp only [ho]; go_simp; try with_reducible rfl
  try simp only [Act.put, List.setIfInBounds_toArray, List.set_cons_zero, List.set_cons_succ]
  refine held_run 3 (some 8) (.move (.tmp 7)) ?v1_3 (by rfl) (by kernel_rfl) (by kernel_rfl) (by kernel_rfl) (fun _ _ _ h => h) (fun o ho w hS => ?y1_3) (by assumption) ?r1_3
  case y1_3 => (try dsimp only at hS); unfold execOp; simp only [ho]; go_simp; try with_reducible rfl
  try simp only [Act.put, List.setIfInBounds_toArray, List.set_cons_zero, List.set_cons_succ]
  refine held_run 4 (some 9) (.move (.tmp 0)) ?v1_4 (by rfl) (by kernel_rfl) (by kernel_rfl) (by kernel_rfl) (fun _ _ _ h => h) (fun o ho w hS => ?y1_4) (by assumption) ?r1_4
  case y1_4 => (try dsimp only at hS); unfold execOp; simp only [ho]; go_simp; try with_reducible rfl
  try simp only [Act.put, List.setIfInBounds_toArray, List.set_cons_zero, List.set_cons_succ]
  refine held_run 5 (some 10) (.load 24 (.tmp 3)) ?v1_5 (by rfl) (by kernel_rfl) (by kernel_rfl) (by kernel_rfl) (fun _ _ _ h => h) (fun o ho w hS => ?y1_5) (by assumption) ?r1_5
  case y1_5 => (try dsimp only at hS); unfold execOp; simp only [ho]; go_simp; try with_reducible rfl
  try simp only [Act.put, List.setIfInBounds_toArray, List.set_cons_zero, List.set_cons_succ]
  refine held_run 7 (some 12) (.load 24 (.tmp 3)) ?v1_7 (by rfl) (by kernel_rfl) (by kernel_rfl) (by kernel_rfl) (fun _ _ _ h => h) (fun o ho w hS => ?y1_7) (by assumption) ?r1_7
  case y1_7 => (try dsimp only at hS); unfold execOp; simp only [ho]; go_simp; try with_reducible rfl
  try simp only [Act.put, List.setIfInBounds_toArray, List.set_cons_zero, List.set_cons_succ]
  refine held_call 6 (some 11) 17 [(.tmp 9), (.tmp 10)] #[22, 24] #[.int .u64 (key : Int), .agg #[.int .i64 ser, .int .i64 cnt, .int .i64 prd, .int .i64 fst, .int .i64 lft, .int .i64 tdy, .int .i64 lif, .int .i64 at_, .int .u64 tag]] (by rfl) (by rfl) (by kernel_rfl) Try.func17 (by rfl) (by rfl) ?_
  refine (HS.out _).mono ?_
  rintro e w3 ⟨rfl, hb3⟩
  have HBx3 := Lib.hid (HBx2.out.below hb3 hl2)
  have HB3 := Lib.hid (HB2.out.trans (hb3.mono HB2.out.size))
  have hH3 : (fun W => W.cell? ⟨w.heap.size, 0, none⟩ = some (.int .i64 ser) ∧ W.cell? ⟨w.heap.size, 1, none⟩ = some (.int .i64 cnt) ∧ W.cell? ⟨w.heap.size, 2, none⟩ = some (.int .i64 prd) ∧ W.cell? ⟨w.heap.size, 3, none⟩ = some (.int .i64 fst) ∧ W.cell? ⟨w.heap.size, 4, none⟩ = some (.int .i64 lft) ∧ W.cell? ⟨w.heap.size, 5, none⟩ = some (.int .i64 tdy) ∧ W.cell? ⟨w.heap.size, 6, none⟩ = some (.int .i64 lif) ∧ W.cell? ⟨w.heap.size, 7, none⟩ = some (.int .i64 at_) ∧ W.cell? ⟨w.heap.size, 8, none⟩ = some (.int .u64 tag)) w3 := ⟨HBx3.out.cell 0, HBx3.out.cell 1, HBx3.out.cell 2, HBx3.out.cell 3, HBx3.out.cell 4, HBx3.out.cell 5, HBx3.out.cell 6, HBx3.out.cell 7, HBx3.out.cell 8⟩
  clear hb3
  refine ⟨_, rfl, hH3, ?_⟩
  try simp only [Act.put, List.setIfInBounds_toArray, List.set_cons_zero, List.set_cons_succ]
  refine held_run 8 (some 13) (.binOp .eql 24 (.tmp 11) (.tmp 12) 24) ?v1_8 (by rfl) (by kernel_rfl) (by kernel_rfl) (by kernel_rfl) (fun _ _ _ h => h) (fun o ho w hS => ?y1_8) (by assumption) ?r1_8
  case y1_8 => (try dsimp only at hS); unfold execOp; simp only [ho]; go_simp; try with_reducible rfl
  try simp only [Act.put, List.setIfInBounds_toArray, List.set_cons_zero, List.set_cons_succ]
  refine held_run 9 (some 14) (.pick (.tmp 8) (.tmp 13) (.const (Value.bool false))) ?v1_9 (by rfl) (by kernel_rfl) (by kernel_rfl) (by kernel_rfl) (fun _ _ _ h => h) (fun o ho w hS => ?y1_9) (by assumption) ?r1_9
  case y1_9 => (try dsimp only at hS); unfold execOp; simp only [ho]; go_simp; try with_reducible rfl
  try simp only [Act.put, List.setIfInBounds_toArray, List.set_cons_zero, List.set_cons_succ]
  refine held_run 10 (some 4) (.assign (.tmp 14)) ?v1_10 (by rfl) (by kernel_rfl) (by kernel_rfl) (by kernel_rfl) (fun _ _ _ h => h) (fun o ho w hS => ?y1_10) (by assumption) ?r1_10
  case y1_10 => (try dsimp only at hS); unfold execOp; simp only [ho]; go_simp; try with_reducible rfl
  try simp only [Act.put, List.setIfInBounds_toArray, List.set_cons_zero, List.set_cons_succ]
  refine wpAnyH_done (by kernel_rfl) ?_ _
  go_wp2_with fail
  go_ret
  exact ⟨rfl, HB3.out⟩

set_option maxRecDepth 100000 in
set_option maxHeartbeats 4000000 in
theorem check_no (key : Nat) (m : Med) (w : World) (hk : key < 18446744073709551616) (hr : RightE m 0) (ht : m.tag ≠ ((tagM key m : Nat) : Int)) : Calls Try.prog 15 #[.int .u64 (key : Int), .agg #[.int .i64 m.ser, .int .i64 m.cnt, .int .i64 m.prd, .int .i64 m.fst, .int .i64 m.lft, .int .i64 m.tdy, .int .i64 m.lif, .int .i64 m.at_, .int .u64 m.tag]] w fun e w' => e = .returned (.bool false) ∧ Below w.heap.size w w' := by
  have HR : Hid (∀ W : World, Calls Try.prog 11 #[.agg #[.int .i64 m.ser, .int .i64 m.cnt, .int .i64 m.prd, .int .i64 m.fst, .int .i64 m.lft, .int .i64 m.tdy, .int .i64 m.lif, .int .i64 m.at_, .int .u64 m.tag]] W fun e w' => e = .returned (.int .i64 0) ∧ Below W.heap.size W w') := fun W => (mright_any m W).mono fun e w' ⟨r', he, h1, h2⟩ => ⟨by rw [he, h1.unique hr], h2⟩
  have HS : Hid (∀ W : World, Calls Try.prog 17 #[.int .u64 (key : Int), .agg #[.int .i64 m.ser, .int .i64 m.cnt, .int .i64 m.prd, .int .i64 m.fst, .int .i64 m.lft, .int .i64 m.tdy, .int .i64 m.lif, .int .i64 m.at_, .int .u64 m.tag]] W fun e w' => e = .returned (.agg #[.int .i64 m.ser, .int .i64 m.cnt, .int .i64 m.prd, .int .i64 m.fst, .int .i64 m.lft, .int .i64 m.tdy, .int .i64 m.lif, .int .i64 m.at_, .int .u64 ((tagM key m : Nat) : Int)]) ∧ Below W.heap.size W w') := fun W => sign_any key hk m W hr.ok.1
  generalize tagM key m = T at *
  clear hr hk
  obtain ⟨ser, cnt, prd, fst, lft, tdy, lif, at_, tag⟩ := m
  simp only at ht
  have d1 : (tag == (T : Int)) = false := beq_eq_false_iff_ne.2 ht
  have d2 : ((T : Int) == tag) = false := beq_eq_false_iff_ne.2 (Ne.symm ht)
  clear ht
  go_enter Try.func15, Try.ntmps15
  go_wp2_with fail
  have HBw0 := (Blk.new w 24 #[.int .i64 ser, .int .i64 cnt, .int .i64 prd, .int .i64 fst, .int .i64 lft, .int .i64 tdy, .int .i64 lif, .int .i64 at_, .int .u64 tag])
  have HLw0 := (below_new w (.cells #[.int .i64 ser, .int .i64 cnt, .int .i64 prd, .int .i64 fst, .int .i64 lft, .int .i64 tdy, .int .i64 lif, .int .i64 at_, .int .u64 tag] 24))
  have hsw0 : (w.alloc (.cells #[.int .i64 ser, .int .i64 cnt, .int .i64 prd, .int .i64 fst, .int .i64 lft, .int .i64 tdy, .int .i64 lif, .int .i64 at_, .int .u64 tag] 24)).heap.size = w.heap.size + 1 := by simp
  generalize w.alloc (.cells #[.int .i64 ser, .int .i64 cnt, .int .i64 prd, .int .i64 fst, .int .i64 lft, .int .i64 tdy, .int .i64 lif, .int .i64 at_, .int .u64 tag] 24) = w0 at HBw0 HLw0 hsw0 ⊢
  replace HBw0 := Lib.hid HBw0
  replace HLw0 := Lib.hid HLw0
  have hlw0 : w.heap.size < w0.heap.size := by omega
  replace hsw0 := Lib.hid hsw0
  refine wp_region_held_drew (S := fun W => W.cell? ⟨w.heap.size, 0, none⟩ = some (.int .i64 ser) ∧ W.cell? ⟨w.heap.size, 1, none⟩ = some (.int .i64 cnt) ∧ W.cell? ⟨w.heap.size, 2, none⟩ = some (.int .i64 prd) ∧ W.cell? ⟨w.heap.size, 3, none⟩ = some (.int .i64 fst) ∧ W.cell? ⟨w.heap.size, 4, none⟩ = some (.int .i64 lft) ∧ W.cell? ⟨w.heap.size, 5, none⟩ = some (.int .i64 tdy) ∧ W.cell? ⟨w.heap.size, 6, none⟩ = some (.int .i64 lif) ∧ W.cell? ⟨w.heap.size, 7, none⟩ = some (.int .i64 at_) ∧ W.cell? ⟨w.heap.size, 8, none⟩ = some (.int .u64 tag)) (by kernel_rfl) (⟨HBw0.out.cell 0, HBw0.out.cell 1, HBw0.out.cell 2, HBw0.out.cell 3, HBw0.out.cell 4, HBw0.out.cell 5, HBw0.out.cell 6, HBw0.out.cell 7, HBw0.out.cell 8⟩) (fun hHeld => ?_)
  refine held_run 0 (some 5) (.load 24 (.tmp 3)) ?v1_0 (by rfl) (by kernel_rfl) (by kernel_rfl) (by kernel_rfl) (fun _ _ _ h => h) (fun o ho w hS => ?y1_0) (by assumption) ?r1_0
  case y1_0 => (try dsimp only at hS); unfold execOp; simp only [ho]; go_simp; try with_reducible rfl
  try simp only [Act.put, List.setIfInBounds_toArray, List.set_cons_zero, List.set_cons_succ]
  refine held_call 1 (some 6) 11 [(.tmp 5)] #[24] #[.agg #[.int .i64 ser, .int .i64 cnt, .int .i64 prd, .int .i64 fst, .int .i64 lft, .int .i64 tdy, .int .i64 lif, .int .i64 at_, .int .u64 tag]] (by rfl) (by rfl) (by kernel_rfl) Try.func11 (by rfl) (by rfl) ?_
  refine (HR.out _).mono ?_
  rintro e w2 ⟨rfl, hb2⟩
  have HBx2 := Lib.hid ((HBw0.out.drewN 1).below hb2 hlw0)
  have HB2 := Lib.hid ((below_drewN HLw0.out 1).trans (hb2.mono HLw0.out.size))
  have hl2 : w.heap.size < w2.heap.size := Nat.lt_of_lt_of_le hlw0 hb2.size
  have hH2 : (fun W => W.cell? ⟨w.heap.size, 0, none⟩ = some (.int .i64 ser) ∧ W.cell? ⟨w.heap.size, 1, none⟩ = some (.int .i64 cnt) ∧ W.cell? ⟨w.heap.size, 2, none⟩ = some (.int .i64 prd) ∧ W.cell? ⟨w.heap.size, 3, none⟩ = some (.int .i64 fst) ∧ W.cell? ⟨w.heap.size, 4, none⟩ = some (.int .i64 lft) ∧ W.cell? ⟨w.heap.size, 5, none⟩ = some (.int .i64 tdy) ∧ W.cell? ⟨w.heap.size, 6, none⟩ = some (.int .i64 lif) ∧ W.cell? ⟨w.heap.size, 7, none⟩ = some (.int .i64 at_) ∧ W.cell? ⟨w.heap.size, 8, none⟩ = some (.int .u64 tag)) w2 := ⟨HBx2.out.cell 0, HBx2.out.cell 1, HBx2.out.cell 2, HBx2.out.cell 3, HBx2.out.cell 4, HBx2.out.cell 5, HBx2.out.cell 6, HBx2.out.cell 7, HBx2.out.cell 8⟩
  clear hb2
  refine ⟨_, rfl, hH2, ?_⟩
  try simp only [Act.put, List.setIfInBounds_toArray, List.set_cons_zero, List.set_cons_succ]
  refine held_run 2 (some 7) (.binOp .eql 26 (.tmp 6) (.const (.int .i64 0)) 26) ?v1_2 (by rfl) (by kernel_rfl) (by kernel_rfl) (by kernel_rfl) (fun _ _ _ h => h) (fun o ho w hS => ?y1_2) (by assumption) ?r1_2
  case y1_2 => (try dsimp only at hS); unfold execOp; simp only [ho]; go_simp; try with_reducible rfl
  try simp only [Act.put, List.setIfInBounds_toArray, List.set_cons_zero, List.set_cons_succ]
  refine held_run 3 (some 8) (.move (.tmp 7)) ?v1_3 (by rfl) (by kernel_rfl) (by kernel_rfl) (by kernel_rfl) (fun _ _ _ h => h) (fun o ho w hS => ?y1_3) (by assumption) ?r1_3
  case y1_3 => (try dsimp only at hS); unfold execOp; simp only [ho]; go_simp; try with_reducible rfl
  try simp only [Act.put, List.setIfInBounds_toArray, List.set_cons_zero, List.set_cons_succ]
  refine held_run 4 (some 9) (.move (.tmp 0)) ?v1_4 (by rfl) (by kernel_rfl) (by kernel_rfl) (by kernel_rfl) (fun _ _ _ h => h) (fun o ho w hS => ?y1_4) (by assumption) ?r1_4
  case y1_4 => (try dsimp only at hS); unfold execOp; simp only [ho]; go_simp; try with_reducible rfl
  try simp only [Act.put, List.setIfInBounds_toArray, List.set_cons_zero, List.set_cons_succ]
  refine held_run 5 (some 10) (.load 24 (.tmp 3)) ?v1_5 (by rfl) (by kernel_rfl) (by kernel_rfl) (by kernel_rfl) (fun _ _ _ h => h) (fun o ho w hS => ?y1_5) (by assumption) ?r1_5
  case y1_5 => (try dsimp only at hS); unfold execOp; simp only [ho]; go_simp; try with_reducible rfl
  try simp only [Act.put, List.setIfInBounds_toArray, List.set_cons_zero, List.set_cons_succ]
  refine held_run 7 (some 12) (.load 24 (.tmp 3)) ?v1_7 (by rfl) (by kernel_rfl) (by kernel_rfl) (by kernel_rfl) (fun _ _ _ h => h) (fun o ho w hS => ?y1_7) (by assumption) ?r1_7
  case y1_7 => (try dsimp only at hS); unfold execOp; simp only [ho]; go_simp; try with_reducible rfl
  try simp only [Act.put, List.setIfInBounds_toArray, List.set_cons_zero, List.set_cons_succ]
  refine held_call 6 (some 11) 17 [(.tmp 9), (.tmp 10)] #[22, 24] #[.int .u64 (key : Int), .agg #[.int .i64 ser, .int .i64 cnt, .int .i64 prd, .int .i64 fst, .int .i64 lft, .int .i64 tdy, .int .i64 lif, .int .i64 at_, .int .u64 tag]] (by rfl) (by rfl) (by kernel_rfl) Try.func17 (by rfl) (by rfl) ?_
  refine (HS.out _).mono ?_
  rintro e w3 ⟨rfl, hb3⟩
  have HBx3 := Lib.hid (HBx2.out.below hb3 hl2)
  have HB3 := Lib.hid (HB2.out.trans (hb3.mono HB2.out.size))
  have hH3 : (fun W => W.cell? ⟨w.heap.size, 0, none⟩ = some (.int .i64 ser) ∧ W.cell? ⟨w.heap.size, 1, none⟩ = some (.int .i64 cnt) ∧ W.cell? ⟨w.heap.size, 2, none⟩ = some (.int .i64 prd) ∧ W.cell? ⟨w.heap.size, 3, none⟩ = some (.int .i64 fst) ∧ W.cell? ⟨w.heap.size, 4, none⟩ = some (.int .i64 lft) ∧ W.cell? ⟨w.heap.size, 5, none⟩ = some (.int .i64 tdy) ∧ W.cell? ⟨w.heap.size, 6, none⟩ = some (.int .i64 lif) ∧ W.cell? ⟨w.heap.size, 7, none⟩ = some (.int .i64 at_) ∧ W.cell? ⟨w.heap.size, 8, none⟩ = some (.int .u64 tag)) w3 := ⟨HBx3.out.cell 0, HBx3.out.cell 1, HBx3.out.cell 2, HBx3.out.cell 3, HBx3.out.cell 4, HBx3.out.cell 5, HBx3.out.cell 6, HBx3.out.cell 7, HBx3.out.cell 8⟩
  clear hb3
  refine ⟨_, rfl, hH3, ?_⟩
  try simp only [Act.put, List.setIfInBounds_toArray, List.set_cons_zero, List.set_cons_succ]
  refine held_run 8 (some 13) (.binOp .eql 24 (.tmp 11) (.tmp 12) 24) ?v1_8 (by rfl) (by kernel_rfl) (by kernel_rfl) (by kernel_rfl) (fun _ _ _ h => h) (fun o ho w hS => ?y1_8) (by assumption) ?r1_8
  case y1_8 => (try dsimp only at hS); unfold execOp; simp only [ho]; go_simp; try with_reducible rfl
  try simp only [Act.put, List.setIfInBounds_toArray, List.set_cons_zero, List.set_cons_succ]
  refine held_run 9 (some 14) (.pick (.tmp 8) (.tmp 13) (.const (Value.bool false))) ?v1_9 (by rfl) (by kernel_rfl) (by kernel_rfl) (by kernel_rfl) (fun _ _ _ h => h) (fun o ho w hS => ?y1_9) (by assumption) ?r1_9
  case y1_9 => (try dsimp only at hS); unfold execOp; simp only [ho]; go_simp; try with_reducible rfl
  try simp only [Act.put, List.setIfInBounds_toArray, List.set_cons_zero, List.set_cons_succ]
  refine held_run 10 (some 4) (.assign (.tmp 14)) ?v1_10 (by rfl) (by kernel_rfl) (by kernel_rfl) (by kernel_rfl) (fun _ _ _ h => h) (fun o ho w hS => ?y1_10) (by assumption) ?r1_10
  case y1_10 => (try dsimp only at hS); unfold execOp; simp only [ho]; go_simp; try with_reducible rfl
  try simp only [Act.put, List.setIfInBounds_toArray, List.set_cons_zero, List.set_cons_succ]
  refine wpAnyH_done (by kernel_rfl) ?_ _
  go_wp2_with fail
  go_ret
  exact ⟨rfl, HB3.out⟩

set_option maxRecDepth 100000 in
set_option maxHeartbeats 4000000 in
theorem rcheck_bad (key : Nat) (m : Med) (w : World) (r : Int) (hr : RightE m r) (h0 : r ≠ 0) : Calls Try.prog 16 #[.int .u64 (key : Int), .agg #[.int .i64 m.ser, .int .i64 m.cnt, .int .i64 m.prd, .int .i64 m.fst, .int .i64 m.lft, .int .i64 m.tdy, .int .i64 m.lif, .int .i64 m.at_, .int .u64 m.tag]] w fun e w' => e = .returned (.bool false) ∧ Below w.heap.size w w' := by
  have HR : Hid (∀ W : World, Calls Try.prog 12 #[.agg #[.int .i64 m.ser, .int .i64 m.cnt, .int .i64 m.prd, .int .i64 m.fst, .int .i64 m.lft, .int .i64 m.tdy, .int .i64 m.lif, .int .i64 m.at_, .int .u64 m.tag]] W fun e w' => e = .returned (.int .i64 r) ∧ Below W.heap.size W w') := fun W => (rright_any m W).mono fun e w' ⟨r', he, h1, h2⟩ => ⟨by rw [he, h1.unique hr], h2⟩
  clear hr
  obtain ⟨ser, cnt, prd, fst, lft, tdy, lif, at_, tag⟩ := m
  have d1 : (r == 0) = false := beq_eq_false_iff_ne.2 h0
  have d2 : decide (r = 0) = false := by simpa using h0
  clear h0
  go_enter Try.func16, Try.ntmps16
  go_wp2_with fail
  have HBw0 := (Blk.new w 24 #[.int .i64 ser, .int .i64 cnt, .int .i64 prd, .int .i64 fst, .int .i64 lft, .int .i64 tdy, .int .i64 lif, .int .i64 at_, .int .u64 tag])
  have HLw0 := (below_new w (.cells #[.int .i64 ser, .int .i64 cnt, .int .i64 prd, .int .i64 fst, .int .i64 lft, .int .i64 tdy, .int .i64 lif, .int .i64 at_, .int .u64 tag] 24))
  have hsw0 : (w.alloc (.cells #[.int .i64 ser, .int .i64 cnt, .int .i64 prd, .int .i64 fst, .int .i64 lft, .int .i64 tdy, .int .i64 lif, .int .i64 at_, .int .u64 tag] 24)).heap.size = w.heap.size + 1 := by simp
  generalize w.alloc (.cells #[.int .i64 ser, .int .i64 cnt, .int .i64 prd, .int .i64 fst, .int .i64 lft, .int .i64 tdy, .int .i64 lif, .int .i64 at_, .int .u64 tag] 24) = w0 at HBw0 HLw0 hsw0 ⊢
  replace HBw0 := Lib.hid HBw0
  replace HLw0 := Lib.hid HLw0
  have hlw0 : w.heap.size < w0.heap.size := by omega
  replace hsw0 := Lib.hid hsw0
  refine wp_region_held_drew (S := fun W => W.cell? ⟨w.heap.size, 0, none⟩ = some (.int .i64 ser) ∧ W.cell? ⟨w.heap.size, 1, none⟩ = some (.int .i64 cnt) ∧ W.cell? ⟨w.heap.size, 2, none⟩ = some (.int .i64 prd) ∧ W.cell? ⟨w.heap.size, 3, none⟩ = some (.int .i64 fst) ∧ W.cell? ⟨w.heap.size, 4, none⟩ = some (.int .i64 lft) ∧ W.cell? ⟨w.heap.size, 5, none⟩ = some (.int .i64 tdy) ∧ W.cell? ⟨w.heap.size, 6, none⟩ = some (.int .i64 lif) ∧ W.cell? ⟨w.heap.size, 7, none⟩ = some (.int .i64 at_) ∧ W.cell? ⟨w.heap.size, 8, none⟩ = some (.int .u64 tag)) (by kernel_rfl) (⟨HBw0.out.cell 0, HBw0.out.cell 1, HBw0.out.cell 2, HBw0.out.cell 3, HBw0.out.cell 4, HBw0.out.cell 5, HBw0.out.cell 6, HBw0.out.cell 7, HBw0.out.cell 8⟩) (fun hHeld => ?_)
  refine held_run 0 (some 5) (.load 24 (.tmp 3)) ?v1_0 (by rfl) (by kernel_rfl) (by kernel_rfl) (by kernel_rfl) (fun _ _ _ h => h) (fun o ho w hS => ?y1_0) (by assumption) ?r1_0
  case y1_0 => (try dsimp only at hS); unfold execOp; simp only [ho]; go_simp; try with_reducible rfl
  try simp only [Act.put, List.setIfInBounds_toArray, List.set_cons_zero, List.set_cons_succ]
  refine held_call 1 (some 6) 12 [(.tmp 5)] #[24] #[.agg #[.int .i64 ser, .int .i64 cnt, .int .i64 prd, .int .i64 fst, .int .i64 lft, .int .i64 tdy, .int .i64 lif, .int .i64 at_, .int .u64 tag]] (by rfl) (by rfl) (by kernel_rfl) Try.func12 (by rfl) (by rfl) ?_
  refine (HR.out _).mono ?_
  rintro e w2 ⟨rfl, hb2⟩
  have HBx2 := Lib.hid ((HBw0.out.drewN 1).below hb2 hlw0)
  have HB2 := Lib.hid ((below_drewN HLw0.out 1).trans (hb2.mono HLw0.out.size))
  have hl2 : w.heap.size < w2.heap.size := Nat.lt_of_lt_of_le hlw0 hb2.size
  have hH2 : (fun W => W.cell? ⟨w.heap.size, 0, none⟩ = some (.int .i64 ser) ∧ W.cell? ⟨w.heap.size, 1, none⟩ = some (.int .i64 cnt) ∧ W.cell? ⟨w.heap.size, 2, none⟩ = some (.int .i64 prd) ∧ W.cell? ⟨w.heap.size, 3, none⟩ = some (.int .i64 fst) ∧ W.cell? ⟨w.heap.size, 4, none⟩ = some (.int .i64 lft) ∧ W.cell? ⟨w.heap.size, 5, none⟩ = some (.int .i64 tdy) ∧ W.cell? ⟨w.heap.size, 6, none⟩ = some (.int .i64 lif) ∧ W.cell? ⟨w.heap.size, 7, none⟩ = some (.int .i64 at_) ∧ W.cell? ⟨w.heap.size, 8, none⟩ = some (.int .u64 tag)) w2 := ⟨HBx2.out.cell 0, HBx2.out.cell 1, HBx2.out.cell 2, HBx2.out.cell 3, HBx2.out.cell 4, HBx2.out.cell 5, HBx2.out.cell 6, HBx2.out.cell 7, HBx2.out.cell 8⟩
  clear hb2
  refine ⟨_, rfl, hH2, ?_⟩
  try simp only [Act.put, List.setIfInBounds_toArray, List.set_cons_zero, List.set_cons_succ]
  refine held_run 2 (some 7) (.binOp .eql 26 (.tmp 6) (.const (.int .i64 0)) 26) ?v1_2 (by rfl) (by kernel_rfl) (by kernel_rfl) (by kernel_rfl) (fun _ _ _ h => h) (fun o ho w hS => ?y1_2) (by assumption) ?r1_2
  case y1_2 => (try dsimp only at hS); unfold execOp; simp only [ho]; go_simp; try with_reducible rfl
  try simp only [Act.put, List.setIfInBounds_toArray, List.set_cons_zero, List.set_cons_succ]
  refine held_run 3 (some 8) (.move (.tmp 7)) ?v1_3 (by rfl) (by kernel_rfl) (by kernel_rfl) (by kernel_rfl) (fun _ _ _ h => h) (fun o ho w hS => ?y1_3) (by assumption) ?r1_3
  case y1_3 => (try dsimp only at hS); unfold execOp; simp only [ho]; go_simp; try with_reducible rfl
  try simp only [Act.put, List.setIfInBounds_toArray, List.set_cons_zero, List.set_cons_succ]
  refine held_skip 4 (some 9) (by rfl) (by kernel_rfl) (by kernel_rfl) (by kernel_rfl) (fun _ _ _ h => h) (by assumption) ?_
  try simp only [Act.put, List.setIfInBounds_toArray, List.set_cons_zero, List.set_cons_succ]
  refine held_skip 5 (some 10) (by rfl) (by kernel_rfl) (by kernel_rfl) (by kernel_rfl) (fun _ _ _ h => h) (by assumption) ?_
  try simp only [Act.put, List.setIfInBounds_toArray, List.set_cons_zero, List.set_cons_succ]
  refine held_skip 6 (some 11) (by rfl) (by kernel_rfl) (by kernel_rfl) (by kernel_rfl) (fun _ _ _ h => h) (by assumption) ?_
  try simp only [Act.put, List.setIfInBounds_toArray, List.set_cons_zero, List.set_cons_succ]
  refine held_skip 7 (some 12) (by rfl) (by kernel_rfl) (by kernel_rfl) (by kernel_rfl) (fun _ _ _ h => h) (by assumption) ?_
  try simp only [Act.put, List.setIfInBounds_toArray, List.set_cons_zero, List.set_cons_succ]
  refine held_skip 8 (some 13) (by rfl) (by kernel_rfl) (by kernel_rfl) (by kernel_rfl) (fun _ _ _ h => h) (by assumption) ?_
  try simp only [Act.put, List.setIfInBounds_toArray, List.set_cons_zero, List.set_cons_succ]
  refine held_skip 9 (some 14) (by rfl) (by kernel_rfl) (by kernel_rfl) (by kernel_rfl) (fun _ _ _ h => h) (by assumption) ?_
  try simp only [Act.put, List.setIfInBounds_toArray, List.set_cons_zero, List.set_cons_succ]
  refine held_run 10 (some 15) (.pick (.tmp 8) (.tmp 14) (.const (Value.bool false))) ?v1_10 (by rfl) (by kernel_rfl) (by kernel_rfl) (by kernel_rfl) (fun _ _ _ h => h) (fun o ho w hS => ?y1_10) (by assumption) ?r1_10
  case y1_10 => (try dsimp only at hS); unfold execOp; simp only [ho]; go_simp; try with_reducible rfl
  try simp only [Act.put, List.setIfInBounds_toArray, List.set_cons_zero, List.set_cons_succ]
  refine held_run 11 (some 4) (.assign (.tmp 15)) ?v1_11 (by rfl) (by kernel_rfl) (by kernel_rfl) (by kernel_rfl) (fun _ _ _ h => h) (fun o ho w hS => ?y1_11) (by assumption) ?r1_11
  case y1_11 => (try dsimp only at hS); unfold execOp; simp only [ho]; go_simp; try with_reducible rfl
  try simp only [Act.put, List.setIfInBounds_toArray, List.set_cons_zero, List.set_cons_succ]
  refine wpAnyH_done (by kernel_rfl) ?_ _
  go_wp2_with fail
  go_ret
  exact ⟨rfl, HB2.out⟩

set_option maxRecDepth 100000 in
set_option maxHeartbeats 4000000 in
theorem rcheck_yes (key : Nat) (m : Med) (w : World) (hk : key < 18446744073709551616) (hr : RightE m 0) (ht : m.tag = ((tagM key m : Nat) : Int)) : Calls Try.prog 16 #[.int .u64 (key : Int), .agg #[.int .i64 m.ser, .int .i64 m.cnt, .int .i64 m.prd, .int .i64 m.fst, .int .i64 m.lft, .int .i64 m.tdy, .int .i64 m.lif, .int .i64 m.at_, .int .u64 m.tag]] w fun e w' => e = .returned (.bool true) ∧ Below w.heap.size w w' := by
  have HR : Hid (∀ W : World, Calls Try.prog 12 #[.agg #[.int .i64 m.ser, .int .i64 m.cnt, .int .i64 m.prd, .int .i64 m.fst, .int .i64 m.lft, .int .i64 m.tdy, .int .i64 m.lif, .int .i64 m.at_, .int .u64 m.tag]] W fun e w' => e = .returned (.int .i64 0) ∧ Below W.heap.size W w') := fun W => (rright_any m W).mono fun e w' ⟨r', he, h1, h2⟩ => ⟨by rw [he, h1.unique hr], h2⟩
  have HS : Hid (∀ W : World, Calls Try.prog 28 #[.int .u64 (key : Int), .agg #[.int .i64 m.ser, .int .i64 m.cnt, .int .i64 m.prd, .int .i64 m.fst, .int .i64 m.lft, .int .i64 m.tdy, .int .i64 m.lif, .int .i64 m.at_, .int .u64 m.tag]] W fun e w' => e = .returned (.int .u64 ((tagM key m : Nat) : Int)) ∧ Below W.heap.size W w') := fun W => rmtag_any key hk m W hr.ok.1
  generalize tagM key m = T at *
  clear hr hk
  obtain ⟨ser, cnt, prd, fst, lft, tdy, lif, at_, tag⟩ := m
  simp only at ht
  have d1 : (tag == (T : Int)) = true := beq_iff_eq.2 ht
  have d2 : ((T : Int) == tag) = true := beq_iff_eq.2 ht.symm
  clear ht
  go_enter Try.func16, Try.ntmps16
  go_wp2_with fail
  have HBw0 := (Blk.new w 24 #[.int .i64 ser, .int .i64 cnt, .int .i64 prd, .int .i64 fst, .int .i64 lft, .int .i64 tdy, .int .i64 lif, .int .i64 at_, .int .u64 tag])
  have HLw0 := (below_new w (.cells #[.int .i64 ser, .int .i64 cnt, .int .i64 prd, .int .i64 fst, .int .i64 lft, .int .i64 tdy, .int .i64 lif, .int .i64 at_, .int .u64 tag] 24))
  have hsw0 : (w.alloc (.cells #[.int .i64 ser, .int .i64 cnt, .int .i64 prd, .int .i64 fst, .int .i64 lft, .int .i64 tdy, .int .i64 lif, .int .i64 at_, .int .u64 tag] 24)).heap.size = w.heap.size + 1 := by simp
  generalize w.alloc (.cells #[.int .i64 ser, .int .i64 cnt, .int .i64 prd, .int .i64 fst, .int .i64 lft, .int .i64 tdy, .int .i64 lif, .int .i64 at_, .int .u64 tag] 24) = w0 at HBw0 HLw0 hsw0 ⊢
  replace HBw0 := Lib.hid HBw0
  replace HLw0 := Lib.hid HLw0
  have hlw0 : w.heap.size < w0.heap.size := by omega
  replace hsw0 := Lib.hid hsw0
  refine wp_region_held_drew (S := fun W => W.cell? ⟨w.heap.size, 0, none⟩ = some (.int .i64 ser) ∧ W.cell? ⟨w.heap.size, 1, none⟩ = some (.int .i64 cnt) ∧ W.cell? ⟨w.heap.size, 2, none⟩ = some (.int .i64 prd) ∧ W.cell? ⟨w.heap.size, 3, none⟩ = some (.int .i64 fst) ∧ W.cell? ⟨w.heap.size, 4, none⟩ = some (.int .i64 lft) ∧ W.cell? ⟨w.heap.size, 5, none⟩ = some (.int .i64 tdy) ∧ W.cell? ⟨w.heap.size, 6, none⟩ = some (.int .i64 lif) ∧ W.cell? ⟨w.heap.size, 7, none⟩ = some (.int .i64 at_) ∧ W.cell? ⟨w.heap.size, 8, none⟩ = some (.int .u64 tag)) (by kernel_rfl) (⟨HBw0.out.cell 0, HBw0.out.cell 1, HBw0.out.cell 2, HBw0.out.cell 3, HBw0.out.cell 4, HBw0.out.cell 5, HBw0.out.cell 6, HBw0.out.cell 7, HBw0.out.cell 8⟩) (fun hHeld => ?_)
  refine held_run 0 (some 5) (.load 24 (.tmp 3)) ?v1_0 (by rfl) (by kernel_rfl) (by kernel_rfl) (by kernel_rfl) (fun _ _ _ h => h) (fun o ho w hS => ?y1_0) (by assumption) ?r1_0
  case y1_0 => (try dsimp only at hS); unfold execOp; simp only [ho]; go_simp; try with_reducible rfl
  try simp only [Act.put, List.setIfInBounds_toArray, List.set_cons_zero, List.set_cons_succ]
  refine held_call 1 (some 6) 12 [(.tmp 5)] #[24] #[.agg #[.int .i64 ser, .int .i64 cnt, .int .i64 prd, .int .i64 fst, .int .i64 lft, .int .i64 tdy, .int .i64 lif, .int .i64 at_, .int .u64 tag]] (by rfl) (by rfl) (by kernel_rfl) Try.func12 (by rfl) (by rfl) ?_
  refine (HR.out _).mono ?_
  rintro e w2 ⟨rfl, hb2⟩
  have HBx2 := Lib.hid ((HBw0.out.drewN 1).below hb2 hlw0)
  have HB2 := Lib.hid ((below_drewN HLw0.out 1).trans (hb2.mono HLw0.out.size))
  have hl2 : w.heap.size < w2.heap.size := Nat.lt_of_lt_of_le hlw0 hb2.size
  have hH2 : (fun W => W.cell? ⟨w.heap.size, 0, none⟩ = some (.int .i64 ser) ∧ W.cell? ⟨w.heap.size, 1, none⟩ = some (.int .i64 cnt) ∧ W.cell? ⟨w.heap.size, 2, none⟩ = some (.int .i64 prd) ∧ W.cell? ⟨w.heap.size, 3, none⟩ = some (.int .i64 fst) ∧ W.cell? ⟨w.heap.size, 4, none⟩ = some (.int .i64 lft) ∧ W.cell? ⟨w.heap.size, 5, none⟩ = some (.int .i64 tdy) ∧ W.cell? ⟨w.heap.size, 6, none⟩ = some (.int .i64 lif) ∧ W.cell? ⟨w.heap.size, 7, none⟩ = some (.int .i64 at_) ∧ W.cell? ⟨w.heap.size, 8, none⟩ = some (.int .u64 tag)) w2 := ⟨HBx2.out.cell 0, HBx2.out.cell 1, HBx2.out.cell 2, HBx2.out.cell 3, HBx2.out.cell 4, HBx2.out.cell 5, HBx2.out.cell 6, HBx2.out.cell 7, HBx2.out.cell 8⟩
  clear hb2
  refine ⟨_, rfl, hH2, ?_⟩
  try simp only [Act.put, List.setIfInBounds_toArray, List.set_cons_zero, List.set_cons_succ]
  refine held_run 2 (some 7) (.binOp .eql 26 (.tmp 6) (.const (.int .i64 0)) 26) ?v1_2 (by rfl) (by kernel_rfl) (by kernel_rfl) (by kernel_rfl) (fun _ _ _ h => h) (fun o ho w hS => ?y1_2) (by assumption) ?r1_2
  case y1_2 => (try dsimp only at hS); unfold execOp; simp only [ho]; go_simp; try with_reducible rfl
  try simp only [Act.put, List.setIfInBounds_toArray, List.set_cons_zero, List.set_cons_succ]
  refine held_run 3 (some 8) (.move (.tmp 7)) ?v1_3 (by rfl) (by kernel_rfl) (by kernel_rfl) (by kernel_rfl) (fun _ _ _ h => h) (fun o ho w hS => ?y1_3) (by assumption) ?r1_3
  case y1_3 => (try dsimp only at hS); unfold execOp; simp only [ho]; go_simp; try with_reducible rfl
  try simp only [Act.put, List.setIfInBounds_toArray, List.set_cons_zero, List.set_cons_succ]
  refine held_run 4 (some 9) (.fieldAddr 24 (.tmp 3) 8) ?v1_4 (by rfl) (by kernel_rfl) (by kernel_rfl) (by kernel_rfl) (fun _ _ _ h => h) (fun o ho w hS => ?y1_4) (by assumption) ?r1_4
  case y1_4 => (try dsimp only at hS); unfold execOp; simp only [ho]; go_simp; try with_reducible rfl
  try simp only [Act.put, List.setIfInBounds_toArray, List.set_cons_zero, List.set_cons_succ]
  refine held_run 5 (some 10) (.load 22 (.tmp 9)) ?v1_5 (by rfl) (by kernel_rfl) (by kernel_rfl) (by kernel_rfl) (fun _ _ _ h => h) (fun o ho w hS => ?y1_5) (by assumption) ?r1_5
  case y1_5 => (try dsimp only at hS); unfold execOp; simp only [ho]; go_simp; try with_reducible rfl
  try simp only [Act.put, List.setIfInBounds_toArray, List.set_cons_zero, List.set_cons_succ]
  refine held_run 6 (some 11) (.move (.tmp 0)) ?v1_6 (by rfl) (by kernel_rfl) (by kernel_rfl) (by kernel_rfl) (fun _ _ _ h => h) (fun o ho w hS => ?y1_6) (by assumption) ?r1_6
  case y1_6 => (try dsimp only at hS); unfold execOp; simp only [ho]; go_simp; try with_reducible rfl
  try simp only [Act.put, List.setIfInBounds_toArray, List.set_cons_zero, List.set_cons_succ]
  refine held_run 7 (some 12) (.load 24 (.tmp 3)) ?v1_7 (by rfl) (by kernel_rfl) (by kernel_rfl) (by kernel_rfl) (fun _ _ _ h => h) (fun o ho w hS => ?y1_7) (by assumption) ?r1_7
  case y1_7 => (try dsimp only at hS); unfold execOp; simp only [ho]; go_simp; try with_reducible rfl
  try simp only [Act.put, List.setIfInBounds_toArray, List.set_cons_zero, List.set_cons_succ]
  refine held_call 8 (some 13) 28 [(.tmp 11), (.tmp 12)] #[22, 24] #[.int .u64 (key : Int), .agg #[.int .i64 ser, .int .i64 cnt, .int .i64 prd, .int .i64 fst, .int .i64 lft, .int .i64 tdy, .int .i64 lif, .int .i64 at_, .int .u64 tag]] (by rfl) (by rfl) (by kernel_rfl) Try.func28 (by rfl) (by rfl) ?_
  refine (HS.out _).mono ?_
  rintro e w3 ⟨rfl, hb3⟩
  have HBx3 := Lib.hid (HBx2.out.below hb3 hl2)
  have HB3 := Lib.hid (HB2.out.trans (hb3.mono HB2.out.size))
  have hH3 : (fun W => W.cell? ⟨w.heap.size, 0, none⟩ = some (.int .i64 ser) ∧ W.cell? ⟨w.heap.size, 1, none⟩ = some (.int .i64 cnt) ∧ W.cell? ⟨w.heap.size, 2, none⟩ = some (.int .i64 prd) ∧ W.cell? ⟨w.heap.size, 3, none⟩ = some (.int .i64 fst) ∧ W.cell? ⟨w.heap.size, 4, none⟩ = some (.int .i64 lft) ∧ W.cell? ⟨w.heap.size, 5, none⟩ = some (.int .i64 tdy) ∧ W.cell? ⟨w.heap.size, 6, none⟩ = some (.int .i64 lif) ∧ W.cell? ⟨w.heap.size, 7, none⟩ = some (.int .i64 at_) ∧ W.cell? ⟨w.heap.size, 8, none⟩ = some (.int .u64 tag)) w3 := ⟨HBx3.out.cell 0, HBx3.out.cell 1, HBx3.out.cell 2, HBx3.out.cell 3, HBx3.out.cell 4, HBx3.out.cell 5, HBx3.out.cell 6, HBx3.out.cell 7, HBx3.out.cell 8⟩
  clear hb3
  refine ⟨_, rfl, hH3, ?_⟩
  try simp only [Act.put, List.setIfInBounds_toArray, List.set_cons_zero, List.set_cons_succ]
  refine held_run 9 (some 14) (.binOp .eql 22 (.tmp 10) (.tmp 13) 22) ?v1_9 (by rfl) (by kernel_rfl) (by kernel_rfl) (by kernel_rfl) (fun _ _ _ h => h) (fun o ho w hS => ?y1_9) (by assumption) ?r1_9
  case y1_9 => (try dsimp only at hS); unfold execOp; simp only [ho]; go_simp; try with_reducible rfl
  try simp only [Act.put, List.setIfInBounds_toArray, List.set_cons_zero, List.set_cons_succ]
  refine held_run 10 (some 15) (.pick (.tmp 8) (.tmp 14) (.const (Value.bool false))) ?v1_10 (by rfl) (by kernel_rfl) (by kernel_rfl) (by kernel_rfl) (fun _ _ _ h => h) (fun o ho w hS => ?y1_10) (by assumption) ?r1_10
  case y1_10 => (try dsimp only at hS); unfold execOp; simp only [ho]; go_simp; try with_reducible rfl
  try simp only [Act.put, List.setIfInBounds_toArray, List.set_cons_zero, List.set_cons_succ]
  refine held_run 11 (some 4) (.assign (.tmp 15)) ?v1_11 (by rfl) (by kernel_rfl) (by kernel_rfl) (by kernel_rfl) (fun _ _ _ h => h) (fun o ho w hS => ?y1_11) (by assumption) ?r1_11
  case y1_11 => (try dsimp only at hS); unfold execOp; simp only [ho]; go_simp; try with_reducible rfl
  try simp only [Act.put, List.setIfInBounds_toArray, List.set_cons_zero, List.set_cons_succ]
  refine wpAnyH_done (by kernel_rfl) ?_ _
  go_wp2_with fail
  go_ret
  exact ⟨rfl, HB3.out⟩

set_option maxRecDepth 100000 in
set_option maxHeartbeats 4000000 in
theorem rcheck_no (key : Nat) (m : Med) (w : World) (hk : key < 18446744073709551616) (hr : RightE m 0) (ht : m.tag ≠ ((tagM key m : Nat) : Int)) : Calls Try.prog 16 #[.int .u64 (key : Int), .agg #[.int .i64 m.ser, .int .i64 m.cnt, .int .i64 m.prd, .int .i64 m.fst, .int .i64 m.lft, .int .i64 m.tdy, .int .i64 m.lif, .int .i64 m.at_, .int .u64 m.tag]] w fun e w' => e = .returned (.bool false) ∧ Below w.heap.size w w' := by
  have HR : Hid (∀ W : World, Calls Try.prog 12 #[.agg #[.int .i64 m.ser, .int .i64 m.cnt, .int .i64 m.prd, .int .i64 m.fst, .int .i64 m.lft, .int .i64 m.tdy, .int .i64 m.lif, .int .i64 m.at_, .int .u64 m.tag]] W fun e w' => e = .returned (.int .i64 0) ∧ Below W.heap.size W w') := fun W => (rright_any m W).mono fun e w' ⟨r', he, h1, h2⟩ => ⟨by rw [he, h1.unique hr], h2⟩
  have HS : Hid (∀ W : World, Calls Try.prog 28 #[.int .u64 (key : Int), .agg #[.int .i64 m.ser, .int .i64 m.cnt, .int .i64 m.prd, .int .i64 m.fst, .int .i64 m.lft, .int .i64 m.tdy, .int .i64 m.lif, .int .i64 m.at_, .int .u64 m.tag]] W fun e w' => e = .returned (.int .u64 ((tagM key m : Nat) : Int)) ∧ Below W.heap.size W w') := fun W => rmtag_any key hk m W hr.ok.1
  generalize tagM key m = T at *
  clear hr hk
  obtain ⟨ser, cnt, prd, fst, lft, tdy, lif, at_, tag⟩ := m
  simp only at ht
  have d1 : (tag == (T : Int)) = false := beq_eq_false_iff_ne.2 ht
  have d2 : ((T : Int) == tag) = false := beq_eq_false_iff_ne.2 (Ne.symm ht)
  clear ht
  go_enter Try.func16, Try.ntmps16
  go_wp2_with fail
  have HBw0 := (Blk.new w 24 #[.int .i64 ser, .int .i64 cnt, .int .i64 prd, .int .i64 fst, .int .i64 lft, .int .i64 tdy, .int .i64 lif, .int .i64 at_, .int .u64 tag])
  have HLw0 := (below_new w (.cells #[.int .i64 ser, .int .i64 cnt, .int .i64 prd, .int .i64 fst, .int .i64 lft, .int .i64 tdy, .int .i64 lif, .int .i64 at_, .int .u64 tag] 24))
  have hsw0 : (w.alloc (.cells #[.int .i64 ser, .int .i64 cnt, .int .i64 prd, .int .i64 fst, .int .i64 lft, .int .i64 tdy, .int .i64 lif, .int .i64 at_, .int .u64 tag] 24)).heap.size = w.heap.size + 1 := by simp
  generalize w.alloc (.cells #[.int .i64 ser, .int .i64 cnt, .int .i64 prd, .int .i64 fst, .int .i64 lft, .int .i64 tdy, .int .i64 lif, .int .i64 at_, .int .u64 tag] 24) = w0 at HBw0 HLw0 hsw0 ⊢
  replace HBw0 := Lib.hid HBw0
  replace HLw0 := Lib.hid HLw0
  have hlw0 : w.heap.size < w0.heap.size := by omega
  replace hsw0 := Lib.hid hsw0
  refine wp_region_held_drew (S := fun W => W.cell? ⟨w.heap.size, 0, none⟩ = some (.int .i64 ser) ∧ W.cell? ⟨w.heap.size, 1, none⟩ = some (.int .i64 cnt) ∧ W.cell? ⟨w.heap.size, 2, none⟩ = some (.int .i64 prd) ∧ W.cell? ⟨w.heap.size, 3, none⟩ = some (.int .i64 fst) ∧ W.cell? ⟨w.heap.size, 4, none⟩ = some (.int .i64 lft) ∧ W.cell? ⟨w.heap.size, 5, none⟩ = some (.int .i64 tdy) ∧ W.cell? ⟨w.heap.size, 6, none⟩ = some (.int .i64 lif) ∧ W.cell? ⟨w.heap.size, 7, none⟩ = some (.int .i64 at_) ∧ W.cell? ⟨w.heap.size, 8, none⟩ = some (.int .u64 tag)) (by kernel_rfl) (⟨HBw0.out.cell 0, HBw0.out.cell 1, HBw0.out.cell 2, HBw0.out.cell 3, HBw0.out.cell 4, HBw0.out.cell 5, HBw0.out.cell 6, HBw0.out.cell 7, HBw0.out.cell 8⟩) (fun hHeld => ?_)
  refine held_run 0 (some 5) (.load 24 (.tmp 3)) ?v1_0 (by rfl) (by kernel_rfl) (by kernel_rfl) (by kernel_rfl) (fun _ _ _ h => h) (fun o ho w hS => ?y1_0) (by assumption) ?r1_0
  case y1_0 => (try dsimp only at hS); unfold execOp; simp only [ho]; go_simp; try with_reducible rfl
  try simp only [Act.put, List.setIfInBounds_toArray, List.set_cons_zero, List.set_cons_succ]
  refine held_call 1 (some 6) 12 [(.tmp 5)] #[24] #[.agg #[.int .i64 ser, .int .i64 cnt, .int .i64 prd, .int .i64 fst, .int .i64 lft, .int .i64 tdy, .int .i64 lif, .int .i64 at_, .int .u64 tag]] (by rfl) (by rfl) (by kernel_rfl) Try.func12 (by rfl) (by rfl) ?_
  refine (HR.out _).mono ?_
  rintro e w2 ⟨rfl, hb2⟩
  have HBx2 := Lib.hid ((HBw0.out.drewN 1).below hb2 hlw0)
  have HB2 := Lib.hid ((below_drewN HLw0.out 1).trans (hb2.mono HLw0.out.size))
  have hl2 : w.heap.size < w2.heap.size := Nat.lt_of_lt_of_le hlw0 hb2.size
  have hH2 : (fun W => W.cell? ⟨w.heap.size, 0, none⟩ = some (.int .i64 ser) ∧ W.cell? ⟨w.heap.size, 1, none⟩ = some (.int .i64 cnt) ∧ W.cell? ⟨w.heap.size, 2, none⟩ = some (.int .i64 prd) ∧ W.cell? ⟨w.heap.size, 3, none⟩ = some (.int .i64 fst) ∧ W.cell? ⟨w.heap.size, 4, none⟩ = some (.int .i64 lft) ∧ W.cell? ⟨w.heap.size, 5, none⟩ = some (.int .i64 tdy) ∧ W.cell? ⟨w.heap.size, 6, none⟩ = some (.int .i64 lif) ∧ W.cell? ⟨w.heap.size, 7, none⟩ = some (.int .i64 at_) ∧ W.cell? ⟨w.heap.size, 8, none⟩ = some (.int .u64 tag)) w2 := ⟨HBx2.out.cell 0, HBx2.out.cell 1, HBx2.out.cell 2, HBx2.out.cell 3, HBx2.out.cell 4, HBx2.out.cell 5, HBx2.out.cell 6, HBx2.out.cell 7, HBx2.out.cell 8⟩
  clear hb2
  refine ⟨_, rfl, hH2, ?_⟩
  try simp only [Act.put, List.setIfInBounds_toArray, List.set_cons_zero, List.set_cons_succ]
  refine held_run 2 (some 7) (.binOp .eql 26 (.tmp 6) (.const (.int .i64 0)) 26) ?v1_2 (by rfl) (by kernel_rfl) (by kernel_rfl) (by kernel_rfl) (fun _ _ _ h => h) (fun o ho w hS => ?y1_2) (by assumption) ?r1_2
  case y1_2 => (try dsimp only at hS); unfold execOp; simp only [ho]; go_simp; try with_reducible rfl
  try simp only [Act.put, List.setIfInBounds_toArray, List.set_cons_zero, List.set_cons_succ]
  refine held_run 3 (some 8) (.move (.tmp 7)) ?v1_3 (by rfl) (by kernel_rfl) (by kernel_rfl) (by kernel_rfl) (fun _ _ _ h => h) (fun o ho w hS => ?y1_3) (by assumption) ?r1_3
  case y1_3 => (try dsimp only at hS); unfold execOp; simp only [ho]; go_simp; try with_reducible rfl
  try simp only [Act.put, List.setIfInBounds_toArray, List.set_cons_zero, List.set_cons_succ]
  refine held_run 4 (some 9) (.fieldAddr 24 (.tmp 3) 8) ?v1_4 (by rfl) (by kernel_rfl) (by kernel_rfl) (by kernel_rfl) (fun _ _ _ h => h) (fun o ho w hS => ?y1_4) (by assumption) ?r1_4
  case y1_4 => (try dsimp only at hS); unfold execOp; simp only [ho]; go_simp; try with_reducible rfl
  try simp only [Act.put, List.setIfInBounds_toArray, List.set_cons_zero, List.set_cons_succ]
  refine held_run 5 (some 10) (.load 22 (.tmp 9)) ?v1_5 (by rfl) (by kernel_rfl) (by kernel_rfl) (by kernel_rfl) (fun _ _ _ h => h) (fun o ho w hS => ?y1_5) (by assumption) ?r1_5
  case y1_5 => (try dsimp only at hS); unfold execOp; simp only [ho]; go_simp; try with_reducible rfl
  try simp only [Act.put, List.setIfInBounds_toArray, List.set_cons_zero, List.set_cons_succ]
  refine held_run 6 (some 11) (.move (.tmp 0)) ?v1_6 (by rfl) (by kernel_rfl) (by kernel_rfl) (by kernel_rfl) (fun _ _ _ h => h) (fun o ho w hS => ?y1_6) (by assumption) ?r1_6
  case y1_6 => (try dsimp only at hS); unfold execOp; simp only [ho]; go_simp; try with_reducible rfl
  try simp only [Act.put, List.setIfInBounds_toArray, List.set_cons_zero, List.set_cons_succ]
  refine held_run 7 (some 12) (.load 24 (.tmp 3)) ?v1_7 (by rfl) (by kernel_rfl) (by kernel_rfl) (by kernel_rfl) (fun _ _ _ h => h) (fun o ho w hS => ?y1_7) (by assumption) ?r1_7
  case y1_7 => (try dsimp only at hS); unfold execOp; simp only [ho]; go_simp; try with_reducible rfl
  try simp only [Act.put, List.setIfInBounds_toArray, List.set_cons_zero, List.set_cons_succ]
  refine held_call 8 (some 13) 28 [(.tmp 11), (.tmp 12)] #[22, 24] #[.int .u64 (key : Int), .agg #[.int .i64 ser, .int .i64 cnt, .int .i64 prd, .int .i64 fst, .int .i64 lft, .int .i64 tdy, .int .i64 lif, .int .i64 at_, .int .u64 tag]] (by rfl) (by rfl) (by kernel_rfl) Try.func28 (by rfl) (by rfl) ?_
  refine (HS.out _).mono ?_
  rintro e w3 ⟨rfl, hb3⟩
  have HBx3 := Lib.hid (HBx2.out.below hb3 hl2)
  have HB3 := Lib.hid (HB2.out.trans (hb3.mono HB2.out.size))
  have hH3 : (fun W => W.cell? ⟨w.heap.size, 0, none⟩ = some (.int .i64 ser) ∧ W.cell? ⟨w.heap.size, 1, none⟩ = some (.int .i64 cnt) ∧ W.cell? ⟨w.heap.size, 2, none⟩ = some (.int .i64 prd) ∧ W.cell? ⟨w.heap.size, 3, none⟩ = some (.int .i64 fst) ∧ W.cell? ⟨w.heap.size, 4, none⟩ = some (.int .i64 lft) ∧ W.cell? ⟨w.heap.size, 5, none⟩ = some (.int .i64 tdy) ∧ W.cell? ⟨w.heap.size, 6, none⟩ = some (.int .i64 lif) ∧ W.cell? ⟨w.heap.size, 7, none⟩ = some (.int .i64 at_) ∧ W.cell? ⟨w.heap.size, 8, none⟩ = some (.int .u64 tag)) w3 := ⟨HBx3.out.cell 0, HBx3.out.cell 1, HBx3.out.cell 2, HBx3.out.cell 3, HBx3.out.cell 4, HBx3.out.cell 5, HBx3.out.cell 6, HBx3.out.cell 7, HBx3.out.cell 8⟩
  clear hb3
  refine ⟨_, rfl, hH3, ?_⟩
  try simp only [Act.put, List.setIfInBounds_toArray, List.set_cons_zero, List.set_cons_succ]
  refine held_run 9 (some 14) (.binOp .eql 22 (.tmp 10) (.tmp 13) 22) ?v1_9 (by rfl) (by kernel_rfl) (by kernel_rfl) (by kernel_rfl) (fun _ _ _ h => h) (fun o ho w hS => ?y1_9) (by assumption) ?r1_9
  case y1_9 => (try dsimp only at hS); unfold execOp; simp only [ho]; go_simp; try with_reducible rfl
  try simp only [Act.put, List.setIfInBounds_toArray, List.set_cons_zero, List.set_cons_succ]
  refine held_run 10 (some 15) (.pick (.tmp 8) (.tmp 14) (.const (Value.bool false))) ?v1_10 (by rfl) (by kernel_rfl) (by kernel_rfl) (by kernel_rfl) (fun _ _ _ h => h) (fun o ho w hS => ?y1_10) (by assumption) ?r1_10
  case y1_10 => (try dsimp only at hS); unfold execOp; simp only [ho]; go_simp; try with_reducible rfl
  try simp only [Act.put, List.setIfInBounds_toArray, List.set_cons_zero, List.set_cons_succ]
  refine held_run 11 (some 4) (.assign (.tmp 15)) ?v1_11 (by rfl) (by kernel_rfl) (by kernel_rfl) (by kernel_rfl) (fun _ _ _ h => h) (fun o ho w hS => ?y1_11) (by assumption) ?r1_11
  case y1_11 => (try dsimp only at hS); unfold execOp; simp only [ho]; go_simp; try with_reducible rfl
  try simp only [Act.put, List.setIfInBounds_toArray, List.set_cons_zero, List.set_cons_succ]
  refine wpAnyH_done (by kernel_rfl) ?_ _
  go_wp2_with fail
  go_ret
  exact ⟨rfl, HB3.out⟩

/-- what Check reports -/
def checkB (key : Nat) (m : Med) (r : Int) : Bool := decide (r = 0 ∧ m.tag = ((tagM key m : Nat) : Int))
theorem check_any (b : Bool) (key : Nat) (hk : key < 18446744073709551616) (m : Med) (w : World) (r : Int) (hr : RightE m r) (hb : checkB key m r = b) : Calls Try.prog 15 #[.int .u64 (key : Int), .agg #[.int .i64 m.ser, .int .i64 m.cnt, .int .i64 m.prd, .int .i64 m.fst, .int .i64 m.lft, .int .i64 m.tdy, .int .i64 m.lif, .int .i64 m.at_, .int .u64 m.tag]] w fun e w' => e = .returned (.bool b) ∧ Below w.heap.size w w' := by
  subst hb
  by_cases h0 : r = 0
  · subst h0
    by_cases ht : m.tag = ((tagM key m : Nat) : Int)
    · have e : checkB key m 0 = true := decide_eq_true ⟨rfl, ht⟩
      rw [e]
      exact check_yes key m w hk hr ht
    · have e : checkB key m 0 = false := decide_eq_false fun h => ht h.2
      rw [e]
      exact check_no key m w hk hr ht
  · have e : checkB key m r = false := decide_eq_false fun h => h0 h.1
    rw [e]
    exact check_bad key m w r hr h0
theorem rcheck_any (b : Bool) (key : Nat) (hk : key < 18446744073709551616) (m : Med) (w : World) (r : Int) (hr : RightE m r) (hb : checkB key m r = b) : Calls Try.prog 16 #[.int .u64 (key : Int), .agg #[.int .i64 m.ser, .int .i64 m.cnt, .int .i64 m.prd, .int .i64 m.fst, .int .i64 m.lft, .int .i64 m.tdy, .int .i64 m.lif, .int .i64 m.at_, .int .u64 m.tag]] w fun e w' => e = .returned (.bool b) ∧ Below w.heap.size w w' := by
  subst hb
  by_cases h0 : r = 0
  · subst h0
    by_cases ht : m.tag = ((tagM key m : Nat) : Int)
    · have e : checkB key m 0 = true := decide_eq_true ⟨rfl, ht⟩
      rw [e]
      exact rcheck_yes key m w hk hr ht
    · have e : checkB key m 0 = false := decide_eq_false fun h => ht h.2
      rw [e]
      exact rcheck_no key m w hk hr ht
  · have e : checkB key m r = false := decide_eq_false fun h => h0 h.1
    rw [e]
    exact rcheck_bad key m w r hr h0
end Go.Proofs.Ythlhphifibldnaa
