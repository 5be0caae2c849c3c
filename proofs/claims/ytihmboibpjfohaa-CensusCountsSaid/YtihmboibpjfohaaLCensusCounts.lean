/-
  CensusCounts answers true for every input. Its conditions: none.
-/
import Derived.Test.YtihmboibpjfohaaRows
import Derived.Test.YtihmboibpjfohaaCenR
namespace Go.Proofs.Ytihmboibpjfohaa
open Go.ChangeShapes Go.WideShapes Go.ChangeAt Go.RowKit

set_option maxRecDepth 100000 in
set_option maxHeartbeats 4000000 in
theorem censusCounts_any (w : World) (v : Value) (l : List Cr) (hv : StrV Cr.cells 4 w w.heap.size v l) (x0 x1 x2 : Int) (sa sb : Int) :
    Calls Try.prog 4 #[v, .agg #[.int .i64 x0, .int .i64 x1, .int .i64 x2], .agg #[.int .i64 sa, .int .i64 sb]] w fun e w' => e = .returned (.bool true) ∧ Below w.heap.size w w' := by
  obtain ⟨A, n, c, rfl, HN, hc1, hc2, hr⟩ := hv.nam
  have HV := Lib.hid hv
  have hm := Int.ofNat_le.2 (show n ≤ maxLen by omega)
  clear hv hr
  go_enter Try.func4, Try.ntmps4
  go_upto_region 1 with (fail)
  have HBw0 := (Blk.new w 32 #[.int .i64 x0, .int .i64 x1, .int .i64 x2])
  have HLw0 := (below_new w (.cells #[.int .i64 x0, .int .i64 x1, .int .i64 x2] 32))
  have hsw0 : (w.alloc (.cells #[.int .i64 x0, .int .i64 x1, .int .i64 x2] 32)).heap.size = w.heap.size + 1 := by simp
  generalize w.alloc (.cells #[.int .i64 x0, .int .i64 x1, .int .i64 x2] 32) = w0 at HBw0 HLw0 hsw0 ⊢
  replace HBw0 := Lib.hid HBw0
  replace HLw0 := Lib.hid HLw0
  have hlw0 : w.heap.size < w0.heap.size := by omega
  replace hsw0 := Lib.hid hsw0
  have HBwa := (Blk.new w0 34 #[.int .i64 sa, .int .i64 sb])
  have HLwa := (below_new w0 (.cells #[.int .i64 sa, .int .i64 sb] 34))
  have hswa : (w0.alloc (.cells #[.int .i64 sa, .int .i64 sb] 34)).heap.size = w0.heap.size + 1 := by simp
  generalize w0.alloc (.cells #[.int .i64 sa, .int .i64 sb] 34) = wa at HBwa HLwa hswa ⊢
  replace HBwa := Lib.hid HBwa
  replace HLwa := Lib.hid HLwa
  have hlwa : w0.heap.size < wa.heap.size := by omega
  replace hswa := Lib.hid hswa
  have HBa : Hid (Below w.heap.size w wa) := hide (HLw0.out.trans (HLwa.out.mono HLw0.out.size))
  have HVa := Lib.hid (HV.out.now HBa.out)
  have HXa := Lib.hid (HBw0.out.below HLwa.out hlw0)
  have HYa : Hid (Blk wa (w.heap.size + 1) 34 #[.int .i64 sa, .int .i64 sb]) := hide (by have h := HBwa.out; rw [show w0.heap.size = w.heap.size + 1 from hsw0.out] at h; exact h)
  have hl1 : w.heap.size < wa.heap.size := HXa.out.lt
  have hl2 : w.heap.size + 1 < wa.heap.size := HYa.out.lt
  clear HBw0 HLw0 hsw0 hlw0 HBwa HLwa hswa hlwa
  go_wp2_with fail
  with_reducible refine (alive_any _).mono ?_
  rintro e w1 ⟨rfl, hb1⟩
  have HB1 := Lib.hid (HBa.out.trans (hb1.mono HBa.out.size))
  have HV1 := Lib.hid (HVa.out.now hb1)
  have HX1 := Lib.hid (HXa.out.below hb1 hl1)
  have HY1 := Lib.hid (HYa.out.below hb1 hl2)
  clear hb1
  by_cases hs : n ≤ 100
  · have d1 : decide ((n : Int) > 100) = false := decide_eq_false (by omega)
    have hl3 : l.length ≤ 2000 := by have := HN.out; omega
    go_wp2_with fail
    with_reducible refine (rright_any _ l _ HV1.out).mono ?_
    rintro e w2 ⟨rfl, hb2⟩
    have HB2 := Lib.hid (HB1.out.trans (hb2.mono HB1.out.size))
    have HV2 := Lib.hid (HV1.out.now hb2)
    have HX2 := Lib.hid (HX1.out.below hb2 HX1.out.lt)
    have HY2 := Lib.hid (HY1.out.below hb2 HY1.out.lt)
    clear hb2
    by_cases h0 : rightC l = 0
    · have d2 : (((rightC l : Nat) : Int) != 0) = false := by rw [h0]; rfl
      obtain ⟨_, hin, _, hso⟩ := right_ok h0
      have HIn := Lib.hid hin
      have HPk : Hid (ppC l l.length = pkC l l.length) := hide (peak_same hso)
      clear hin hso h0
      generalize ((rightC l : Nat) : Int) = r at *
      have HO : Hid (∀ W, StrV Cr.cells 4 W W.heap.size (.slice A n c) l → Calls Try.prog 15 #[.slice A n c, .int .i64 x0] W fun e w' => e = .returned (.int .i64 (onC l x0)) ∧ Below W.heap.size W w') := fun W h => on_any _ l x0 W h hl3 HIn.out
      have HrO : Hid (∀ W, StrV Cr.cells 4 W W.heap.size (.slice A n c) l → Calls Try.prog 16 #[.slice A n c, .int .i64 x0] W fun e w' => e = .returned (.int .i64 (onC l x0)) ∧ Below W.heap.size W w') := fun W h => rOn_any _ l x0 W h hl3 HIn.out
      have HP : Hid (∀ W, StrV Cr.cells 4 W W.heap.size (.slice A n c) l → Calls Try.prog 17 #[.slice A n c] W fun e w' => e = .returned (.int .i64 (pkC l l.length)) ∧ Below W.heap.size W w') := fun W h => by rw [← HPk.out]; exact peak_any _ l W h hl3 HIn.out
      have HrP : Hid (∀ W, StrV Cr.cells 4 W W.heap.size (.slice A n c) l → Calls Try.prog 18 #[.slice A n c] W fun e w' => e = .returned (.int .i64 (pkC l l.length)) ∧ Below W.heap.size W w') := fun W h => rPeak_any _ l W h hl3 HIn.out
      have HC : Hid (∀ W, StrV Cr.cells 4 W W.heap.size (.slice A n c) l → Calls Try.prog 19 #[.slice A n c, .int .i64 x1, .int .i64 x2, .agg #[.int .i64 sa, .int .i64 sb]] W fun e w' => e = .returned (.int .i64 (cntC l x1 x2 sa sb)) ∧ Below W.heap.size W w') := fun W h => count_any _ l x1 x2 sa sb W h hl3 HIn.out
      have HrC : Hid (∀ W, StrV Cr.cells 4 W W.heap.size (.slice A n c) l → Calls Try.prog 20 #[.slice A n c, .int .i64 x1, .int .i64 x2, .agg #[.int .i64 sa, .int .i64 sb]] W fun e w' => e = .returned (.int .i64 (cntC l x1 x2 sa sb)) ∧ Below W.heap.size W w') := fun W h => rCount_any _ l x1 x2 sa sb W h hl3 HIn.out
      generalize onC l x0 = q0 at *
      generalize pkC l l.length = q1 at *
      generalize cntC l x1 x2 sa sb = q2 at *
      have hS : ∀ W, Below w2.heap.size w2 W → (fun W => W.cell? ⟨w.heap.size, 0, none⟩ = some (.int .i64 x0) ∧ W.cell? ⟨w.heap.size, 1, none⟩ = some (.int .i64 x1) ∧ W.cell? ⟨w.heap.size, 2, none⟩ = some (.int .i64 x2) ∧ Blk W (w.heap.size + 1) 34 #[.int .i64 sa, .int .i64 sb]) W := fun W hB => ⟨(HX2.out.below hB HX2.out.lt).cell 0, (HX2.out.below hB HX2.out.lt).cell 1, (HX2.out.below hB HX2.out.lt).cell 2, HY2.out.below hB HY2.out.lt⟩
      have HS := Lib.hid hS
      have HBd : Hid (Below w2.heap.size w2 w2.drew) := hide (Below.refl _ _).drew
      have HVd := Lib.hid (HV2.out.now HBd.out)
      clear hS
      go_wp2_with fail
      refine wp_region_held_drew (S := fun W => W.cell? ⟨w.heap.size, 0, none⟩ = some (.int .i64 x0) ∧ W.cell? ⟨w.heap.size, 1, none⟩ = some (.int .i64 x1) ∧ W.cell? ⟨w.heap.size, 2, none⟩ = some (.int .i64 x2) ∧ Blk W (w.heap.size + 1) 34 #[.int .i64 sa, .int .i64 sb]) (by kernel_rfl) (HS.out _ HBd.out) (fun hHeld => ?_)
      refine held_run 0 (some 17) (.move (.tmp 0)) ?v5_1_2 (by rfl) (by kernel_rfl) (by kernel_rfl) (by kernel_rfl) (fun _ _ _ h => h) (fun o ho w hS => ?y5_1_2) (by assumption) ?r5_1_2
      case y5_1_2 => (try dsimp only at hS); unfold execOp; simp only [ho]; go_simp; try with_reducible rfl
      try simp only [Act.put, List.setIfInBounds_toArray, List.set_cons_zero, List.set_cons_succ]
      refine held_run 1 (some 18) (.indexAddr 32 (.tmp 4) (.const (.int .i64 0))) ?v5_1_3 (by rfl) (by kernel_rfl) (by kernel_rfl) (by kernel_rfl) (fun _ _ _ h => h) (fun o ho w hS => ?y5_1_3) (by assumption) ?r5_1_3
      case y5_1_3 => (try dsimp only at hS); unfold execOp; simp only [ho]; go_simp; try with_reducible rfl
      try simp only [Act.put, List.setIfInBounds_toArray, List.set_cons_zero, List.set_cons_succ]
      refine held_run 2 (some 19) (.load 3 (.tmp 18)) ?v5_1_4 (by rfl) (by kernel_rfl) (by kernel_rfl) (by kernel_rfl) (fun _ _ _ h => h) (fun o ho w hS => ?y5_1_4) (by assumption) ?r5_1_4
      case y5_1_4 => (try dsimp only at hS); unfold execOp; simp only [ho]; go_simp; try with_reducible rfl
      try simp only [Act.put, List.setIfInBounds_toArray, List.set_cons_zero, List.set_cons_succ]
      refine held_run 4 (some 21) (.move (.tmp 0)) ?v5_1_5 (by rfl) (by kernel_rfl) (by kernel_rfl) (by kernel_rfl) (fun _ _ _ h => h) (fun o ho w hS => ?y5_1_5) (by assumption) ?r5_1_5
      case y5_1_5 => (try dsimp only at hS); unfold execOp; simp only [ho]; go_simp; try with_reducible rfl
      try simp only [Act.put, List.setIfInBounds_toArray, List.set_cons_zero, List.set_cons_succ]
      refine held_run 5 (some 22) (.indexAddr 32 (.tmp 4) (.const (.int .i64 0))) ?v5_1_6 (by rfl) (by kernel_rfl) (by kernel_rfl) (by kernel_rfl) (fun _ _ _ h => h) (fun o ho w hS => ?y5_1_6) (by assumption) ?r5_1_6
      case y5_1_6 => (try dsimp only at hS); unfold execOp; simp only [ho]; go_simp; try with_reducible rfl
      try simp only [Act.put, List.setIfInBounds_toArray, List.set_cons_zero, List.set_cons_succ]
      refine held_run 6 (some 23) (.load 3 (.tmp 22)) ?v5_1_7 (by rfl) (by kernel_rfl) (by kernel_rfl) (by kernel_rfl) (fun _ _ _ h => h) (fun o ho w hS => ?y5_1_7) (by assumption) ?r5_1_7
      case y5_1_7 => (try dsimp only at hS); unfold execOp; simp only [ho]; go_simp; try with_reducible rfl
      try simp only [Act.put, List.setIfInBounds_toArray, List.set_cons_zero, List.set_cons_succ]
      refine held_call 3 (some 20) 15 [(.tmp 17), (.tmp 19)] #[22, 3] #[.slice A n c, .int .i64 x0] (by rfl) (by rfl) (by kernel_rfl) Try.func15 (by rfl) (by rfl) ?_
      refine (HO.out _ HVd.out).mono ?_
      rintro e we_ ⟨rfl, hb⟩
      have HBe := Lib.hid (HBd.out.trans (hb.mono HBd.out.size))
      have HVe := Lib.hid (HVd.out.now hb)
      have hHe := HS.out _ HBe.out
      clear hb
      refine ⟨_, rfl, hHe, ?_⟩
      try simp only [Act.put, List.setIfInBounds_toArray, List.set_cons_zero, List.set_cons_succ]
      refine held_call 7 (some 24) 16 [(.tmp 21), (.tmp 23)] #[22, 3] #[.slice A n c, .int .i64 x0] (by rfl) (by rfl) (by kernel_rfl) Try.func16 (by rfl) (by rfl) ?_
      refine (HrO.out _ HVe.out).mono ?_
      rintro e wf_ ⟨rfl, hb⟩
      have HBf := Lib.hid (HBe.out.trans (hb.mono HBe.out.size))
      have HVf := Lib.hid (HVe.out.now hb)
      have hHf := HS.out _ HBf.out
      clear hb
      refine ⟨_, rfl, hHf, ?_⟩
      try simp only [Act.put, List.setIfInBounds_toArray, List.set_cons_zero, List.set_cons_succ]
      refine held_run 8 (some 25) (.binOp .eql 3 (.tmp 20) (.tmp 24) 3) ?v5_1_10 (by rfl) (by kernel_rfl) (by kernel_rfl) (by kernel_rfl) (fun _ _ _ h => h) (fun o ho w hS => ?y5_1_10) (by assumption) ?r5_1_10
      case y5_1_10 => (try dsimp only at hS); unfold execOp; simp only [ho]; go_simp; try with_reducible rfl
      try simp only [Act.put, List.setIfInBounds_toArray, List.set_cons_zero, List.set_cons_succ]
      refine held_run 9 (some 26) (.move (.tmp 25)) ?v5_1_11 (by rfl) (by kernel_rfl) (by kernel_rfl) (by kernel_rfl) (fun _ _ _ h => h) (fun o ho w hS => ?y5_1_11) (by assumption) ?r5_1_11
      case y5_1_11 => (try dsimp only at hS); unfold execOp; simp only [ho]; go_simp; try with_reducible rfl
      try simp only [Act.put, List.setIfInBounds_toArray, List.set_cons_zero, List.set_cons_succ]
      refine held_run 10 (some 27) (.move (.tmp 0)) ?v5_1_12 (by rfl) (by kernel_rfl) (by kernel_rfl) (by kernel_rfl) (fun _ _ _ h => h) (fun o ho w hS => ?y5_1_12) (by assumption) ?r5_1_12
      case y5_1_12 => (try dsimp only at hS); unfold execOp; simp only [ho]; go_simp; try with_reducible rfl
      try simp only [Act.put, List.setIfInBounds_toArray, List.set_cons_zero, List.set_cons_succ]
      refine held_run 12 (some 29) (.move (.tmp 0)) ?v5_1_13 (by rfl) (by kernel_rfl) (by kernel_rfl) (by kernel_rfl) (fun _ _ _ h => h) (fun o ho w hS => ?y5_1_13) (by assumption) ?r5_1_13
      case y5_1_13 => (try dsimp only at hS); unfold execOp; simp only [ho]; go_simp; try with_reducible rfl
      try simp only [Act.put, List.setIfInBounds_toArray, List.set_cons_zero, List.set_cons_succ]
      refine held_call 11 (some 28) 17 [(.tmp 27)] #[22] #[.slice A n c] (by rfl) (by rfl) (by kernel_rfl) Try.func17 (by rfl) (by rfl) ?_
      refine (HP.out _ HVf.out).mono ?_
      rintro e wg_ ⟨rfl, hb⟩
      have HBg := Lib.hid (HBf.out.trans (hb.mono HBf.out.size))
      have HVg := Lib.hid (HVf.out.now hb)
      have hHg := HS.out _ HBg.out
      clear hb
      refine ⟨_, rfl, hHg, ?_⟩
      try simp only [Act.put, List.setIfInBounds_toArray, List.set_cons_zero, List.set_cons_succ]
      refine held_call 13 (some 30) 18 [(.tmp 29)] #[22] #[.slice A n c] (by rfl) (by rfl) (by kernel_rfl) Try.func18 (by rfl) (by rfl) ?_
      refine (HrP.out _ HVg.out).mono ?_
      rintro e wh_ ⟨rfl, hb⟩
      have HBh := Lib.hid (HBg.out.trans (hb.mono HBg.out.size))
      have HVh := Lib.hid (HVg.out.now hb)
      have hHh := HS.out _ HBh.out
      clear hb
      refine ⟨_, rfl, hHh, ?_⟩
      try simp only [Act.put, List.setIfInBounds_toArray, List.set_cons_zero, List.set_cons_succ]
      refine held_run 14 (some 31) (.binOp .eql 3 (.tmp 28) (.tmp 30) 3) ?v5_1_16 (by rfl) (by kernel_rfl) (by kernel_rfl) (by kernel_rfl) (fun _ _ _ h => h) (fun o ho w hS => ?y5_1_16) (by assumption) ?r5_1_16
      case y5_1_16 => (try dsimp only at hS); unfold execOp; simp only [ho]; go_simp; try with_reducible rfl
      try simp only [Act.put, List.setIfInBounds_toArray, List.set_cons_zero, List.set_cons_succ]
      refine held_run 15 (some 32) (.pick (.tmp 26) (.tmp 31) (.const (Value.bool false))) ?v5_1_17 (by rfl) (by kernel_rfl) (by kernel_rfl) (by kernel_rfl) (fun _ _ _ h => h) (fun o ho w hS => ?y5_1_17) (by assumption) ?r5_1_17
      case y5_1_17 => (try dsimp only at hS); unfold execOp; simp only [ho]; go_simp; try with_reducible rfl
      try simp only [Act.put, List.setIfInBounds_toArray, List.set_cons_zero, List.set_cons_succ]
      refine held_run 16 (some 33) (.move (.tmp 32)) ?v5_1_18 (by rfl) (by kernel_rfl) (by kernel_rfl) (by kernel_rfl) (fun _ _ _ h => h) (fun o ho w hS => ?y5_1_18) (by assumption) ?r5_1_18
      case y5_1_18 => (try dsimp only at hS); unfold execOp; simp only [ho]; go_simp; try with_reducible rfl
      try simp only [Act.put, List.setIfInBounds_toArray, List.set_cons_zero, List.set_cons_succ]
      refine held_run 17 (some 34) (.move (.tmp 0)) ?v5_1_19 (by rfl) (by kernel_rfl) (by kernel_rfl) (by kernel_rfl) (fun _ _ _ h => h) (fun o ho w hS => ?y5_1_19) (by assumption) ?r5_1_19
      case y5_1_19 => (try dsimp only at hS); unfold execOp; simp only [ho]; go_simp; try with_reducible rfl
      try simp only [Act.put, List.setIfInBounds_toArray, List.set_cons_zero, List.set_cons_succ]
      refine held_run 18 (some 35) (.indexAddr 32 (.tmp 4) (.const (.int .i64 1))) ?v5_1_20 (by rfl) (by kernel_rfl) (by kernel_rfl) (by kernel_rfl) (fun _ _ _ h => h) (fun o ho w hS => ?y5_1_20) (by assumption) ?r5_1_20
      case y5_1_20 => (try dsimp only at hS); unfold execOp; simp only [ho]; go_simp; try with_reducible rfl
      try simp only [Act.put, List.setIfInBounds_toArray, List.set_cons_zero, List.set_cons_succ]
      refine held_run 19 (some 36) (.load 3 (.tmp 35)) ?v5_1_21 (by rfl) (by kernel_rfl) (by kernel_rfl) (by kernel_rfl) (fun _ _ _ h => h) (fun o ho w hS => ?y5_1_21) (by assumption) ?r5_1_21
      case y5_1_21 => (try dsimp only at hS); unfold execOp; simp only [ho]; go_simp; try with_reducible rfl
      try simp only [Act.put, List.setIfInBounds_toArray, List.set_cons_zero, List.set_cons_succ]
      refine held_run 20 (some 37) (.indexAddr 32 (.tmp 4) (.const (.int .i64 2))) ?v5_1_22 (by rfl) (by kernel_rfl) (by kernel_rfl) (by kernel_rfl) (fun _ _ _ h => h) (fun o ho w hS => ?y5_1_22) (by assumption) ?r5_1_22
      case y5_1_22 => (try dsimp only at hS); unfold execOp; simp only [ho]; go_simp; try with_reducible rfl
      try simp only [Act.put, List.setIfInBounds_toArray, List.set_cons_zero, List.set_cons_succ]
      refine held_run 21 (some 38) (.load 3 (.tmp 37)) ?v5_1_23 (by rfl) (by kernel_rfl) (by kernel_rfl) (by kernel_rfl) (fun _ _ _ h => h) (fun o ho w hS => ?y5_1_23) (by assumption) ?r5_1_23
      case y5_1_23 => (try dsimp only at hS); unfold execOp; simp only [ho]; go_simp; try with_reducible rfl
      try simp only [Act.put, List.setIfInBounds_toArray, List.set_cons_zero, List.set_cons_succ]
      refine held_load 22 (some 39) 34 (.tmp 5) (by rfl) (by kernel_rfl) (by kernel_rfl) (by kernel_rfl) ((w.heap.size + 1)) 34 #[.int .i64 sa, .int .i64 sb] (fun _ _ _ h => h) (by rfl) (fun _ h => h.2.2.2) _ Try.underlying34 rfl (by kernel_rfl) (by assumption) ?_
      try simp only [Act.put, List.setIfInBounds_toArray, List.set_cons_zero, List.set_cons_succ]
      refine held_run 24 (some 41) (.move (.tmp 0)) ?v5_1_25 (by rfl) (by kernel_rfl) (by kernel_rfl) (by kernel_rfl) (fun _ _ _ h => h) (fun o ho w hS => ?y5_1_25) (by assumption) ?r5_1_25
      case y5_1_25 => (try dsimp only at hS); unfold execOp; simp only [ho]; go_simp; try with_reducible rfl
      try simp only [Act.put, List.setIfInBounds_toArray, List.set_cons_zero, List.set_cons_succ]
      refine held_run 25 (some 42) (.indexAddr 32 (.tmp 4) (.const (.int .i64 1))) ?v5_1_26 (by rfl) (by kernel_rfl) (by kernel_rfl) (by kernel_rfl) (fun _ _ _ h => h) (fun o ho w hS => ?y5_1_26) (by assumption) ?r5_1_26
      case y5_1_26 => (try dsimp only at hS); unfold execOp; simp only [ho]; go_simp; try with_reducible rfl
      try simp only [Act.put, List.setIfInBounds_toArray, List.set_cons_zero, List.set_cons_succ]
      refine held_run 26 (some 43) (.load 3 (.tmp 42)) ?v5_1_27 (by rfl) (by kernel_rfl) (by kernel_rfl) (by kernel_rfl) (fun _ _ _ h => h) (fun o ho w hS => ?y5_1_27) (by assumption) ?r5_1_27
      case y5_1_27 => (try dsimp only at hS); unfold execOp; simp only [ho]; go_simp; try with_reducible rfl
      try simp only [Act.put, List.setIfInBounds_toArray, List.set_cons_zero, List.set_cons_succ]
      refine held_run 27 (some 44) (.indexAddr 32 (.tmp 4) (.const (.int .i64 2))) ?v5_1_28 (by rfl) (by kernel_rfl) (by kernel_rfl) (by kernel_rfl) (fun _ _ _ h => h) (fun o ho w hS => ?y5_1_28) (by assumption) ?r5_1_28
      case y5_1_28 => (try dsimp only at hS); unfold execOp; simp only [ho]; go_simp; try with_reducible rfl
      try simp only [Act.put, List.setIfInBounds_toArray, List.set_cons_zero, List.set_cons_succ]
      refine held_run 28 (some 45) (.load 3 (.tmp 44)) ?v5_1_29 (by rfl) (by kernel_rfl) (by kernel_rfl) (by kernel_rfl) (fun _ _ _ h => h) (fun o ho w hS => ?y5_1_29) (by assumption) ?r5_1_29
      case y5_1_29 => (try dsimp only at hS); unfold execOp; simp only [ho]; go_simp; try with_reducible rfl
      try simp only [Act.put, List.setIfInBounds_toArray, List.set_cons_zero, List.set_cons_succ]
      refine held_load 29 (some 46) 34 (.tmp 5) (by rfl) (by kernel_rfl) (by kernel_rfl) (by kernel_rfl) ((w.heap.size + 1)) 34 #[.int .i64 sa, .int .i64 sb] (fun _ _ _ h => h) (by rfl) (fun _ h => h.2.2.2) _ Try.underlying34 rfl (by kernel_rfl) (by assumption) ?_
      try simp only [Act.put, List.setIfInBounds_toArray, List.set_cons_zero, List.set_cons_succ]
      refine held_call 23 (some 40) 19 [(.tmp 34), (.tmp 36), (.tmp 38), (.tmp 39)] #[22, 3, 3, 34] #[.slice A n c, .int .i64 x1, .int .i64 x2, .agg #[.int .i64 sa, .int .i64 sb]] (by rfl) (by rfl) (by kernel_rfl) Try.func19 (by rfl) (by rfl) ?_
      refine (HC.out _ HVh.out).mono ?_
      rintro e wk_ ⟨rfl, hb⟩
      have HBk := Lib.hid (HBh.out.trans (hb.mono HBh.out.size))
      have HVk := Lib.hid (HVh.out.now hb)
      have hHk := HS.out _ HBk.out
      clear hb
      refine ⟨_, rfl, hHk, ?_⟩
      try simp only [Act.put, List.setIfInBounds_toArray, List.set_cons_zero, List.set_cons_succ]
      refine held_call 30 (some 47) 20 [(.tmp 41), (.tmp 43), (.tmp 45), (.tmp 46)] #[22, 3, 3, 34] #[.slice A n c, .int .i64 x1, .int .i64 x2, .agg #[.int .i64 sa, .int .i64 sb]] (by rfl) (by rfl) (by kernel_rfl) Try.func20 (by rfl) (by rfl) ?_
      refine (HrC.out _ HVk.out).mono ?_
      rintro e wi_ ⟨rfl, hb⟩
      have HBi := Lib.hid (HBk.out.trans (hb.mono HBk.out.size))
      have HVi := Lib.hid (HVk.out.now hb)
      have hHi := HS.out _ HBi.out
      clear hb
      refine ⟨_, rfl, hHi, ?_⟩
      try simp only [Act.put, List.setIfInBounds_toArray, List.set_cons_zero, List.set_cons_succ]
      refine held_run 31 (some 48) (.binOp .eql 3 (.tmp 40) (.tmp 47) 3) ?v5_1_33 (by rfl) (by kernel_rfl) (by kernel_rfl) (by kernel_rfl) (fun _ _ _ h => h) (fun o ho w hS => ?y5_1_33) (by assumption) ?r5_1_33
      case y5_1_33 => (try dsimp only at hS); unfold execOp; simp only [ho]; go_simp; try with_reducible rfl
      try simp only [Act.put, List.setIfInBounds_toArray, List.set_cons_zero, List.set_cons_succ]
      refine held_run 32 (some 49) (.pick (.tmp 33) (.tmp 48) (.const (Value.bool false))) ?v5_1_34 (by rfl) (by kernel_rfl) (by kernel_rfl) (by kernel_rfl) (fun _ _ _ h => h) (fun o ho w hS => ?y5_1_34) (by assumption) ?r5_1_34
      case y5_1_34 => (try dsimp only at hS); unfold execOp; simp only [ho]; go_simp; try with_reducible rfl
      try simp only [Act.put, List.setIfInBounds_toArray, List.set_cons_zero, List.set_cons_succ]
      refine held_run 33 (some 6) (.assign (.tmp 49)) ?v5_1_35 (by rfl) (by kernel_rfl) (by kernel_rfl) (by kernel_rfl) (fun _ _ _ h => h) (fun o ho w hS => ?y5_1_35) (by assumption) ?r5_1_35
      case y5_1_35 => (try dsimp only at hS); unfold execOp; simp only [ho]; go_simp; try with_reducible rfl
      try simp only [Act.put, List.setIfInBounds_toArray, List.set_cons_zero, List.set_cons_succ]
      refine wpAnyH_done (by kernel_rfl) ?_ _
      go_wp2_with fail
      go_ret
      exact ⟨rfl, HB2.out.trans (HBi.out.mono HB2.out.size)⟩
    · have d2 : (((rightC l : Nat) : Int) != 0) = true := bne_iff_ne.2 (by omega)
      generalize ((rightC l : Nat) : Int) = r at *
      go_wp2_with fail
      go_ret
      exact ⟨rfl, HB2.out⟩
  · have d1 : decide ((n : Int) > 100) = true := decide_eq_true (by omega)
    go_wp2_with fail
    go_ret
    exact ⟨rfl, HB1.out⟩


theorem own_censusCounts : ownKnob Try.prog.godebug = none := by kernel_rfl
theorem laidOut_censusCounts : laidOutB Try.prog = true := by kernel_rfl
set_option maxRecDepth 100000 in
theorem censusCounts_lifted (os : Os) (started : os.Started) (H : Type) (enc : TypeId × Value → H) :
    ReturnsInHanded {} Try.checked os 4 .any (Rows.censusCountsSpec.pre6 enc Try.prog Try.f4 Rows.censusCountsRow.domain false) (Rows.censusCountsSpec.post enc Try.prog Try.f4 false true false false) := by
  refine returnsInHanded_of_change (C := Try.checked) own_censusCounts started (by kernel_rfl) Try.func4
    (ChangeSpec.witness6 (enc := enc) (C := Try.checked) false ⟨#[], #[.slice none 0 0, .agg #[.int .i64 0, .int .i64 0, .int .i64 0], .agg #[.int .i64 0, .int .i64 0]], []⟩ 8 (by kernel_rfl) (by kernel_rfl) (by kernel_rfl) (by kernel_rfl)) ?_
  intro W base args ds gs before hval0 hW hcnd _
  have hval : ∀ (j : Nat) t v, Try.f4.params[j]? = some t → args[j]? = some v → Value.okWide Try.prog W .any base t v := hval0
  have hW' := hW
  obtain ⟨p, q, hA0, hV, rfl, hfz, hnd⟩ := hW
  have hA : DataW.TrodAll enc Try.prog W 0 (fun _ => true) true Try.f4.params.toList args.toList ds p := hA0
  rw [Try.params4] at hA hval
  obtain ⟨v0, vs0, d0, ds0, p0, q0, hargs, rfl, rfl, h0, r0⟩ := trodAll_cons hA
  obtain ⟨v1, vs1, d1, ds1, p1, q1, rfl, rfl, rfl, h1, r1⟩ := trodAll_cons r0
  obtain ⟨v2, vs2, d2, ds2, p2, q2, rfl, rfl, rfl, h2, r2⟩ := trodAll_cons r1
  obtain ⟨rfl, rfl, rfl⟩ := trodAll_nil r2
  obtain rfl : args = #[v0, v1, v2] := by cases args; simp_all
  obtain ⟨rfl, rfl⟩ := trodVars_none hV
  obtain ⟨l, hl⟩ := open_crs (hval 0 22 v0 rfl rfl) h0
  obtain ⟨x0, x1, x2, rfl⟩ := open_three (hval 1 32 v1 rfl rfl) h1
  obtain ⟨sa, sb, rfl⟩ := open_span (hval 2 34 v2 rfl rfl) h2
  refine (censusCounts_any W v0 l hl x0 x1 x2 sa sb).mono fun e W' ⟨he, hb⟩ => ?_
  subst he
  exact ⟨_, rfl, law_post laidOut_censusCounts (by kernel_rfl) rfl rfl Try.underlying4 hW' rfl hb⟩

theorem censusCounts_holds : Rows.CensusCountsSaid :=
  OpenClaim.holds_of_wide 4 Try.f4 rfl rfl rfl rfl rfl rfl rfl ⟨rfl, rfl, rfl, rfl, rfl⟩ rfl rfl rfl rfl rfl (by kernel_rfl) Try.func4 (by kernel_rfl)
    (of_decide_eq_true (by kernel_rfl)) (by unfold Func.isWrapper; rw [if_neg (by decide +kernel)]; exact ⟨rfl, rfl⟩)
    (fun os started H enc _ => censusCounts_lifted os started H enc)
#print axioms censusCounts_holds

end Go.Proofs.Ytihmboibpjfohaa
