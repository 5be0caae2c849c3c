/-
  SweepChecks answers true for every input. Its conditions: none. (One heavy walk.)
-/
import Derived.Test.YticoeibccdplaaaRows
import Derived.Test.YticoeibccdplaaaRowS
import Derived.Test.YticoeibccdplaaaSwpR
import Derived.Test.YticoeibccdplaaaSwpX
import Derived.Test.YticoeibccdplaaaSwpZ
namespace Go.Proofs.Yticoeibccdplaaa
open Go.ChangeShapes Go.WideShapes Go.ChangeAt Go.RowKit

set_option maxRecDepth 100000 in
set_option maxHeartbeats 40000000 in
theorem sweepChecks_any (w : World) (vn vl vr vb : Value) (nd : List Nd) (lf : List Lf) (rs : List Rn) (bs : List Int) (hnd : StrV Nd.cells 2 w w.heap.size vn nd) (hlf : StrV Lf.cells 8 w w.heap.size vl lf) (hrs : StrV Rn.cells 7 w w.heap.size vr rs) (hbs : RowV w w.heap.size vb bs) (v1 v2 : Value) (bg : Int) (runs : List Int) (sw : List Sw) (hru : RowV w w.heap.size v1 runs) (hsw : StrV Sw.cells 4 w w.heap.size v2 sw) :
    Calls Try.prog 3 #[.agg #[vn, vl, vr, vb], .agg #[v1, v2, .int .i64 bg]] w fun e w' => e = .returned (.bool true) ∧ Below w.heap.size w w' := by
  have HNd := Lib.hid hnd
  have HLf := Lib.hid hlf
  have HM := Lib.hid hrs
  have HBv := Lib.hid hbs
  have HR1 := Lib.hid hru
  have HR2 := Lib.hid hsw
  clear hnd hlf hrs hbs hru hsw
  obtain ⟨A1, n1, c1, rfl, HL1, _, _, _⟩ := HR1.out.nam
  obtain ⟨A2, n2, c2, rfl, HL2, _, _, _⟩ := HR2.out.nam
  obtain ⟨r, hr⟩ : ∃ r, rightP rs bs runs bg sw = r := ⟨_, rfl⟩
  have HCp : Hid (∀ W : World, StrV Rn.cells 7 W W.heap.size vr rs → RowV W W.heap.size vb bs → RowV W W.heap.size (.slice A1 n1 c1) runs → StrV Sw.cells 4 W W.heap.size (.slice A2 n2 c2) sw → Calls Try.prog 13 #[.agg #[vn, vl, vr, vb], .agg #[.slice A1 n1 c1, .slice A2 n2 c2, .int .i64 bg]] W fun e w' => e = .returned (.int .i64 r) ∧ Below W.heap.size W w') := fun W a1 a2 a3 a4 => hr ▸ right_any vn vl vr vb _ _ bg rs bs runs sw W a1 a2 a3 a4
  have HCr : Hid (∀ W : World, StrV Rn.cells 7 W W.heap.size vr rs → RowV W W.heap.size vb bs → RowV W W.heap.size (.slice A1 n1 c1) runs → StrV Sw.cells 4 W W.heap.size (.slice A2 n2 c2) sw → Calls Try.prog 14 #[.agg #[vn, vl, vr, vb], .agg #[.slice A1 n1 c1, .slice A2 n2 c2, .int .i64 bg]] W fun e w' => e = .returned (.int .i64 r) ∧ Below W.heap.size W w') := fun W a1 a2 a3 a4 => (right_eq rs bs runs bg sw).symm.trans hr ▸ rright_any vn vl vr vb _ _ bg rs bs runs sw W a1 a2 a3 a4
  clear hr
  go_enter Try.func3, Try.ntmps3
  go_wp2_with fail
  have HBwz0 := (Blk.new w 27 #[vn, vl, vr, vb])
  have HLwz0 := (below_new w (.cells #[vn, vl, vr, vb] 27))
  have hswz0 : (w.alloc (.cells #[vn, vl, vr, vb] 27)).heap.size = w.heap.size + 1 := by simp
  generalize w.alloc (.cells #[vn, vl, vr, vb] 27) = wz0 at HBwz0 HLwz0 hswz0 ⊢
  replace HBwz0 := Lib.hid HBwz0
  replace HLwz0 := Lib.hid HLwz0
  have hlwz0 : w.heap.size < wz0.heap.size := by omega
  replace hswz0 := Lib.hid hswz0
  have HBwb := (Blk.new wz0 30 #[.slice A1 n1 c1, .slice A2 n2 c2, .int .i64 bg])
  have HLwb := (below_new wz0 (.cells #[.slice A1 n1 c1, .slice A2 n2 c2, .int .i64 bg] 30))
  have hswb : (wz0.alloc (.cells #[.slice A1 n1 c1, .slice A2 n2 c2, .int .i64 bg] 30)).heap.size = wz0.heap.size + 1 := by simp
  generalize wz0.alloc (.cells #[.slice A1 n1 c1, .slice A2 n2 c2, .int .i64 bg] 30) = wb at HBwb HLwb hswb ⊢
  replace HBwb := Lib.hid HBwb
  replace HLwb := Lib.hid HLwb
  have hlwb : wz0.heap.size < wb.heap.size := by omega
  replace hswb := Lib.hid hswb
  have HQ1 := Lib.hid (HLwz0.out.trans (HLwb.out.mono HLwz0.out.size))
  have HWb := Lib.hid (HQ1.out)
  have hl0 : w.heap.size ≤ wb.heap.size := HWb.out.size
  have HBb : Hid (Below wb.heap.size wb wb) := hide (Below.refl _ _)
  have hszb : wb.heap.size ≤ wb.heap.size := Nat.le_refl _
  have HZ0_1 := Lib.hid (HBwz0.out.below HLwb.out hlwz0)
  have hz0_1 : w.heap.size < wb.heap.size := HZ0_1.out.lt
  have HX0b : Hid (Blk wb w.heap.size 27 #[vn, vl, vr, vb]) := hide HZ0_1.out
  have hxx0 : w.heap.size < wb.heap.size := HX0b.out.lt
  have HX1b : Hid (Blk wb (w.heap.size + 1) 30 #[.slice A1 n1 c1, .slice A2 n2 c2, .int .i64 bg]) := hide (by have h := HBwb.out; rw [show wz0.heap.size = w.heap.size + 1 from by have := hswz0.out; omega] at h; exact h)
  have hxx1 : (w.heap.size + 1) < wb.heap.size := HX1b.out.lt
  clear HBwz0 HLwz0 hswz0 hlwz0
  clear HBwb HLwb hswb hlwb
  have HNdb := Lib.hid (HNd.out.now HWb.out)
  have HLfb := Lib.hid (HLf.out.now HWb.out)
  have HMb := Lib.hid (HM.out.now HWb.out)
  have HBvb := Lib.hid (HBv.out.now HWb.out)
  have HR1b := Lib.hid (HR1.out.now HWb.out)
  have HR2b := Lib.hid (HR2.out.now HWb.out)
  with_reducible refine (alive_any _).mono ?_
  rintro e w1 ⟨rfl, hb1⟩
  have HB1 := Lib.hid (HBb.out.trans (hb1.mono hszb))
  have HW1 := Lib.hid (HWb.out.trans (hb1.mono HWb.out.size))
  have hsz1 : wb.heap.size ≤ w1.heap.size := Nat.le_trans hszb hb1.size
  have HX01 := Lib.hid (HX0b.out.below hb1 (Nat.lt_of_lt_of_le hxx0 hszb))
  have HX11 := Lib.hid (HX1b.out.below hb1 (Nat.lt_of_lt_of_le hxx1 hszb))
  have HNd1 := Lib.hid (HNdb.out.now hb1)
  have HLf1 := Lib.hid (HLfb.out.now hb1)
  have HM1 := Lib.hid (HMb.out.now hb1)
  have HBv1 := Lib.hid (HBvb.out.now hb1)
  have HR11 := Lib.hid (HR1b.out.now hb1)
  have HR21 := Lib.hid (HR2b.out.now hb1)
  clear hb1
  go_wp2_with fail
  have HS : Hid (∀ W, Below w1.heap.size w1 W → (fun W => Below w1.heap.size w1 W ∧ Blk W w.heap.size 27 #[vn, vl, vr, vb] ∧ Blk W (w.heap.size + 1) 30 #[.slice A1 n1 c1, .slice A2 n2 c2, .int .i64 bg] ∧ W.cell? ⟨w.heap.size + 1, 0, none⟩ = some (.slice A1 n1 c1) ∧ W.cell? ⟨w.heap.size + 1, 1, none⟩ = some (.slice A2 n2 c2)) W) := fun W hB => ⟨hB, HX01.out.below hB (Nat.lt_of_lt_of_le hxx0 hsz1), HX11.out.below hB (Nat.lt_of_lt_of_le hxx1 hsz1), (HX11.out.below hB (Nat.lt_of_lt_of_le hxx1 hsz1)).cell 0, (HX11.out.below hB (Nat.lt_of_lt_of_le hxx1 hsz1)).cell 1⟩
  have h0 := HS.out _ ((Below.refl w1.heap.size w1).drew)
  have HNdd : Hid (StrV Nd.cells 2 w1.drew w1.drew.heap.size vn nd) := hide HNd1.out
  have HLfd : Hid (StrV Lf.cells 8 w1.drew w1.drew.heap.size vl lf) := hide HLf1.out
  have HMd : Hid (StrV Rn.cells 7 w1.drew w1.drew.heap.size vr rs) := hide HM1.out
  have HBvd : Hid (RowV w1.drew w1.drew.heap.size vb bs) := hide HBv1.out
  refine wp_region_held_drew (S := fun W => Below w1.heap.size w1 W ∧ Blk W w.heap.size 27 #[vn, vl, vr, vb] ∧ Blk W (w.heap.size + 1) 30 #[.slice A1 n1 c1, .slice A2 n2 c2, .int .i64 bg] ∧ W.cell? ⟨w.heap.size + 1, 0, none⟩ = some (.slice A1 n1 c1) ∧ W.cell? ⟨w.heap.size + 1, 1, none⟩ = some (.slice A2 n2 c2)) (by kernel_rfl) (h0) (fun hHeld => ?_)
  refine held_load 0 (some 7) 27 (.tmp 2) (by rfl) (by kernel_rfl) (by kernel_rfl) (by kernel_rfl) (w.heap.size) 27 #[vn, vl, vr, vb] (fun _ _ _ h => h) (by rfl) (fun _ h => h.2.1) _ Try.underlying27 rfl (by kernel_rfl) (by assumption) ?_
  try simp only [Act.put, List.setIfInBounds_toArray, List.set_cons_zero, List.set_cons_succ]
  refine held_call 1 (some 8) 12 [(.tmp 7)] #[27] #[.agg #[vn, vl, vr, vb]] (by rfl) (by rfl) (by kernel_rfl) Try.func12 (by rfl) (by rfl) ?_
  refine (tright_any vn vl vr vb nd lf rs bs _ HNdd.out HLfd.out HMd.out HBvd.out).mono ?_
  rintro e w2 ⟨r2, rfl, _, hb2⟩
  have hbb2 : Below w1.heap.size w1 w2 := (Below.refl w1.heap.size w1).drew.trans hb2
  have HB2 := Lib.hid (HB1.out.trans (hbb2.mono hsz1))
  have HW2 := Lib.hid (HW1.out.trans (hbb2.mono HW1.out.size))
  have hsz2 : wb.heap.size ≤ w2.heap.size := Nat.le_trans hsz1 hbb2.size
  have HX02 := Lib.hid (HX01.out.below hbb2 (Nat.lt_of_lt_of_le hxx0 hsz1))
  have HX12 := Lib.hid (HX11.out.below hbb2 (Nat.lt_of_lt_of_le hxx1 hsz1))
  have HNd2 := Lib.hid (HNd1.out.now hbb2)
  have HLf2 := Lib.hid (HLf1.out.now hbb2)
  have HM2 := Lib.hid (HM1.out.now hbb2)
  have HBv2 := Lib.hid (HBv1.out.now hbb2)
  have HR12 := Lib.hid (HR11.out.now hbb2)
  have HR22 := Lib.hid (HR21.out.now hbb2)
  clear h0
  have h0 := HS.out _ hbb2
  have HY2 := Lib.hid hbb2
  refine ⟨_, rfl, h0, ?_⟩
  clear hb2 hbb2
  try simp only [Act.put, List.setIfInBounds_toArray, List.set_cons_zero, List.set_cons_succ]
  by_cases hr2 : r2 = 0
  rotate_left
  · have d0 : (r2 == 0) = false := beq_eq_false_iff_ne.2 hr2
    have d1 : (r2 != 0) = true := by simp [hr2]
    refine held_run 2 (some 9) (.binOp .neq 32 (.tmp 8) (.const (.int .i64 0)) 32) ?v3_4_5 (by rfl) (by kernel_rfl) (by kernel_rfl) (by kernel_rfl) (fun _ _ _ h => h) (fun o ho w hS => ?y3_4_5) (by assumption) ?r3_4_5
    case y3_4_5 => (try dsimp only at hS); unfold execOp; simp only [ho]; go_simp; try with_reducible rfl
    try simp only [Act.put, List.setIfInBounds_toArray, List.set_cons_zero, List.set_cons_succ]
    refine held_run 3 (some 10) (.move (.tmp 9)) ?v3_4_6 (by rfl) (by kernel_rfl) (by kernel_rfl) (by kernel_rfl) (fun _ _ _ h => h) (fun o ho w hS => ?y3_4_6) (by assumption) ?r3_4_6
    case y3_4_6 => (try dsimp only at hS); unfold execOp; simp only [ho]; go_simp; try with_reducible rfl
    try simp only [Act.put, List.setIfInBounds_toArray, List.set_cons_zero, List.set_cons_succ]
    refine held_skip 4 (some 11) (by rfl) (by kernel_rfl) (by kernel_rfl) (by kernel_rfl) (fun _ _ _ h => h) (by assumption) ?_
    try simp only [Act.put, List.setIfInBounds_toArray, List.set_cons_zero, List.set_cons_succ]
    refine held_skip 5 (some 12) (by rfl) (by kernel_rfl) (by kernel_rfl) (by kernel_rfl) (fun _ _ _ h => h) (by assumption) ?_
    try simp only [Act.put, List.setIfInBounds_toArray, List.set_cons_zero, List.set_cons_succ]
    refine held_skip 6 (some 13) (by rfl) (by kernel_rfl) (by kernel_rfl) (by kernel_rfl) (fun _ _ _ h => h) (by assumption) ?_
    try simp only [Act.put, List.setIfInBounds_toArray, List.set_cons_zero, List.set_cons_succ]
    refine held_skip 7 (some 14) (by rfl) (by kernel_rfl) (by kernel_rfl) (by kernel_rfl) (fun _ _ _ h => h) (by assumption) ?_
    try simp only [Act.put, List.setIfInBounds_toArray, List.set_cons_zero, List.set_cons_succ]
    refine held_run 8 (some 15) (.pick (.tmp 10) (.const (Value.bool true)) (.tmp 14)) ?v3_4_11 (by rfl) (by kernel_rfl) (by kernel_rfl) (by kernel_rfl) (fun _ _ _ h => h) (fun o ho w hS => ?y3_4_11) (by assumption) ?r3_4_11
    case y3_4_11 => (try dsimp only at hS); unfold execOp; simp only [ho]; go_simp; try with_reducible rfl
    try simp only [Act.put, List.setIfInBounds_toArray, List.set_cons_zero, List.set_cons_succ]
    refine held_run 9 (some 16) (.move (.tmp 15)) ?v3_4_12 (by rfl) (by kernel_rfl) (by kernel_rfl) (by kernel_rfl) (fun _ _ _ h => h) (fun o ho w hS => ?y3_4_12) (by assumption) ?r3_4_12
    case y3_4_12 => (try dsimp only at hS); unfold execOp; simp only [ho]; go_simp; try with_reducible rfl
    try simp only [Act.put, List.setIfInBounds_toArray, List.set_cons_zero, List.set_cons_succ]
    refine held_skip 10 (some 17) (by rfl) (by kernel_rfl) (by kernel_rfl) (by kernel_rfl) (fun _ _ _ h => h) (by assumption) ?_
    try simp only [Act.put, List.setIfInBounds_toArray, List.set_cons_zero, List.set_cons_succ]
    refine held_skip 11 (some 18) (by rfl) (by kernel_rfl) (by kernel_rfl) (by kernel_rfl) (fun _ _ _ h => h) (by assumption) ?_
    try simp only [Act.put, List.setIfInBounds_toArray, List.set_cons_zero, List.set_cons_succ]
    refine held_skip 12 (some 19) (by rfl) (by kernel_rfl) (by kernel_rfl) (by kernel_rfl) (fun _ _ _ h => h) (by assumption) ?_
    try simp only [Act.put, List.setIfInBounds_toArray, List.set_cons_zero, List.set_cons_succ]
    refine held_skip 13 (some 20) (by rfl) (by kernel_rfl) (by kernel_rfl) (by kernel_rfl) (fun _ _ _ h => h) (by assumption) ?_
    try simp only [Act.put, List.setIfInBounds_toArray, List.set_cons_zero, List.set_cons_succ]
    refine held_run 14 (some 21) (.pick (.tmp 16) (.const (Value.bool true)) (.tmp 20)) ?v3_4_17 (by rfl) (by kernel_rfl) (by kernel_rfl) (by kernel_rfl) (fun _ _ _ h => h) (fun o ho w hS => ?y3_4_17) (by assumption) ?r3_4_17
    case y3_4_17 => (try dsimp only at hS); unfold execOp; simp only [ho]; go_simp; try with_reducible rfl
    try simp only [Act.put, List.setIfInBounds_toArray, List.set_cons_zero, List.set_cons_succ]
    refine held_run 15 (some 22) (.move (.tmp 21)) ?v3_4_18 (by rfl) (by kernel_rfl) (by kernel_rfl) (by kernel_rfl) (fun _ _ _ h => h) (fun o ho w hS => ?y3_4_18) (by assumption) ?r3_4_18
    case y3_4_18 => (try dsimp only at hS); unfold execOp; simp only [ho]; go_simp; try with_reducible rfl
    try simp only [Act.put, List.setIfInBounds_toArray, List.set_cons_zero, List.set_cons_succ]
    refine held_skip 16 (some 23) (by rfl) (by kernel_rfl) (by kernel_rfl) (by kernel_rfl) (fun _ _ _ h => h) (by assumption) ?_
    try simp only [Act.put, List.setIfInBounds_toArray, List.set_cons_zero, List.set_cons_succ]
    refine held_skip 17 (some 24) (by rfl) (by kernel_rfl) (by kernel_rfl) (by kernel_rfl) (fun _ _ _ h => h) (by assumption) ?_
    try simp only [Act.put, List.setIfInBounds_toArray, List.set_cons_zero, List.set_cons_succ]
    refine held_skip 19 (some 26) (by rfl) (by kernel_rfl) (by kernel_rfl) (by kernel_rfl) (fun _ _ _ h => h) (by assumption) ?_
    try simp only [Act.put, List.setIfInBounds_toArray, List.set_cons_zero, List.set_cons_succ]
    refine held_skip 20 (some 27) (by rfl) (by kernel_rfl) (by kernel_rfl) (by kernel_rfl) (fun _ _ _ h => h) (by assumption) ?_
    try simp only [Act.put, List.setIfInBounds_toArray, List.set_cons_zero, List.set_cons_succ]
    refine held_skip 18 (some 25) (by rfl) (by kernel_rfl) (by kernel_rfl) (by kernel_rfl) (fun _ _ _ h => h) (by assumption) ?_
    try simp only [Act.put, List.setIfInBounds_toArray, List.set_cons_zero, List.set_cons_succ]
    refine held_skip 21 (some 28) (by rfl) (by kernel_rfl) (by kernel_rfl) (by kernel_rfl) (fun _ _ _ h => h) (by assumption) ?_
    try simp only [Act.put, List.setIfInBounds_toArray, List.set_cons_zero, List.set_cons_succ]
    refine held_skip 22 (some 29) (by rfl) (by kernel_rfl) (by kernel_rfl) (by kernel_rfl) (fun _ _ _ h => h) (by assumption) ?_
    try simp only [Act.put, List.setIfInBounds_toArray, List.set_cons_zero, List.set_cons_succ]
    refine held_run 23 (some 30) (.pick (.tmp 22) (.const (Value.bool true)) (.tmp 29)) ?v3_4_26 (by rfl) (by kernel_rfl) (by kernel_rfl) (by kernel_rfl) (fun _ _ _ h => h) (fun o ho w hS => ?y3_4_26) (by assumption) ?r3_4_26
    case y3_4_26 => (try dsimp only at hS); unfold execOp; simp only [ho]; go_simp; try with_reducible rfl
    try simp only [Act.put, List.setIfInBounds_toArray, List.set_cons_zero, List.set_cons_succ]
    refine held_run 24 (some 4) (.assign (.tmp 30)) ?v3_4_27 (by rfl) (by kernel_rfl) (by kernel_rfl) (by kernel_rfl) (fun _ _ _ h => h) (fun o ho w hS => ?y3_4_27) (by assumption) ?r3_4_27
    case y3_4_27 => (try dsimp only at hS); unfold execOp; simp only [ho]; go_simp; try with_reducible rfl
    try simp only [Act.put, List.setIfInBounds_toArray, List.set_cons_zero, List.set_cons_succ]
    refine wpAnyH_done (by kernel_rfl) ?_ _
    go_wp2_with fail
    go_ret
    exact ⟨rfl, HW2.out⟩
  subst hr2
  by_cases hl1 : 80 < n1
  · have e1 : decide ((n1 : Int) > 80) = true := decide_eq_true (by omega)
    have e2 : (80 : Int) < (n1 : Int) := by omega
    refine held_run 2 (some 9) (.binOp .neq 32 (.tmp 8) (.const (.int .i64 0)) 32) ?v3_28_29 (by rfl) (by kernel_rfl) (by kernel_rfl) (by kernel_rfl) (fun _ _ _ h => h) (fun o ho w hS => ?y3_28_29) (by assumption) ?r3_28_29
    case y3_28_29 => (try dsimp only at hS); unfold execOp; simp only [ho]; go_simp; try with_reducible rfl
    try simp only [Act.put, List.setIfInBounds_toArray, List.set_cons_zero, List.set_cons_succ]
    refine held_run 3 (some 10) (.move (.tmp 9)) ?v3_28_30 (by rfl) (by kernel_rfl) (by kernel_rfl) (by kernel_rfl) (fun _ _ _ h => h) (fun o ho w hS => ?y3_28_30) (by assumption) ?r3_28_30
    case y3_28_30 => (try dsimp only at hS); unfold execOp; simp only [ho]; go_simp; try with_reducible rfl
    try simp only [Act.put, List.setIfInBounds_toArray, List.set_cons_zero, List.set_cons_succ]
    refine held_run 4 (some 11) (.fieldAddr 30 (.tmp 3) 0) ?v3_28_31 (by rfl) (by kernel_rfl) (by kernel_rfl) (by kernel_rfl) (fun _ _ _ h => h) (fun o ho w hS => ?y3_28_31) (by assumption) ?r3_28_31
    case y3_28_31 => (try dsimp only at hS); unfold execOp; simp only [ho]; go_simp; try with_reducible rfl
    try simp only [Act.put, List.setIfInBounds_toArray, List.set_cons_zero, List.set_cons_succ]
    refine held_run 5 (some 12) (.load 25 (.tmp 11)) ?v3_28_32 (by rfl) (by kernel_rfl) (by kernel_rfl) (by kernel_rfl) (fun _ _ _ h => h) (fun o ho w hS => ?y3_28_32) (by assumption) ?r3_28_32
    case y3_28_32 => (try dsimp only at hS); unfold execOp; simp only [ho]; go_simp; try with_reducible rfl
    try simp only [Act.put, List.setIfInBounds_toArray, List.set_cons_zero, List.set_cons_succ]
    refine held_run 6 (some 13) (.call { callee := .builtin .len, args := #[(.tmp 12)], argTypes := #[25] }) ?v3_28_33 (by rfl) (by kernel_rfl) (by kernel_rfl) (by kernel_rfl) (fun _ _ _ h => h) (fun o ho w hS => ?y3_28_33) (by assumption) ?r3_28_33
    case y3_28_33 => (try dsimp only at hS); unfold execOp; simp only [ho]; go_simp; try with_reducible rfl
    try simp only [Act.put, List.setIfInBounds_toArray, List.set_cons_zero, List.set_cons_succ]
    refine held_run 7 (some 14) (.binOp .gtr 3 (.tmp 13) (.const (.int .i64 80)) 3) ?v3_28_34 (by rfl) (by kernel_rfl) (by kernel_rfl) (by kernel_rfl) (fun _ _ _ h => h) (fun o ho w hS => ?y3_28_34) (by assumption) ?r3_28_34
    case y3_28_34 => (try dsimp only at hS); unfold execOp; simp only [ho]; go_simp; try with_reducible rfl
    try simp only [Act.put, List.setIfInBounds_toArray, List.set_cons_zero, List.set_cons_succ]
    refine held_run 8 (some 15) (.pick (.tmp 10) (.const (Value.bool true)) (.tmp 14)) ?v3_28_35 (by rfl) (by kernel_rfl) (by kernel_rfl) (by kernel_rfl) (fun _ _ _ h => h) (fun o ho w hS => ?y3_28_35) (by assumption) ?r3_28_35
    case y3_28_35 => (try dsimp only at hS); unfold execOp; simp only [ho]; go_simp; try with_reducible rfl
    try simp only [Act.put, List.setIfInBounds_toArray, List.set_cons_zero, List.set_cons_succ]
    refine held_run 9 (some 16) (.move (.tmp 15)) ?v3_28_36 (by rfl) (by kernel_rfl) (by kernel_rfl) (by kernel_rfl) (fun _ _ _ h => h) (fun o ho w hS => ?y3_28_36) (by assumption) ?r3_28_36
    case y3_28_36 => (try dsimp only at hS); unfold execOp; simp only [ho]; go_simp; try with_reducible rfl
    try simp only [Act.put, List.setIfInBounds_toArray, List.set_cons_zero, List.set_cons_succ]
    refine held_skip 10 (some 17) (by rfl) (by kernel_rfl) (by kernel_rfl) (by kernel_rfl) (fun _ _ _ h => h) (by assumption) ?_
    try simp only [Act.put, List.setIfInBounds_toArray, List.set_cons_zero, List.set_cons_succ]
    refine held_skip 11 (some 18) (by rfl) (by kernel_rfl) (by kernel_rfl) (by kernel_rfl) (fun _ _ _ h => h) (by assumption) ?_
    try simp only [Act.put, List.setIfInBounds_toArray, List.set_cons_zero, List.set_cons_succ]
    refine held_skip 12 (some 19) (by rfl) (by kernel_rfl) (by kernel_rfl) (by kernel_rfl) (fun _ _ _ h => h) (by assumption) ?_
    try simp only [Act.put, List.setIfInBounds_toArray, List.set_cons_zero, List.set_cons_succ]
    refine held_skip 13 (some 20) (by rfl) (by kernel_rfl) (by kernel_rfl) (by kernel_rfl) (fun _ _ _ h => h) (by assumption) ?_
    try simp only [Act.put, List.setIfInBounds_toArray, List.set_cons_zero, List.set_cons_succ]
    refine held_run 14 (some 21) (.pick (.tmp 16) (.const (Value.bool true)) (.tmp 20)) ?v3_28_41 (by rfl) (by kernel_rfl) (by kernel_rfl) (by kernel_rfl) (fun _ _ _ h => h) (fun o ho w hS => ?y3_28_41) (by assumption) ?r3_28_41
    case y3_28_41 => (try dsimp only at hS); unfold execOp; simp only [ho]; go_simp; try with_reducible rfl
    try simp only [Act.put, List.setIfInBounds_toArray, List.set_cons_zero, List.set_cons_succ]
    refine held_run 15 (some 22) (.move (.tmp 21)) ?v3_28_42 (by rfl) (by kernel_rfl) (by kernel_rfl) (by kernel_rfl) (fun _ _ _ h => h) (fun o ho w hS => ?y3_28_42) (by assumption) ?r3_28_42
    case y3_28_42 => (try dsimp only at hS); unfold execOp; simp only [ho]; go_simp; try with_reducible rfl
    try simp only [Act.put, List.setIfInBounds_toArray, List.set_cons_zero, List.set_cons_succ]
    refine held_skip 16 (some 23) (by rfl) (by kernel_rfl) (by kernel_rfl) (by kernel_rfl) (fun _ _ _ h => h) (by assumption) ?_
    try simp only [Act.put, List.setIfInBounds_toArray, List.set_cons_zero, List.set_cons_succ]
    refine held_skip 17 (some 24) (by rfl) (by kernel_rfl) (by kernel_rfl) (by kernel_rfl) (fun _ _ _ h => h) (by assumption) ?_
    try simp only [Act.put, List.setIfInBounds_toArray, List.set_cons_zero, List.set_cons_succ]
    refine held_skip 19 (some 26) (by rfl) (by kernel_rfl) (by kernel_rfl) (by kernel_rfl) (fun _ _ _ h => h) (by assumption) ?_
    try simp only [Act.put, List.setIfInBounds_toArray, List.set_cons_zero, List.set_cons_succ]
    refine held_skip 20 (some 27) (by rfl) (by kernel_rfl) (by kernel_rfl) (by kernel_rfl) (fun _ _ _ h => h) (by assumption) ?_
    try simp only [Act.put, List.setIfInBounds_toArray, List.set_cons_zero, List.set_cons_succ]
    refine held_skip 18 (some 25) (by rfl) (by kernel_rfl) (by kernel_rfl) (by kernel_rfl) (fun _ _ _ h => h) (by assumption) ?_
    try simp only [Act.put, List.setIfInBounds_toArray, List.set_cons_zero, List.set_cons_succ]
    refine held_skip 21 (some 28) (by rfl) (by kernel_rfl) (by kernel_rfl) (by kernel_rfl) (fun _ _ _ h => h) (by assumption) ?_
    try simp only [Act.put, List.setIfInBounds_toArray, List.set_cons_zero, List.set_cons_succ]
    refine held_skip 22 (some 29) (by rfl) (by kernel_rfl) (by kernel_rfl) (by kernel_rfl) (fun _ _ _ h => h) (by assumption) ?_
    try simp only [Act.put, List.setIfInBounds_toArray, List.set_cons_zero, List.set_cons_succ]
    refine held_run 23 (some 30) (.pick (.tmp 22) (.const (Value.bool true)) (.tmp 29)) ?v3_28_50 (by rfl) (by kernel_rfl) (by kernel_rfl) (by kernel_rfl) (fun _ _ _ h => h) (fun o ho w hS => ?y3_28_50) (by assumption) ?r3_28_50
    case y3_28_50 => (try dsimp only at hS); unfold execOp; simp only [ho]; go_simp; try with_reducible rfl
    try simp only [Act.put, List.setIfInBounds_toArray, List.set_cons_zero, List.set_cons_succ]
    refine held_run 24 (some 4) (.assign (.tmp 30)) ?v3_28_51 (by rfl) (by kernel_rfl) (by kernel_rfl) (by kernel_rfl) (fun _ _ _ h => h) (fun o ho w hS => ?y3_28_51) (by assumption) ?r3_28_51
    case y3_28_51 => (try dsimp only at hS); unfold execOp; simp only [ho]; go_simp; try with_reducible rfl
    try simp only [Act.put, List.setIfInBounds_toArray, List.set_cons_zero, List.set_cons_succ]
    refine wpAnyH_done (by kernel_rfl) ?_ _
    go_wp2_with fail
    go_ret
    exact ⟨rfl, HW2.out⟩
  have e1 : decide ((n1 : Int) > 80) = false := decide_eq_false (by omega)
  have e1' : decide ((80 : Int) < (n1 : Int)) = false := decide_eq_false (by omega)
  have e1'' : decide (80 < n1) = false := decide_eq_false hl1
  by_cases hl2 : 80 < n2
  · have f1 : decide ((n2 : Int) > 80) = true := decide_eq_true (by omega)
    have f2 : (80 : Int) < (n2 : Int) := by omega
    refine held_run 2 (some 9) (.binOp .neq 32 (.tmp 8) (.const (.int .i64 0)) 32) ?v3_52_53 (by rfl) (by kernel_rfl) (by kernel_rfl) (by kernel_rfl) (fun _ _ _ h => h) (fun o ho w hS => ?y3_52_53) (by assumption) ?r3_52_53
    case y3_52_53 => (try dsimp only at hS); unfold execOp; simp only [ho]; go_simp; try with_reducible rfl
    try simp only [Act.put, List.setIfInBounds_toArray, List.set_cons_zero, List.set_cons_succ]
    refine held_run 3 (some 10) (.move (.tmp 9)) ?v3_52_54 (by rfl) (by kernel_rfl) (by kernel_rfl) (by kernel_rfl) (fun _ _ _ h => h) (fun o ho w hS => ?y3_52_54) (by assumption) ?r3_52_54
    case y3_52_54 => (try dsimp only at hS); unfold execOp; simp only [ho]; go_simp; try with_reducible rfl
    try simp only [Act.put, List.setIfInBounds_toArray, List.set_cons_zero, List.set_cons_succ]
    refine held_run 4 (some 11) (.fieldAddr 30 (.tmp 3) 0) ?v3_52_55 (by rfl) (by kernel_rfl) (by kernel_rfl) (by kernel_rfl) (fun _ _ _ h => h) (fun o ho w hS => ?y3_52_55) (by assumption) ?r3_52_55
    case y3_52_55 => (try dsimp only at hS); unfold execOp; simp only [ho]; go_simp; try with_reducible rfl
    try simp only [Act.put, List.setIfInBounds_toArray, List.set_cons_zero, List.set_cons_succ]
    refine held_run 5 (some 12) (.load 25 (.tmp 11)) ?v3_52_56 (by rfl) (by kernel_rfl) (by kernel_rfl) (by kernel_rfl) (fun _ _ _ h => h) (fun o ho w hS => ?y3_52_56) (by assumption) ?r3_52_56
    case y3_52_56 => (try dsimp only at hS); unfold execOp; simp only [ho]; go_simp; try with_reducible rfl
    try simp only [Act.put, List.setIfInBounds_toArray, List.set_cons_zero, List.set_cons_succ]
    refine held_run 6 (some 13) (.call { callee := .builtin .len, args := #[(.tmp 12)], argTypes := #[25] }) ?v3_52_57 (by rfl) (by kernel_rfl) (by kernel_rfl) (by kernel_rfl) (fun _ _ _ h => h) (fun o ho w hS => ?y3_52_57) (by assumption) ?r3_52_57
    case y3_52_57 => (try dsimp only at hS); unfold execOp; simp only [ho]; go_simp; try with_reducible rfl
    try simp only [Act.put, List.setIfInBounds_toArray, List.set_cons_zero, List.set_cons_succ]
    refine held_run 7 (some 14) (.binOp .gtr 3 (.tmp 13) (.const (.int .i64 80)) 3) ?v3_52_58 (by rfl) (by kernel_rfl) (by kernel_rfl) (by kernel_rfl) (fun _ _ _ h => h) (fun o ho w hS => ?y3_52_58) (by assumption) ?r3_52_58
    case y3_52_58 => (try dsimp only at hS); unfold execOp; simp only [ho]; go_simp; try with_reducible rfl
    try simp only [Act.put, List.setIfInBounds_toArray, List.set_cons_zero, List.set_cons_succ]
    refine held_run 8 (some 15) (.pick (.tmp 10) (.const (Value.bool true)) (.tmp 14)) ?v3_52_59 (by rfl) (by kernel_rfl) (by kernel_rfl) (by kernel_rfl) (fun _ _ _ h => h) (fun o ho w hS => ?y3_52_59) (by assumption) ?r3_52_59
    case y3_52_59 => (try dsimp only at hS); unfold execOp; simp only [ho]; go_simp; try with_reducible rfl
    try simp only [Act.put, List.setIfInBounds_toArray, List.set_cons_zero, List.set_cons_succ]
    refine held_run 9 (some 16) (.move (.tmp 15)) ?v3_52_60 (by rfl) (by kernel_rfl) (by kernel_rfl) (by kernel_rfl) (fun _ _ _ h => h) (fun o ho w hS => ?y3_52_60) (by assumption) ?r3_52_60
    case y3_52_60 => (try dsimp only at hS); unfold execOp; simp only [ho]; go_simp; try with_reducible rfl
    try simp only [Act.put, List.setIfInBounds_toArray, List.set_cons_zero, List.set_cons_succ]
    refine held_run 10 (some 17) (.fieldAddr 30 (.tmp 3) 1) ?v3_52_61 (by rfl) (by kernel_rfl) (by kernel_rfl) (by kernel_rfl) (fun _ _ _ h => h) (fun o ho w hS => ?y3_52_61) (by assumption) ?r3_52_61
    case y3_52_61 => (try dsimp only at hS); unfold execOp; simp only [ho]; go_simp; try with_reducible rfl
    try simp only [Act.put, List.setIfInBounds_toArray, List.set_cons_zero, List.set_cons_succ]
    refine held_run 11 (some 18) (.load 28 (.tmp 17)) ?v3_52_62 (by rfl) (by kernel_rfl) (by kernel_rfl) (by kernel_rfl) (fun _ _ _ h => h) (fun o ho w hS => ?y3_52_62) (by assumption) ?r3_52_62
    case y3_52_62 => (try dsimp only at hS); unfold execOp; simp only [ho]; go_simp; try with_reducible rfl
    try simp only [Act.put, List.setIfInBounds_toArray, List.set_cons_zero, List.set_cons_succ]
    refine held_run 12 (some 19) (.call { callee := .builtin .len, args := #[(.tmp 18)], argTypes := #[28] }) ?v3_52_63 (by rfl) (by kernel_rfl) (by kernel_rfl) (by kernel_rfl) (fun _ _ _ h => h) (fun o ho w hS => ?y3_52_63) (by assumption) ?r3_52_63
    case y3_52_63 => (try dsimp only at hS); unfold execOp; simp only [ho]; go_simp; try with_reducible rfl
    try simp only [Act.put, List.setIfInBounds_toArray, List.set_cons_zero, List.set_cons_succ]
    refine held_run 13 (some 20) (.binOp .gtr 3 (.tmp 19) (.const (.int .i64 80)) 3) ?v3_52_64 (by rfl) (by kernel_rfl) (by kernel_rfl) (by kernel_rfl) (fun _ _ _ h => h) (fun o ho w hS => ?y3_52_64) (by assumption) ?r3_52_64
    case y3_52_64 => (try dsimp only at hS); unfold execOp; simp only [ho]; go_simp; try with_reducible rfl
    try simp only [Act.put, List.setIfInBounds_toArray, List.set_cons_zero, List.set_cons_succ]
    refine held_run 14 (some 21) (.pick (.tmp 16) (.const (Value.bool true)) (.tmp 20)) ?v3_52_65 (by rfl) (by kernel_rfl) (by kernel_rfl) (by kernel_rfl) (fun _ _ _ h => h) (fun o ho w hS => ?y3_52_65) (by assumption) ?r3_52_65
    case y3_52_65 => (try dsimp only at hS); unfold execOp; simp only [ho]; go_simp; try with_reducible rfl
    try simp only [Act.put, List.setIfInBounds_toArray, List.set_cons_zero, List.set_cons_succ]
    refine held_run 15 (some 22) (.move (.tmp 21)) ?v3_52_66 (by rfl) (by kernel_rfl) (by kernel_rfl) (by kernel_rfl) (fun _ _ _ h => h) (fun o ho w hS => ?y3_52_66) (by assumption) ?r3_52_66
    case y3_52_66 => (try dsimp only at hS); unfold execOp; simp only [ho]; go_simp; try with_reducible rfl
    try simp only [Act.put, List.setIfInBounds_toArray, List.set_cons_zero, List.set_cons_succ]
    refine held_skip 16 (some 23) (by rfl) (by kernel_rfl) (by kernel_rfl) (by kernel_rfl) (fun _ _ _ h => h) (by assumption) ?_
    try simp only [Act.put, List.setIfInBounds_toArray, List.set_cons_zero, List.set_cons_succ]
    refine held_skip 17 (some 24) (by rfl) (by kernel_rfl) (by kernel_rfl) (by kernel_rfl) (fun _ _ _ h => h) (by assumption) ?_
    try simp only [Act.put, List.setIfInBounds_toArray, List.set_cons_zero, List.set_cons_succ]
    refine held_skip 19 (some 26) (by rfl) (by kernel_rfl) (by kernel_rfl) (by kernel_rfl) (fun _ _ _ h => h) (by assumption) ?_
    try simp only [Act.put, List.setIfInBounds_toArray, List.set_cons_zero, List.set_cons_succ]
    refine held_skip 20 (some 27) (by rfl) (by kernel_rfl) (by kernel_rfl) (by kernel_rfl) (fun _ _ _ h => h) (by assumption) ?_
    try simp only [Act.put, List.setIfInBounds_toArray, List.set_cons_zero, List.set_cons_succ]
    refine held_skip 18 (some 25) (by rfl) (by kernel_rfl) (by kernel_rfl) (by kernel_rfl) (fun _ _ _ h => h) (by assumption) ?_
    try simp only [Act.put, List.setIfInBounds_toArray, List.set_cons_zero, List.set_cons_succ]
    refine held_skip 21 (some 28) (by rfl) (by kernel_rfl) (by kernel_rfl) (by kernel_rfl) (fun _ _ _ h => h) (by assumption) ?_
    try simp only [Act.put, List.setIfInBounds_toArray, List.set_cons_zero, List.set_cons_succ]
    refine held_skip 22 (some 29) (by rfl) (by kernel_rfl) (by kernel_rfl) (by kernel_rfl) (fun _ _ _ h => h) (by assumption) ?_
    try simp only [Act.put, List.setIfInBounds_toArray, List.set_cons_zero, List.set_cons_succ]
    refine held_run 23 (some 30) (.pick (.tmp 22) (.const (Value.bool true)) (.tmp 29)) ?v3_52_74 (by rfl) (by kernel_rfl) (by kernel_rfl) (by kernel_rfl) (fun _ _ _ h => h) (fun o ho w hS => ?y3_52_74) (by assumption) ?r3_52_74
    case y3_52_74 => (try dsimp only at hS); unfold execOp; simp only [ho]; go_simp; try with_reducible rfl
    try simp only [Act.put, List.setIfInBounds_toArray, List.set_cons_zero, List.set_cons_succ]
    refine held_run 24 (some 4) (.assign (.tmp 30)) ?v3_52_75 (by rfl) (by kernel_rfl) (by kernel_rfl) (by kernel_rfl) (fun _ _ _ h => h) (fun o ho w hS => ?y3_52_75) (by assumption) ?r3_52_75
    case y3_52_75 => (try dsimp only at hS); unfold execOp; simp only [ho]; go_simp; try with_reducible rfl
    try simp only [Act.put, List.setIfInBounds_toArray, List.set_cons_zero, List.set_cons_succ]
    refine wpAnyH_done (by kernel_rfl) ?_ _
    go_wp2_with fail
    go_ret
    exact ⟨rfl, HW2.out⟩
  have f1 : decide ((n2 : Int) > 80) = false := decide_eq_false (by omega)
  have f1' : decide ((80 : Int) < (n2 : Int)) = false := decide_eq_false (by omega)
  have f1'' : decide (80 < n2) = false := decide_eq_false hl2
  have g1 : (r == r) = true := beq_self_eq_true r
  refine held_run 2 (some 9) (.binOp .neq 32 (.tmp 8) (.const (.int .i64 0)) 32) ?v3_76_77 (by rfl) (by kernel_rfl) (by kernel_rfl) (by kernel_rfl) (fun _ _ _ h => h) (fun o ho w hS => ?y3_76_77) (by assumption) ?r3_76_77
  case y3_76_77 => (try dsimp only at hS); unfold execOp; simp only [ho]; go_simp; try with_reducible rfl
  try simp only [Act.put, List.setIfInBounds_toArray, List.set_cons_zero, List.set_cons_succ]
  refine held_run 3 (some 10) (.move (.tmp 9)) ?v3_76_78 (by rfl) (by kernel_rfl) (by kernel_rfl) (by kernel_rfl) (fun _ _ _ h => h) (fun o ho w hS => ?y3_76_78) (by assumption) ?r3_76_78
  case y3_76_78 => (try dsimp only at hS); unfold execOp; simp only [ho]; go_simp; try with_reducible rfl
  try simp only [Act.put, List.setIfInBounds_toArray, List.set_cons_zero, List.set_cons_succ]
  refine held_run 4 (some 11) (.fieldAddr 30 (.tmp 3) 0) ?v3_76_79 (by rfl) (by kernel_rfl) (by kernel_rfl) (by kernel_rfl) (fun _ _ _ h => h) (fun o ho w hS => ?y3_76_79) (by assumption) ?r3_76_79
  case y3_76_79 => (try dsimp only at hS); unfold execOp; simp only [ho]; go_simp; try with_reducible rfl
  try simp only [Act.put, List.setIfInBounds_toArray, List.set_cons_zero, List.set_cons_succ]
  refine held_run 5 (some 12) (.load 25 (.tmp 11)) ?v3_76_80 (by rfl) (by kernel_rfl) (by kernel_rfl) (by kernel_rfl) (fun _ _ _ h => h) (fun o ho w hS => ?y3_76_80) (by assumption) ?r3_76_80
  case y3_76_80 => (try dsimp only at hS); unfold execOp; simp only [ho]; go_simp; try with_reducible rfl
  try simp only [Act.put, List.setIfInBounds_toArray, List.set_cons_zero, List.set_cons_succ]
  refine held_run 6 (some 13) (.call { callee := .builtin .len, args := #[(.tmp 12)], argTypes := #[25] }) ?v3_76_81 (by rfl) (by kernel_rfl) (by kernel_rfl) (by kernel_rfl) (fun _ _ _ h => h) (fun o ho w hS => ?y3_76_81) (by assumption) ?r3_76_81
  case y3_76_81 => (try dsimp only at hS); unfold execOp; simp only [ho]; go_simp; try with_reducible rfl
  try simp only [Act.put, List.setIfInBounds_toArray, List.set_cons_zero, List.set_cons_succ]
  refine held_run 7 (some 14) (.binOp .gtr 3 (.tmp 13) (.const (.int .i64 80)) 3) ?v3_76_82 (by rfl) (by kernel_rfl) (by kernel_rfl) (by kernel_rfl) (fun _ _ _ h => h) (fun o ho w hS => ?y3_76_82) (by assumption) ?r3_76_82
  case y3_76_82 => (try dsimp only at hS); unfold execOp; simp only [ho]; go_simp; try with_reducible rfl
  try simp only [Act.put, List.setIfInBounds_toArray, List.set_cons_zero, List.set_cons_succ]
  refine held_run 8 (some 15) (.pick (.tmp 10) (.const (Value.bool true)) (.tmp 14)) ?v3_76_83 (by rfl) (by kernel_rfl) (by kernel_rfl) (by kernel_rfl) (fun _ _ _ h => h) (fun o ho w hS => ?y3_76_83) (by assumption) ?r3_76_83
  case y3_76_83 => (try dsimp only at hS); unfold execOp; simp only [ho]; go_simp; try with_reducible rfl
  try simp only [Act.put, List.setIfInBounds_toArray, List.set_cons_zero, List.set_cons_succ]
  refine held_run 9 (some 16) (.move (.tmp 15)) ?v3_76_84 (by rfl) (by kernel_rfl) (by kernel_rfl) (by kernel_rfl) (fun _ _ _ h => h) (fun o ho w hS => ?y3_76_84) (by assumption) ?r3_76_84
  case y3_76_84 => (try dsimp only at hS); unfold execOp; simp only [ho]; go_simp; try with_reducible rfl
  try simp only [Act.put, List.setIfInBounds_toArray, List.set_cons_zero, List.set_cons_succ]
  refine held_run 10 (some 17) (.fieldAddr 30 (.tmp 3) 1) ?v3_76_85 (by rfl) (by kernel_rfl) (by kernel_rfl) (by kernel_rfl) (fun _ _ _ h => h) (fun o ho w hS => ?y3_76_85) (by assumption) ?r3_76_85
  case y3_76_85 => (try dsimp only at hS); unfold execOp; simp only [ho]; go_simp; try with_reducible rfl
  try simp only [Act.put, List.setIfInBounds_toArray, List.set_cons_zero, List.set_cons_succ]
  refine held_run 11 (some 18) (.load 28 (.tmp 17)) ?v3_76_86 (by rfl) (by kernel_rfl) (by kernel_rfl) (by kernel_rfl) (fun _ _ _ h => h) (fun o ho w hS => ?y3_76_86) (by assumption) ?r3_76_86
  case y3_76_86 => (try dsimp only at hS); unfold execOp; simp only [ho]; go_simp; try with_reducible rfl
  try simp only [Act.put, List.setIfInBounds_toArray, List.set_cons_zero, List.set_cons_succ]
  refine held_run 12 (some 19) (.call { callee := .builtin .len, args := #[(.tmp 18)], argTypes := #[28] }) ?v3_76_87 (by rfl) (by kernel_rfl) (by kernel_rfl) (by kernel_rfl) (fun _ _ _ h => h) (fun o ho w hS => ?y3_76_87) (by assumption) ?r3_76_87
  case y3_76_87 => (try dsimp only at hS); unfold execOp; simp only [ho]; go_simp; try with_reducible rfl
  try simp only [Act.put, List.setIfInBounds_toArray, List.set_cons_zero, List.set_cons_succ]
  refine held_run 13 (some 20) (.binOp .gtr 3 (.tmp 19) (.const (.int .i64 80)) 3) ?v3_76_88 (by rfl) (by kernel_rfl) (by kernel_rfl) (by kernel_rfl) (fun _ _ _ h => h) (fun o ho w hS => ?y3_76_88) (by assumption) ?r3_76_88
  case y3_76_88 => (try dsimp only at hS); unfold execOp; simp only [ho]; go_simp; try with_reducible rfl
  try simp only [Act.put, List.setIfInBounds_toArray, List.set_cons_zero, List.set_cons_succ]
  refine held_run 14 (some 21) (.pick (.tmp 16) (.const (Value.bool true)) (.tmp 20)) ?v3_76_89 (by rfl) (by kernel_rfl) (by kernel_rfl) (by kernel_rfl) (fun _ _ _ h => h) (fun o ho w hS => ?y3_76_89) (by assumption) ?r3_76_89
  case y3_76_89 => (try dsimp only at hS); unfold execOp; simp only [ho]; go_simp; try with_reducible rfl
  try simp only [Act.put, List.setIfInBounds_toArray, List.set_cons_zero, List.set_cons_succ]
  refine held_run 15 (some 22) (.move (.tmp 21)) ?v3_76_90 (by rfl) (by kernel_rfl) (by kernel_rfl) (by kernel_rfl) (fun _ _ _ h => h) (fun o ho w hS => ?y3_76_90) (by assumption) ?r3_76_90
  case y3_76_90 => (try dsimp only at hS); unfold execOp; simp only [ho]; go_simp; try with_reducible rfl
  try simp only [Act.put, List.setIfInBounds_toArray, List.set_cons_zero, List.set_cons_succ]
  refine held_load 16 (some 23) 27 (.tmp 2) (by rfl) (by kernel_rfl) (by kernel_rfl) (by kernel_rfl) (w.heap.size) 27 #[vn, vl, vr, vb] (fun _ _ _ h => h) (by rfl) (fun _ h => h.2.1) _ Try.underlying27 rfl (by kernel_rfl) (by assumption) ?_
  try simp only [Act.put, List.setIfInBounds_toArray, List.set_cons_zero, List.set_cons_succ]
  refine held_load 17 (some 24) 30 (.tmp 3) (by rfl) (by kernel_rfl) (by kernel_rfl) (by kernel_rfl) (w.heap.size + 1) 30 #[.slice A1 n1 c1, .slice A2 n2 c2, .int .i64 bg] (fun _ _ _ h => h) (by rfl) (fun _ h => h.2.2.1) _ Try.underlying30 rfl (by kernel_rfl) (by assumption) ?_
  try simp only [Act.put, List.setIfInBounds_toArray, List.set_cons_zero, List.set_cons_succ]
  refine held_load 19 (some 26) 27 (.tmp 2) (by rfl) (by kernel_rfl) (by kernel_rfl) (by kernel_rfl) (w.heap.size) 27 #[vn, vl, vr, vb] (fun _ _ _ h => h) (by rfl) (fun _ h => h.2.1) _ Try.underlying27 rfl (by kernel_rfl) (by assumption) ?_
  try simp only [Act.put, List.setIfInBounds_toArray, List.set_cons_zero, List.set_cons_succ]
  refine held_load 20 (some 27) 30 (.tmp 3) (by rfl) (by kernel_rfl) (by kernel_rfl) (by kernel_rfl) (w.heap.size + 1) 30 #[.slice A1 n1 c1, .slice A2 n2 c2, .int .i64 bg] (fun _ _ _ h => h) (by rfl) (fun _ h => h.2.2.1) _ Try.underlying30 rfl (by kernel_rfl) (by assumption) ?_
  try simp only [Act.put, List.setIfInBounds_toArray, List.set_cons_zero, List.set_cons_succ]
  refine held_call 18 (some 25) 13 [(.tmp 23), (.tmp 24)] #[27, 30] #[.agg #[vn, vl, vr, vb], .agg #[.slice A1 n1 c1, .slice A2 n2 c2, .int .i64 bg]] (by rfl) (by rfl) (by kernel_rfl) Try.func13 (by rfl) (by rfl) ?_
  refine (HCp.out _ HM2.out HBv2.out HR12.out HR22.out).mono ?_
  rintro e w3 ⟨rfl, hb3⟩
  have HY3 := Lib.hid (HY2.out.trans (hb3.mono HY2.out.size))
  have HB3 := Lib.hid (HB2.out.trans (hb3.mono hsz2))
  have HW3 := Lib.hid (HW2.out.trans (hb3.mono HW2.out.size))
  have hsz3 : wb.heap.size ≤ w3.heap.size := Nat.le_trans hsz2 hb3.size
  have HX03 := Lib.hid (HX02.out.below hb3 (Nat.lt_of_lt_of_le hxx0 hsz2))
  have HX13 := Lib.hid (HX12.out.below hb3 (Nat.lt_of_lt_of_le hxx1 hsz2))
  have HNd3 := Lib.hid (HNd2.out.now hb3)
  have HLf3 := Lib.hid (HLf2.out.now hb3)
  have HM3 := Lib.hid (HM2.out.now hb3)
  have HBv3 := Lib.hid (HBv2.out.now hb3)
  have HR13 := Lib.hid (HR12.out.now hb3)
  have HR23 := Lib.hid (HR22.out.now hb3)
  clear h0
  have h0 := HS.out _ HY3.out
  refine ⟨_, rfl, h0, ?_⟩
  clear hb3
  try simp only [Act.put, List.setIfInBounds_toArray, List.set_cons_zero, List.set_cons_succ]
  refine held_call 21 (some 28) 14 [(.tmp 26), (.tmp 27)] #[27, 30] #[.agg #[vn, vl, vr, vb], .agg #[.slice A1 n1 c1, .slice A2 n2 c2, .int .i64 bg]] (by rfl) (by rfl) (by kernel_rfl) Try.func14 (by rfl) (by rfl) ?_
  refine (HCr.out _ HM3.out HBv3.out HR13.out HR23.out).mono ?_
  rintro e w4 ⟨rfl, hb4⟩
  have HY4 := Lib.hid (HY3.out.trans (hb4.mono HY3.out.size))
  have HB4 := Lib.hid (HB3.out.trans (hb4.mono hsz3))
  have HW4 := Lib.hid (HW3.out.trans (hb4.mono HW3.out.size))
  have hsz4 : wb.heap.size ≤ w4.heap.size := Nat.le_trans hsz3 hb4.size
  have HX04 := Lib.hid (HX03.out.below hb4 (Nat.lt_of_lt_of_le hxx0 hsz3))
  have HX14 := Lib.hid (HX13.out.below hb4 (Nat.lt_of_lt_of_le hxx1 hsz3))
  have HNd4 := Lib.hid (HNd3.out.now hb4)
  have HLf4 := Lib.hid (HLf3.out.now hb4)
  have HM4 := Lib.hid (HM3.out.now hb4)
  have HBv4 := Lib.hid (HBv3.out.now hb4)
  have HR14 := Lib.hid (HR13.out.now hb4)
  have HR24 := Lib.hid (HR23.out.now hb4)
  clear h0
  have h0 := HS.out _ HY4.out
  refine ⟨_, rfl, h0, ?_⟩
  clear hb4
  try simp only [Act.put, List.setIfInBounds_toArray, List.set_cons_zero, List.set_cons_succ]
  refine held_run 22 (some 29) (.binOp .eql 32 (.tmp 25) (.tmp 28) 32) ?v3_76_97 (by rfl) (by kernel_rfl) (by kernel_rfl) (by kernel_rfl) (fun _ _ _ h => h) (fun o ho w hS => ?y3_76_97) (by assumption) ?r3_76_97
  case y3_76_97 => (try dsimp only at hS); unfold execOp; simp only [ho]; go_simp; try with_reducible rfl
  try simp only [Act.put, List.setIfInBounds_toArray, List.set_cons_zero, List.set_cons_succ]
  refine held_run 23 (some 30) (.pick (.tmp 22) (.const (Value.bool true)) (.tmp 29)) ?v3_76_98 (by rfl) (by kernel_rfl) (by kernel_rfl) (by kernel_rfl) (fun _ _ _ h => h) (fun o ho w hS => ?y3_76_98) (by assumption) ?r3_76_98
  case y3_76_98 => (try dsimp only at hS); unfold execOp; simp only [ho]; go_simp; try with_reducible rfl
  try simp only [Act.put, List.setIfInBounds_toArray, List.set_cons_zero, List.set_cons_succ]
  refine held_run 24 (some 4) (.assign (.tmp 30)) ?v3_76_99 (by rfl) (by kernel_rfl) (by kernel_rfl) (by kernel_rfl) (fun _ _ _ h => h) (fun o ho w hS => ?y3_76_99) (by assumption) ?r3_76_99
  case y3_76_99 => (try dsimp only at hS); unfold execOp; simp only [ho]; go_simp; try with_reducible rfl
  try simp only [Act.put, List.setIfInBounds_toArray, List.set_cons_zero, List.set_cons_succ]
  refine wpAnyH_done (by kernel_rfl) ?_ _
  go_wp2_with fail
  go_ret
  exact ⟨rfl, HW4.out⟩


theorem own_sweepChecks : ownKnob Try.prog.godebug = none := by kernel_rfl
theorem laidOut_sweepChecks : laidOutB Try.prog = true := by kernel_rfl
set_option maxRecDepth 100000 in
theorem sweepChecks_lifted (os : Os) (started : os.Started) (H : Type) (enc : TypeId × Value → H) :
    ReturnsInHanded {} Try.checked os 3 .any (Rows.sweepChecksSpec.pre6 enc Try.prog Try.f3 Rows.sweepChecksRow.domain false) (Rows.sweepChecksSpec.post enc Try.prog Try.f3 false true false false) := by
  refine returnsInHanded_of_change (C := Try.checked) own_sweepChecks started (by kernel_rfl) Try.func3
    (ChangeSpec.witness6 (enc := enc) (C := Try.checked) false ⟨#[], #[.agg #[.slice none 0 0, .slice none 0 0, .slice none 0 0, .slice none 0 0], .agg #[.slice none 0 0, .slice none 0 0, .int .i64 0]], []⟩ 8 (by kernel_rfl) (by kernel_rfl) (by kernel_rfl) (by kernel_rfl)) ?_
  intro W base args ds gs before hval0 hW hcnd _
  have hval : ∀ (j : Nat) t v, Try.f3.params[j]? = some t → args[j]? = some v → Value.okWide Try.prog W .any base t v := hval0
  have hW' := hW
  obtain ⟨p, q, hA0, hV, rfl, hfz, hnd⟩ := hW
  have hA : DataW.TrodAll enc Try.prog W 0 (fun _ => true) true Try.f3.params.toList args.toList ds p := hA0
  rw [Try.params3] at hA hval
  obtain ⟨v0, vs0, d0, ds0, p0, q0, hargs, rfl, rfl, h0, r0⟩ := trodAll_cons hA
  obtain ⟨v1, vs1, d1, ds1, p1, q1, rfl, rfl, rfl, h1, r1⟩ := trodAll_cons r0
  obtain ⟨rfl, rfl, rfl⟩ := trodAll_nil r1
  obtain rfl : args = #[v0, v1] := by cases args; simp_all
  obtain ⟨rfl, rfl⟩ := trodVars_none hV
  obtain ⟨vn, vl, vr, vb, nd, lf, rs, bs, rfl, hnd, hlf, hrs, hbs⟩ := open_map (hval 0 27 v0 rfl rfl) h0
  obtain ⟨s1, s2, bg, runs, sw, rfl, hru, hsw⟩ := open_sweep (hval 1 30 v1 rfl rfl) h1
  refine (sweepChecks_any W vn vl vr vb nd lf rs bs hnd hlf hrs hbs s1 s2 bg runs sw hru hsw).mono fun e W' ⟨he, hb⟩ => ?_
  subst he
  exact ⟨_, rfl, law_post laidOut_sweepChecks (by kernel_rfl) rfl rfl Try.underlying4 hW' rfl hb⟩

theorem sweepChecks_holds : Rows.SweepChecksSaid :=
  OpenClaim.holds_of_wide 3 Try.f3 rfl rfl rfl rfl rfl rfl rfl ⟨rfl, rfl, rfl, rfl, rfl⟩ rfl rfl rfl rfl rfl (by kernel_rfl) Try.func3 (by kernel_rfl)
    (of_decide_eq_true (by kernel_rfl)) (by unfold Func.isWrapper; rw [if_neg (by decide +kernel)]; exact ⟨rfl, rfl⟩)
    (fun os started H enc _ => sweepChecks_lifted os started H enc)
#print axioms sweepChecks_holds
end Go.Proofs.Yticoeibccdplaaa
