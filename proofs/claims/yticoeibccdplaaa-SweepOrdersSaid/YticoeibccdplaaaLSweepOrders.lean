/-
  SweepOrders answers true for every input. Its conditions: none. (One heavy walk.)
-/
import Derived.Test.YticoeibccdplaaaRows
import Derived.Test.YticoeibccdplaaaRowS
import Derived.Test.YticoeibccdplaaaSwpR
import Derived.Test.YticoeibccdplaaaSwpX
import Derived.Test.YticoeibccdplaaaSwpZ
namespace Go.Proofs.Yticoeibccdplaaa
open Go.ChangeShapes Go.WideShapes Go.ChangeAt Go.RowKit

set_option maxRecDepth 100000 in
set_option maxHeartbeats 40000000 in
theorem sweepOrders_any (w : World) (vn vl vr vb : Value) (nd : List Nd) (lf : List Lf) (rs : List Rn) (bs : List Int) (hnd : StrV Nd.cells 2 w w.heap.size vn nd) (hlf : StrV Lf.cells 8 w w.heap.size vl lf) (hrs : StrV Rn.cells 7 w w.heap.size vr rs) (hbs : RowV w w.heap.size vb bs) (v1 v2 : Value) (bg : Int) (runs : List Int) (sw : List Sw) (hru : RowV w w.heap.size v1 runs) (hsw : StrV Sw.cells 4 w w.heap.size v2 sw) :
    Calls Try.prog 4 #[.agg #[vn, vl, vr, vb], .agg #[v1, v2, .int .i64 bg]] w fun e w' => e = .returned (.bool true) ∧ Below w.heap.size w w' := by
  have HNd := Lib.hid hnd
  have HLf := Lib.hid hlf
  have HM := Lib.hid hrs
  have HBv := Lib.hid hbs
  have HR1 := Lib.hid hru
  have HR2 := Lib.hid hsw
  clear hnd hlf hrs hbs hru hsw
  go_enter Try.func4, Try.ntmps4
  go_wp2_with fail
  have HBwz0 := (Blk.new w 27 #[vn, vl, vr, vb])
  have HLwz0 := (below_new w (.cells #[vn, vl, vr, vb] 27))
  have hswz0 : (w.alloc (.cells #[vn, vl, vr, vb] 27)).heap.size = w.heap.size + 1 := by simp
  generalize w.alloc (.cells #[vn, vl, vr, vb] 27) = wz0 at HBwz0 HLwz0 hswz0 ⊢
  replace HBwz0 := Lib.hid HBwz0
  replace HLwz0 := Lib.hid HLwz0
  have hlwz0 : w.heap.size < wz0.heap.size := by omega
  replace hswz0 := Lib.hid hswz0
  have HBwb := (Blk.new wz0 30 #[v1, v2, .int .i64 bg])
  have HLwb := (below_new wz0 (.cells #[v1, v2, .int .i64 bg] 30))
  have hswb : (wz0.alloc (.cells #[v1, v2, .int .i64 bg] 30)).heap.size = wz0.heap.size + 1 := by simp
  generalize wz0.alloc (.cells #[v1, v2, .int .i64 bg] 30) = wb at HBwb HLwb hswb ⊢
  replace HBwb := Lib.hid HBwb
  replace HLwb := Lib.hid HLwb
  have hlwb : wz0.heap.size < wb.heap.size := by omega
  replace hswb := Lib.hid hswb
  have HQ1 := Lib.hid (HLwz0.out.trans (HLwb.out.mono HLwz0.out.size))
  have HWb := Lib.hid (HQ1.out)
  have hl0 : w.heap.size ≤ wb.heap.size := HWb.out.size
  have HBb : Hid (Below wb.heap.size wb wb) := hide (Below.refl _ _)
  have hszb : wb.heap.size ≤ wb.heap.size := Nat.le_refl _
  have HZ0_1 := Lib.hid (HBwz0.out.below HLwb.out hlwz0)
  have hz0_1 : w.heap.size < wb.heap.size := HZ0_1.out.lt
  have HX0b : Hid (Blk wb w.heap.size 27 #[vn, vl, vr, vb]) := hide HZ0_1.out
  have hxx0 : w.heap.size < wb.heap.size := HX0b.out.lt
  have HX1b : Hid (Blk wb (w.heap.size + 1) 30 #[v1, v2, .int .i64 bg]) := hide (by have h := HBwb.out; rw [show wz0.heap.size = w.heap.size + 1 from by have := hswz0.out; omega] at h; exact h)
  have hxx1 : (w.heap.size + 1) < wb.heap.size := HX1b.out.lt
  clear HBwz0 HLwz0 hswz0 hlwz0
  clear HBwb HLwb hswb hlwb
  have HNdb := Lib.hid (HNd.out.now HWb.out)
  have HLfb := Lib.hid (HLf.out.now HWb.out)
  have HMb := Lib.hid (HM.out.now HWb.out)
  have HBvb := Lib.hid (HBv.out.now HWb.out)
  have HR1b := Lib.hid (HR1.out.now HWb.out)
  have HR2b := Lib.hid (HR2.out.now HWb.out)
  with_reducible refine (alive_any _).mono ?_
  rintro e w1 ⟨rfl, hb1⟩
  have HB1 := Lib.hid (HBb.out.trans (hb1.mono hszb))
  have HW1 := Lib.hid (HWb.out.trans (hb1.mono HWb.out.size))
  have hsz1 : wb.heap.size ≤ w1.heap.size := Nat.le_trans hszb hb1.size
  have HX01 := Lib.hid (HX0b.out.below hb1 (Nat.lt_of_lt_of_le hxx0 hszb))
  have HX11 := Lib.hid (HX1b.out.below hb1 (Nat.lt_of_lt_of_le hxx1 hszb))
  have HNd1 := Lib.hid (HNdb.out.now hb1)
  have HLf1 := Lib.hid (HLfb.out.now hb1)
  have HM1 := Lib.hid (HMb.out.now hb1)
  have HBv1 := Lib.hid (HBvb.out.now hb1)
  have HR11 := Lib.hid (HR1b.out.now hb1)
  have HR21 := Lib.hid (HR2b.out.now hb1)
  clear hb1
  go_wp2_with fail
  have HS : Hid (∀ W, Below w1.heap.size w1 W → (fun W => Below w1.heap.size w1 W ∧ Blk W w.heap.size 27 #[vn, vl, vr, vb] ∧ Blk W (w.heap.size + 1) 30 #[v1, v2, .int .i64 bg]) W) := fun W hB => ⟨hB, HX01.out.below hB (Nat.lt_of_lt_of_le hxx0 hsz1), HX11.out.below hB (Nat.lt_of_lt_of_le hxx1 hsz1)⟩
  have h0 := HS.out _ ((Below.refl w1.heap.size w1).drew)
  have HNdd : Hid (StrV Nd.cells 2 w1.drew w1.drew.heap.size vn nd) := hide HNd1.out
  have HLfd : Hid (StrV Lf.cells 8 w1.drew w1.drew.heap.size vl lf) := hide HLf1.out
  have HMd : Hid (StrV Rn.cells 7 w1.drew w1.drew.heap.size vr rs) := hide HM1.out
  have HBvd : Hid (RowV w1.drew w1.drew.heap.size vb bs) := hide HBv1.out
  have HR1d : Hid (RowV w1.drew w1.drew.heap.size v1 runs) := hide HR11.out
  have HR2d : Hid (StrV Sw.cells 4 w1.drew w1.drew.heap.size v2 sw) := hide HR21.out
  refine wp_region_held_drew (S := fun W => Below w1.heap.size w1 W ∧ Blk W w.heap.size 27 #[vn, vl, vr, vb] ∧ Blk W (w.heap.size + 1) 30 #[v1, v2, .int .i64 bg]) (by kernel_rfl) (h0) (fun hHeld => ?_)
  refine held_load 0 (some 7) 27 (.tmp 2) (by rfl) (by kernel_rfl) (by kernel_rfl) (by kernel_rfl) (w.heap.size) 27 #[vn, vl, vr, vb] (fun _ _ _ h => h) (by rfl) (fun _ h => h.2.1) _ Try.underlying27 rfl (by kernel_rfl) (by assumption) ?_
  try simp only [Act.put, List.setIfInBounds_toArray, List.set_cons_zero, List.set_cons_succ]
  refine held_load 1 (some 8) 30 (.tmp 3) (by rfl) (by kernel_rfl) (by kernel_rfl) (by kernel_rfl) (w.heap.size + 1) 30 #[v1, v2, .int .i64 bg] (fun _ _ _ h => h) (by rfl) (fun _ h => h.2.2) _ Try.underlying30 rfl (by kernel_rfl) (by assumption) ?_
  try simp only [Act.put, List.setIfInBounds_toArray, List.set_cons_zero, List.set_cons_succ]
  refine held_call 2 (some 9) 15 [(.tmp 7), (.tmp 8)] #[27, 30] #[.agg #[vn, vl, vr, vb], .agg #[v1, v2, .int .i64 bg]] (by rfl) (by rfl) (by kernel_rfl) Try.func15 (by rfl) (by rfl) ?_
  refine (defined_any vn vl vr vb v1 v2 bg nd lf rs bs runs sw _ HNdd.out HLfd.out HMd.out HBvd.out HR1d.out HR2d.out).mono ?_
  rintro e w2 ⟨db, rfl, hdb, hb2⟩
  have hbb2 : Below w1.heap.size w1 w2 := (Below.refl w1.heap.size w1).drew.trans hb2
  have HB2 := Lib.hid (HB1.out.trans (hbb2.mono hsz1))
  have HW2 := Lib.hid (HW1.out.trans (hbb2.mono HW1.out.size))
  have hsz2 : wb.heap.size ≤ w2.heap.size := Nat.le_trans hsz1 hbb2.size
  have HX02 := Lib.hid (HX01.out.below hbb2 (Nat.lt_of_lt_of_le hxx0 hsz1))
  have HX12 := Lib.hid (HX11.out.below hbb2 (Nat.lt_of_lt_of_le hxx1 hsz1))
  have HNd2 := Lib.hid (HNd1.out.now hbb2)
  have HLf2 := Lib.hid (HLf1.out.now hbb2)
  have HM2 := Lib.hid (HM1.out.now hbb2)
  have HBv2 := Lib.hid (HBv1.out.now hbb2)
  have HR12 := Lib.hid (HR11.out.now hbb2)
  have HR22 := Lib.hid (HR21.out.now hbb2)
  clear h0
  have h0 := HS.out _ hbb2
  have HY2 := Lib.hid hbb2
  refine ⟨_, rfl, h0, ?_⟩
  clear hb2 hbb2
  try simp only [Act.put, List.setIfInBounds_toArray, List.set_cons_zero, List.set_cons_succ]
  cases db with
  | false =>
    refine held_run 3 (some 10) (.unOp .not 4 (.tmp 9)) ?v3_5_6 (by rfl) (by kernel_rfl) (by kernel_rfl) (by kernel_rfl) (fun _ _ _ h => h) (fun o ho w hS => ?y3_5_6) (by assumption) ?r3_5_6
    case y3_5_6 => (try dsimp only at hS); unfold execOp; simp only [ho]; go_simp; try with_reducible rfl
    try simp only [Act.put, List.setIfInBounds_toArray, List.set_cons_zero, List.set_cons_succ]
    refine held_run 4 (some 11) (.move (.tmp 10)) ?v3_5_7 (by rfl) (by kernel_rfl) (by kernel_rfl) (by kernel_rfl) (fun _ _ _ h => h) (fun o ho w hS => ?y3_5_7) (by assumption) ?r3_5_7
    case y3_5_7 => (try dsimp only at hS); unfold execOp; simp only [ho]; go_simp; try with_reducible rfl
    try simp only [Act.put, List.setIfInBounds_toArray, List.set_cons_zero, List.set_cons_succ]
    refine held_skip 5 (some 12) (by rfl) (by kernel_rfl) (by kernel_rfl) (by kernel_rfl) (fun _ _ _ h => h) (by assumption) ?_
    try simp only [Act.put, List.setIfInBounds_toArray, List.set_cons_zero, List.set_cons_succ]
    refine held_skip 6 (some 13) (by rfl) (by kernel_rfl) (by kernel_rfl) (by kernel_rfl) (fun _ _ _ h => h) (by assumption) ?_
    try simp only [Act.put, List.setIfInBounds_toArray, List.set_cons_zero, List.set_cons_succ]
    refine held_skip 7 (some 14) (by rfl) (by kernel_rfl) (by kernel_rfl) (by kernel_rfl) (fun _ _ _ h => h) (by assumption) ?_
    try simp only [Act.put, List.setIfInBounds_toArray, List.set_cons_zero, List.set_cons_succ]
    refine held_skip 8 (some 15) (by rfl) (by kernel_rfl) (by kernel_rfl) (by kernel_rfl) (fun _ _ _ h => h) (by assumption) ?_
    try simp only [Act.put, List.setIfInBounds_toArray, List.set_cons_zero, List.set_cons_succ]
    refine held_skip 9 (some 16) (by rfl) (by kernel_rfl) (by kernel_rfl) (by kernel_rfl) (fun _ _ _ h => h) (by assumption) ?_
    try simp only [Act.put, List.setIfInBounds_toArray, List.set_cons_zero, List.set_cons_succ]
    refine held_skip 10 (some 17) (by rfl) (by kernel_rfl) (by kernel_rfl) (by kernel_rfl) (fun _ _ _ h => h) (by assumption) ?_
    try simp only [Act.put, List.setIfInBounds_toArray, List.set_cons_zero, List.set_cons_succ]
    refine held_skip 11 (some 18) (by rfl) (by kernel_rfl) (by kernel_rfl) (by kernel_rfl) (fun _ _ _ h => h) (by assumption) ?_
    try simp only [Act.put, List.setIfInBounds_toArray, List.set_cons_zero, List.set_cons_succ]
    refine held_skip 12 (some 19) (by rfl) (by kernel_rfl) (by kernel_rfl) (by kernel_rfl) (fun _ _ _ h => h) (by assumption) ?_
    try simp only [Act.put, List.setIfInBounds_toArray, List.set_cons_zero, List.set_cons_succ]
    refine held_skip 13 (some 20) (by rfl) (by kernel_rfl) (by kernel_rfl) (by kernel_rfl) (fun _ _ _ h => h) (by assumption) ?_
    try simp only [Act.put, List.setIfInBounds_toArray, List.set_cons_zero, List.set_cons_succ]
    refine held_skip 14 (some 21) (by rfl) (by kernel_rfl) (by kernel_rfl) (by kernel_rfl) (fun _ _ _ h => h) (by assumption) ?_
    try simp only [Act.put, List.setIfInBounds_toArray, List.set_cons_zero, List.set_cons_succ]
    refine held_skip 15 (some 22) (by rfl) (by kernel_rfl) (by kernel_rfl) (by kernel_rfl) (fun _ _ _ h => h) (by assumption) ?_
    try simp only [Act.put, List.setIfInBounds_toArray, List.set_cons_zero, List.set_cons_succ]
    refine held_skip 16 (some 23) (by rfl) (by kernel_rfl) (by kernel_rfl) (by kernel_rfl) (fun _ _ _ h => h) (by assumption) ?_
    try simp only [Act.put, List.setIfInBounds_toArray, List.set_cons_zero, List.set_cons_succ]
    refine held_skip 17 (some 24) (by rfl) (by kernel_rfl) (by kernel_rfl) (by kernel_rfl) (fun _ _ _ h => h) (by assumption) ?_
    try simp only [Act.put, List.setIfInBounds_toArray, List.set_cons_zero, List.set_cons_succ]
    refine held_skip 18 (some 25) (by rfl) (by kernel_rfl) (by kernel_rfl) (by kernel_rfl) (fun _ _ _ h => h) (by assumption) ?_
    try simp only [Act.put, List.setIfInBounds_toArray, List.set_cons_zero, List.set_cons_succ]
    refine held_skip 19 (some 26) (by rfl) (by kernel_rfl) (by kernel_rfl) (by kernel_rfl) (fun _ _ _ h => h) (by assumption) ?_
    try simp only [Act.put, List.setIfInBounds_toArray, List.set_cons_zero, List.set_cons_succ]
    refine held_skip 20 (some 27) (by rfl) (by kernel_rfl) (by kernel_rfl) (by kernel_rfl) (fun _ _ _ h => h) (by assumption) ?_
    try simp only [Act.put, List.setIfInBounds_toArray, List.set_cons_zero, List.set_cons_succ]
    refine held_run 21 (some 28) (.pick (.tmp 11) (.const (Value.bool true)) (.tmp 27)) ?v3_5_24 (by rfl) (by kernel_rfl) (by kernel_rfl) (by kernel_rfl) (fun _ _ _ h => h) (fun o ho w hS => ?y3_5_24) (by assumption) ?r3_5_24
    case y3_5_24 => (try dsimp only at hS); unfold execOp; simp only [ho]; go_simp; try with_reducible rfl
    try simp only [Act.put, List.setIfInBounds_toArray, List.set_cons_zero, List.set_cons_succ]
    refine held_run 22 (some 4) (.assign (.tmp 28)) ?v3_5_25 (by rfl) (by kernel_rfl) (by kernel_rfl) (by kernel_rfl) (fun _ _ _ h => h) (fun o ho w hS => ?y3_5_25) (by assumption) ?r3_5_25
    case y3_5_25 => (try dsimp only at hS); unfold execOp; simp only [ho]; go_simp; try with_reducible rfl
    try simp only [Act.put, List.setIfInBounds_toArray, List.set_cons_zero, List.set_cons_succ]
    refine wpAnyH_done (by kernel_rfl) ?_ _
    go_wp2_with fail
    go_ret
    exact ⟨rfl, HW2.out⟩
  | true =>
    obtain ⟨hlen, hall, _, _, hlen2, _⟩ := right_says (hdb rfl)
    have hlim : runs.length ≤ 1000 := by omega
    have hlim2 : sw.length ≤ 1000 := by omega
    clear hdb
    obtain ⟨O, hO⟩ : ∃ x, ordN (befP rs) runs = x := ⟨_, rfl⟩
    obtain ⟨R, hR⟩ : ∃ x, readyL (befP rs) runs (sw.map Sw.run) = x := ⟨_, rfl⟩
    have HC7 : Hid (∀ W : World, StrV Rn.cells 7 W W.heap.size vr rs → RowV W W.heap.size v1 runs → StrV Sw.cells 4 W W.heap.size v2 sw → Calls Try.prog 17 #[.agg #[vn, vl, vr, vb], .agg #[v1, v2, .int .i64 bg]] W fun e w' => ∃ v, e = .returned v ∧ RowV w' w'.heap.size v O ∧ Below W.heap.size W w') := fun W a1 a2 a3 => by
      refine (order_any vn vl vr vb v1 v2 bg rs runs sw W a1 a2 hlim).mono ?_
      rintro e w' ⟨v, rfl, ho, hb⟩
      rw [hO] at ho
      exact ⟨v, rfl, ho.rowV, hb⟩
    have HC10 : Hid (∀ W : World, StrV Rn.cells 7 W W.heap.size vr rs → RowV W W.heap.size v1 runs → StrV Sw.cells 4 W W.heap.size v2 sw → Calls Try.prog 18 #[.agg #[vn, vl, vr, vb], .agg #[v1, v2, .int .i64 bg]] W fun e w' => ∃ v, e = .returned v ∧ RowV w' w'.heap.size v O ∧ Below W.heap.size W w') := fun W a1 a2 a3 => by
      refine (rorder_any vn vl vr vb v1 v2 bg rs runs W a1 a2 hlim).mono ?_
      rintro e w' ⟨v, rfl, ho, hb⟩
      rw [ord_eq hall, hO] at ho
      exact ⟨v, rfl, ho.rowV, hb⟩
    have HC15 : Hid (∀ W : World, StrV Rn.cells 7 W W.heap.size vr rs → RowV W W.heap.size v1 runs → StrV Sw.cells 4 W W.heap.size v2 sw → Calls Try.prog 19 #[.agg #[vn, vl, vr, vb], .agg #[v1, v2, .int .i64 bg]] W fun e w' => ∃ v, e = .returned v ∧ RowV w' w'.heap.size v R ∧ Below W.heap.size W w') := fun W a1 a2 a3 => by
      refine (next_any vn vl vr vb v1 v2 bg rs runs sw W a1 a2 a3 hlim hlim2).mono ?_
      rintro e w' ⟨v, rfl, ho, hb⟩
      rw [hR] at ho
      exact ⟨v, rfl, ho.rowV, hb⟩
    have HC18 : Hid (∀ W : World, StrV Rn.cells 7 W W.heap.size vr rs → RowV W W.heap.size v1 runs → StrV Sw.cells 4 W W.heap.size v2 sw → Calls Try.prog 20 #[.agg #[vn, vl, vr, vb], .agg #[v1, v2, .int .i64 bg]] W fun e w' => ∃ v, e = .returned v ∧ RowV w' w'.heap.size v R ∧ Below W.heap.size W w') := fun W a1 a2 a3 => by
      refine (rnextF_any vn vl vr vb v1 v2 bg rs runs sw W a1 a2 a3 hlim).mono ?_
      rintro e w' ⟨v, rfl, ho, hb⟩
      rw [ready_eq hall, hR] at ho
      exact ⟨v, rfl, ho.rowV, hb⟩
    clear hO hR hall
    refine held_run 3 (some 10) (.unOp .not 4 (.tmp 9)) ?v3_26_27 (by rfl) (by kernel_rfl) (by kernel_rfl) (by kernel_rfl) (fun _ _ _ h => h) (fun o ho w hS => ?y3_26_27) (by assumption) ?r3_26_27
    case y3_26_27 => (try dsimp only at hS); unfold execOp; simp only [ho]; go_simp; try with_reducible rfl
    try simp only [Act.put, List.setIfInBounds_toArray, List.set_cons_zero, List.set_cons_succ]
    refine held_run 4 (some 11) (.move (.tmp 10)) ?v3_26_28 (by rfl) (by kernel_rfl) (by kernel_rfl) (by kernel_rfl) (fun _ _ _ h => h) (fun o ho w hS => ?y3_26_28) (by assumption) ?r3_26_28
    case y3_26_28 => (try dsimp only at hS); unfold execOp; simp only [ho]; go_simp; try with_reducible rfl
    try simp only [Act.put, List.setIfInBounds_toArray, List.set_cons_zero, List.set_cons_succ]
    refine held_load 5 (some 12) 27 (.tmp 2) (by rfl) (by kernel_rfl) (by kernel_rfl) (by kernel_rfl) (w.heap.size) 27 #[vn, vl, vr, vb] (fun _ _ _ h => h) (by rfl) (fun _ h => h.2.1) _ Try.underlying27 rfl (by kernel_rfl) (by assumption) ?_
    try simp only [Act.put, List.setIfInBounds_toArray, List.set_cons_zero, List.set_cons_succ]
    refine held_load 6 (some 13) 30 (.tmp 3) (by rfl) (by kernel_rfl) (by kernel_rfl) (by kernel_rfl) (w.heap.size + 1) 30 #[v1, v2, .int .i64 bg] (fun _ _ _ h => h) (by rfl) (fun _ h => h.2.2) _ Try.underlying30 rfl (by kernel_rfl) (by assumption) ?_
    try simp only [Act.put, List.setIfInBounds_toArray, List.set_cons_zero, List.set_cons_succ]
    refine held_load 8 (some 15) 27 (.tmp 2) (by rfl) (by kernel_rfl) (by kernel_rfl) (by kernel_rfl) (w.heap.size) 27 #[vn, vl, vr, vb] (fun _ _ _ h => h) (by rfl) (fun _ h => h.2.1) _ Try.underlying27 rfl (by kernel_rfl) (by assumption) ?_
    try simp only [Act.put, List.setIfInBounds_toArray, List.set_cons_zero, List.set_cons_succ]
    refine held_load 9 (some 16) 30 (.tmp 3) (by rfl) (by kernel_rfl) (by kernel_rfl) (by kernel_rfl) (w.heap.size + 1) 30 #[v1, v2, .int .i64 bg] (fun _ _ _ h => h) (by rfl) (fun _ h => h.2.2) _ Try.underlying30 rfl (by kernel_rfl) (by assumption) ?_
    try simp only [Act.put, List.setIfInBounds_toArray, List.set_cons_zero, List.set_cons_succ]
    refine held_call 7 (some 14) 17 [(.tmp 12), (.tmp 13)] #[27, 30] #[.agg #[vn, vl, vr, vb], .agg #[v1, v2, .int .i64 bg]] (by rfl) (by rfl) (by kernel_rfl) Try.func17 (by rfl) (by rfl) ?_
    refine (HC7.out _ HM2.out HR12.out HR22.out).mono ?_
    rintro e w3 ⟨oa, rfl, hv, hb3⟩
    have HVoa3 := Lib.hid hv
    have HY3 := Lib.hid (HY2.out.trans (hb3.mono HY2.out.size))
    have HB3 := Lib.hid (HB2.out.trans (hb3.mono hsz2))
    have HW3 := Lib.hid (HW2.out.trans (hb3.mono HW2.out.size))
    have hsz3 : wb.heap.size ≤ w3.heap.size := Nat.le_trans hsz2 hb3.size
    have HX03 := Lib.hid (HX02.out.below hb3 (Nat.lt_of_lt_of_le hxx0 hsz2))
    have HX13 := Lib.hid (HX12.out.below hb3 (Nat.lt_of_lt_of_le hxx1 hsz2))
    have HNd3 := Lib.hid (HNd2.out.now hb3)
    have HLf3 := Lib.hid (HLf2.out.now hb3)
    have HM3 := Lib.hid (HM2.out.now hb3)
    have HBv3 := Lib.hid (HBv2.out.now hb3)
    have HR13 := Lib.hid (HR12.out.now hb3)
    have HR23 := Lib.hid (HR22.out.now hb3)
    clear h0
    have h0 := HS.out _ HY3.out
    refine ⟨_, rfl, h0, ?_⟩
    clear hb3 hv
    try simp only [Act.put, List.setIfInBounds_toArray, List.set_cons_zero, List.set_cons_succ]
    refine held_call 10 (some 17) 18 [(.tmp 15), (.tmp 16)] #[27, 30] #[.agg #[vn, vl, vr, vb], .agg #[v1, v2, .int .i64 bg]] (by rfl) (by rfl) (by kernel_rfl) Try.func18 (by rfl) (by rfl) ?_
    refine (HC10.out _ HM3.out HR13.out HR23.out).mono ?_
    rintro e w4 ⟨ob, rfl, hv, hb4⟩
    have HVob4 := Lib.hid hv
    have HY4 := Lib.hid (HY3.out.trans (hb4.mono HY3.out.size))
    have HB4 := Lib.hid (HB3.out.trans (hb4.mono hsz3))
    have HW4 := Lib.hid (HW3.out.trans (hb4.mono HW3.out.size))
    have hsz4 : wb.heap.size ≤ w4.heap.size := Nat.le_trans hsz3 hb4.size
    have HX04 := Lib.hid (HX03.out.below hb4 (Nat.lt_of_lt_of_le hxx0 hsz3))
    have HX14 := Lib.hid (HX13.out.below hb4 (Nat.lt_of_lt_of_le hxx1 hsz3))
    have HNd4 := Lib.hid (HNd3.out.now hb4)
    have HLf4 := Lib.hid (HLf3.out.now hb4)
    have HM4 := Lib.hid (HM3.out.now hb4)
    have HBv4 := Lib.hid (HBv3.out.now hb4)
    have HR14 := Lib.hid (HR13.out.now hb4)
    have HR24 := Lib.hid (HR23.out.now hb4)
    have HVoa4 := Lib.hid (HVoa3.out.now hb4)
    clear h0
    have h0 := HS.out _ HY4.out
    refine ⟨_, rfl, h0, ?_⟩
    clear hb4 hv
    try simp only [Act.put, List.setIfInBounds_toArray, List.set_cons_zero, List.set_cons_succ]
    refine held_call 11 (some 18) 16 [(.tmp 14), (.tmp 17)] #[25, 25] #[oa, ob] (by rfl) (by rfl) (by kernel_rfl) Try.func16 (by rfl) (by rfl) ?_
    refine (same_ints _ _ O O true _ HVoa4.out HVob4.out (by simp)).mono ?_
    rintro e w5 ⟨rfl, hb5⟩
    have HY5 := Lib.hid (HY4.out.trans (hb5.mono HY4.out.size))
    have HB5 := Lib.hid (HB4.out.trans (hb5.mono hsz4))
    have HW5 := Lib.hid (HW4.out.trans (hb5.mono HW4.out.size))
    have hsz5 : wb.heap.size ≤ w5.heap.size := Nat.le_trans hsz4 hb5.size
    have HX05 := Lib.hid (HX04.out.below hb5 (Nat.lt_of_lt_of_le hxx0 hsz4))
    have HX15 := Lib.hid (HX14.out.below hb5 (Nat.lt_of_lt_of_le hxx1 hsz4))
    have HNd5 := Lib.hid (HNd4.out.now hb5)
    have HLf5 := Lib.hid (HLf4.out.now hb5)
    have HM5 := Lib.hid (HM4.out.now hb5)
    have HBv5 := Lib.hid (HBv4.out.now hb5)
    have HR15 := Lib.hid (HR14.out.now hb5)
    have HR25 := Lib.hid (HR24.out.now hb5)
    have HVoa5 := Lib.hid (HVoa4.out.now hb5)
    have HVob5 := Lib.hid (HVob4.out.now hb5)
    clear h0
    have h0 := HS.out _ HY5.out
    refine ⟨_, rfl, h0, ?_⟩
    clear hb5
    try simp only [Act.put, List.setIfInBounds_toArray, List.set_cons_zero, List.set_cons_succ]
    refine held_run 12 (some 19) (.move (.tmp 18)) ?v3_26_36 (by rfl) (by kernel_rfl) (by kernel_rfl) (by kernel_rfl) (fun _ _ _ h => h) (fun o ho w hS => ?y3_26_36) (by assumption) ?r3_26_36
    case y3_26_36 => (try dsimp only at hS); unfold execOp; simp only [ho]; go_simp; try with_reducible rfl
    try simp only [Act.put, List.setIfInBounds_toArray, List.set_cons_zero, List.set_cons_succ]
    refine held_load 13 (some 20) 27 (.tmp 2) (by rfl) (by kernel_rfl) (by kernel_rfl) (by kernel_rfl) (w.heap.size) 27 #[vn, vl, vr, vb] (fun _ _ _ h => h) (by rfl) (fun _ h => h.2.1) _ Try.underlying27 rfl (by kernel_rfl) (by assumption) ?_
    try simp only [Act.put, List.setIfInBounds_toArray, List.set_cons_zero, List.set_cons_succ]
    refine held_load 14 (some 21) 30 (.tmp 3) (by rfl) (by kernel_rfl) (by kernel_rfl) (by kernel_rfl) (w.heap.size + 1) 30 #[v1, v2, .int .i64 bg] (fun _ _ _ h => h) (by rfl) (fun _ h => h.2.2) _ Try.underlying30 rfl (by kernel_rfl) (by assumption) ?_
    try simp only [Act.put, List.setIfInBounds_toArray, List.set_cons_zero, List.set_cons_succ]
    refine held_load 16 (some 23) 27 (.tmp 2) (by rfl) (by kernel_rfl) (by kernel_rfl) (by kernel_rfl) (w.heap.size) 27 #[vn, vl, vr, vb] (fun _ _ _ h => h) (by rfl) (fun _ h => h.2.1) _ Try.underlying27 rfl (by kernel_rfl) (by assumption) ?_
    try simp only [Act.put, List.setIfInBounds_toArray, List.set_cons_zero, List.set_cons_succ]
    refine held_load 17 (some 24) 30 (.tmp 3) (by rfl) (by kernel_rfl) (by kernel_rfl) (by kernel_rfl) (w.heap.size + 1) 30 #[v1, v2, .int .i64 bg] (fun _ _ _ h => h) (by rfl) (fun _ h => h.2.2) _ Try.underlying30 rfl (by kernel_rfl) (by assumption) ?_
    try simp only [Act.put, List.setIfInBounds_toArray, List.set_cons_zero, List.set_cons_succ]
    refine held_call 15 (some 22) 19 [(.tmp 20), (.tmp 21)] #[27, 30] #[.agg #[vn, vl, vr, vb], .agg #[v1, v2, .int .i64 bg]] (by rfl) (by rfl) (by kernel_rfl) Try.func19 (by rfl) (by rfl) ?_
    refine (HC15.out _ HM5.out HR15.out HR25.out).mono ?_
    rintro e w6 ⟨ra, rfl, hv, hb6⟩
    have HVra6 := Lib.hid hv
    have HY6 := Lib.hid (HY5.out.trans (hb6.mono HY5.out.size))
    have HB6 := Lib.hid (HB5.out.trans (hb6.mono hsz5))
    have HW6 := Lib.hid (HW5.out.trans (hb6.mono HW5.out.size))
    have hsz6 : wb.heap.size ≤ w6.heap.size := Nat.le_trans hsz5 hb6.size
    have HX06 := Lib.hid (HX05.out.below hb6 (Nat.lt_of_lt_of_le hxx0 hsz5))
    have HX16 := Lib.hid (HX15.out.below hb6 (Nat.lt_of_lt_of_le hxx1 hsz5))
    have HNd6 := Lib.hid (HNd5.out.now hb6)
    have HLf6 := Lib.hid (HLf5.out.now hb6)
    have HM6 := Lib.hid (HM5.out.now hb6)
    have HBv6 := Lib.hid (HBv5.out.now hb6)
    have HR16 := Lib.hid (HR15.out.now hb6)
    have HR26 := Lib.hid (HR25.out.now hb6)
    have HVoa6 := Lib.hid (HVoa5.out.now hb6)
    have HVob6 := Lib.hid (HVob5.out.now hb6)
    clear h0
    have h0 := HS.out _ HY6.out
    refine ⟨_, rfl, h0, ?_⟩
    clear hb6 hv
    try simp only [Act.put, List.setIfInBounds_toArray, List.set_cons_zero, List.set_cons_succ]
    refine held_call 18 (some 25) 20 [(.tmp 23), (.tmp 24)] #[27, 30] #[.agg #[vn, vl, vr, vb], .agg #[v1, v2, .int .i64 bg]] (by rfl) (by rfl) (by kernel_rfl) Try.func20 (by rfl) (by rfl) ?_
    refine (HC18.out _ HM6.out HR16.out HR26.out).mono ?_
    rintro e w7 ⟨rb, rfl, hv, hb7⟩
    have HVrb7 := Lib.hid hv
    have HY7 := Lib.hid (HY6.out.trans (hb7.mono HY6.out.size))
    have HB7 := Lib.hid (HB6.out.trans (hb7.mono hsz6))
    have HW7 := Lib.hid (HW6.out.trans (hb7.mono HW6.out.size))
    have hsz7 : wb.heap.size ≤ w7.heap.size := Nat.le_trans hsz6 hb7.size
    have HX07 := Lib.hid (HX06.out.below hb7 (Nat.lt_of_lt_of_le hxx0 hsz6))
    have HX17 := Lib.hid (HX16.out.below hb7 (Nat.lt_of_lt_of_le hxx1 hsz6))
    have HNd7 := Lib.hid (HNd6.out.now hb7)
    have HLf7 := Lib.hid (HLf6.out.now hb7)
    have HM7 := Lib.hid (HM6.out.now hb7)
    have HBv7 := Lib.hid (HBv6.out.now hb7)
    have HR17 := Lib.hid (HR16.out.now hb7)
    have HR27 := Lib.hid (HR26.out.now hb7)
    have HVoa7 := Lib.hid (HVoa6.out.now hb7)
    have HVob7 := Lib.hid (HVob6.out.now hb7)
    have HVra7 := Lib.hid (HVra6.out.now hb7)
    clear h0
    have h0 := HS.out _ HY7.out
    refine ⟨_, rfl, h0, ?_⟩
    clear hb7 hv
    try simp only [Act.put, List.setIfInBounds_toArray, List.set_cons_zero, List.set_cons_succ]
    refine held_call 19 (some 26) 16 [(.tmp 22), (.tmp 25)] #[25, 25] #[ra, rb] (by rfl) (by rfl) (by kernel_rfl) Try.func16 (by rfl) (by rfl) ?_
    refine (same_ints _ _ R R true _ HVra7.out HVrb7.out (by simp)).mono ?_
    rintro e w8 ⟨rfl, hb8⟩
    have HY8 := Lib.hid (HY7.out.trans (hb8.mono HY7.out.size))
    have HB8 := Lib.hid (HB7.out.trans (hb8.mono hsz7))
    have HW8 := Lib.hid (HW7.out.trans (hb8.mono HW7.out.size))
    have hsz8 : wb.heap.size ≤ w8.heap.size := Nat.le_trans hsz7 hb8.size
    have HX08 := Lib.hid (HX07.out.below hb8 (Nat.lt_of_lt_of_le hxx0 hsz7))
    have HX18 := Lib.hid (HX17.out.below hb8 (Nat.lt_of_lt_of_le hxx1 hsz7))
    have HNd8 := Lib.hid (HNd7.out.now hb8)
    have HLf8 := Lib.hid (HLf7.out.now hb8)
    have HM8 := Lib.hid (HM7.out.now hb8)
    have HBv8 := Lib.hid (HBv7.out.now hb8)
    have HR18 := Lib.hid (HR17.out.now hb8)
    have HR28 := Lib.hid (HR27.out.now hb8)
    have HVoa8 := Lib.hid (HVoa7.out.now hb8)
    have HVob8 := Lib.hid (HVob7.out.now hb8)
    have HVra8 := Lib.hid (HVra7.out.now hb8)
    have HVrb8 := Lib.hid (HVrb7.out.now hb8)
    clear h0
    have h0 := HS.out _ HY8.out
    refine ⟨_, rfl, h0, ?_⟩
    clear hb8
    try simp only [Act.put, List.setIfInBounds_toArray, List.set_cons_zero, List.set_cons_succ]
    refine held_run 20 (some 27) (.pick (.tmp 19) (.tmp 26) (.const (Value.bool false))) ?v3_26_44 (by rfl) (by kernel_rfl) (by kernel_rfl) (by kernel_rfl) (fun _ _ _ h => h) (fun o ho w hS => ?y3_26_44) (by assumption) ?r3_26_44
    case y3_26_44 => (try dsimp only at hS); unfold execOp; simp only [ho]; go_simp; try with_reducible rfl
    try simp only [Act.put, List.setIfInBounds_toArray, List.set_cons_zero, List.set_cons_succ]
    refine held_run 21 (some 28) (.pick (.tmp 11) (.const (Value.bool true)) (.tmp 27)) ?v3_26_45 (by rfl) (by kernel_rfl) (by kernel_rfl) (by kernel_rfl) (fun _ _ _ h => h) (fun o ho w hS => ?y3_26_45) (by assumption) ?r3_26_45
    case y3_26_45 => (try dsimp only at hS); unfold execOp; simp only [ho]; go_simp; try with_reducible rfl
    try simp only [Act.put, List.setIfInBounds_toArray, List.set_cons_zero, List.set_cons_succ]
    refine held_run 22 (some 4) (.assign (.tmp 28)) ?v3_26_46 (by rfl) (by kernel_rfl) (by kernel_rfl) (by kernel_rfl) (fun _ _ _ h => h) (fun o ho w hS => ?y3_26_46) (by assumption) ?r3_26_46
    case y3_26_46 => (try dsimp only at hS); unfold execOp; simp only [ho]; go_simp; try with_reducible rfl
    try simp only [Act.put, List.setIfInBounds_toArray, List.set_cons_zero, List.set_cons_succ]
    refine wpAnyH_done (by kernel_rfl) ?_ _
    go_wp2_with fail
    go_ret
    exact ⟨rfl, HW8.out⟩


theorem own_sweepOrders : ownKnob Try.prog.godebug = none := by kernel_rfl
theorem laidOut_sweepOrders : laidOutB Try.prog = true := by kernel_rfl
set_option maxRecDepth 100000 in
theorem sweepOrders_lifted (os : Os) (started : os.Started) (H : Type) (enc : TypeId × Value → H) :
    ReturnsInHanded {} Try.checked os 4 .any (Rows.sweepOrdersSpec.pre6 enc Try.prog Try.f4 Rows.sweepOrdersRow.domain false) (Rows.sweepOrdersSpec.post enc Try.prog Try.f4 false true false false) := by
  refine returnsInHanded_of_change (C := Try.checked) own_sweepOrders started (by kernel_rfl) Try.func4
    (ChangeSpec.witness6 (enc := enc) (C := Try.checked) false ⟨#[], #[.agg #[.slice none 0 0, .slice none 0 0, .slice none 0 0, .slice none 0 0], .agg #[.slice none 0 0, .slice none 0 0, .int .i64 0]], []⟩ 8 (by kernel_rfl) (by kernel_rfl) (by kernel_rfl) (by kernel_rfl)) ?_
  intro W base args ds gs before hval0 hW hcnd _
  have hval : ∀ (j : Nat) t v, Try.f4.params[j]? = some t → args[j]? = some v → Value.okWide Try.prog W .any base t v := hval0
  have hW' := hW
  obtain ⟨p, q, hA0, hV, rfl, hfz, hnd⟩ := hW
  have hA : DataW.TrodAll enc Try.prog W 0 (fun _ => true) true Try.f4.params.toList args.toList ds p := hA0
  rw [Try.params4] at hA hval
  obtain ⟨v0, vs0, d0, ds0, p0, q0, hargs, rfl, rfl, h0, r0⟩ := trodAll_cons hA
  obtain ⟨v1, vs1, d1, ds1, p1, q1, rfl, rfl, rfl, h1, r1⟩ := trodAll_cons r0
  obtain ⟨rfl, rfl, rfl⟩ := trodAll_nil r1
  obtain rfl : args = #[v0, v1] := by cases args; simp_all
  obtain ⟨rfl, rfl⟩ := trodVars_none hV
  obtain ⟨vn, vl, vr, vb, nd, lf, rs, bs, rfl, hnd, hlf, hrs, hbs⟩ := open_map (hval 0 27 v0 rfl rfl) h0
  obtain ⟨s1, s2, bg, runs, sw, rfl, hru, hsw⟩ := open_sweep (hval 1 30 v1 rfl rfl) h1
  refine (sweepOrders_any W vn vl vr vb nd lf rs bs hnd hlf hrs hbs s1 s2 bg runs sw hru hsw).mono fun e W' ⟨he, hb⟩ => ?_
  subst he
  exact ⟨_, rfl, law_post laidOut_sweepOrders (by kernel_rfl) rfl rfl Try.underlying4 hW' rfl hb⟩

theorem sweepOrders_holds : Rows.SweepOrdersSaid :=
  OpenClaim.holds_of_wide 4 Try.f4 rfl rfl rfl rfl rfl rfl rfl ⟨rfl, rfl, rfl, rfl, rfl⟩ rfl rfl rfl rfl rfl (by kernel_rfl) Try.func4 (by kernel_rfl)
    (of_decide_eq_true (by kernel_rfl)) (by unfold Func.isWrapper; rw [if_neg (by decide +kernel)]; exact ⟨rfl, rfl⟩)
    (fun os started H enc _ => sweepOrders_lifted os started H enc)
#print axioms sweepOrders_holds
end Go.Proofs.Yticoeibccdplaaa
