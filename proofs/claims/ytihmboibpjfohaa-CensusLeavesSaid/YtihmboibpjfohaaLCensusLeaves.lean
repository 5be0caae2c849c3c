/-
  CensusLeaves answers true for every input. Its conditions: none. (One heavy walk.)
-/
import Derived.Test.YtihmboibpjfohaaRows
import Derived.Test.YtihmboibpjfohaaFlrZ
namespace Go.Proofs.Ytihmboibpjfohaa
open Go.ChangeShapes Go.WideShapes Go.ChangeAt Go.RowKit

set_option maxRecDepth 100000 in
set_option maxHeartbeats 40000000 in
theorem censusLeaves_any (w : World) (vn vl vr vb : Value) (nd : List Nd) (lf : List Lf) (rs : List Rn) (bs : List Int) (hnd : StrV Nd.cells 2 w w.heap.size vn nd) (hlf : StrV Lf.cells 8 w w.heap.size vl lf) (hrs : StrV Rn.cells 7 w w.heap.size vr rs) (hbs : RowV w w.heap.size vb bs) (uuA : Option Addr) (uun uuc : Nat) (uu : List Int) (uu1 : uun ≤ uuc) (uu2 : uuc ≤ maxLen) (uur : Reads w w.heap.size 1 uuA uun (uu.map (Value.int .i64))) (uuw : ∀ z ∈ uu, (Lit.int .i64 z).wf = true) (x0 x1 : Int) :
    Calls Try.prog 5 #[.agg #[vn, vl, vr, vb], .slice uuA uun uuc, .agg #[.int .i64 x0, .int .i64 x1]] w fun e w' => e = .returned (.bool true) ∧ Below w.heap.size w w' := by
  have HM := Lib.hid hnd
  have HL := Lib.hid hlf
  have HR := Lib.hid hrs
  have HS := Lib.hid hbs
  have HU := Lib.hid uur
  have hmx := Int.ofNat_le.2 (show uun ≤ maxLen by omega)
  clear hnd hlf hrs hbs uur uuw
  go_enter Try.func5, Try.ntmps5
  go_wp2_with fail
  have HBwz0 := (Blk.new w 44 #[vn, vl, vr, vb])
  have HLwz0 := (below_new w (.cells #[vn, vl, vr, vb] 44))
  have hswz0 : (w.alloc (.cells #[vn, vl, vr, vb] 44)).heap.size = w.heap.size + 1 := by simp
  generalize w.alloc (.cells #[vn, vl, vr, vb] 44) = wz0 at HBwz0 HLwz0 hswz0 ⊢
  replace HBwz0 := Lib.hid HBwz0
  replace HLwz0 := Lib.hid HLwz0
  have hlwz0 : w.heap.size < wz0.heap.size := by omega
  replace hswz0 := Lib.hid hswz0
  have HBwb := (Blk.new wz0 45 #[.int .i64 x0, .int .i64 x1])
  have HLwb := (below_new wz0 (.cells #[.int .i64 x0, .int .i64 x1] 45))
  have hswb : (wz0.alloc (.cells #[.int .i64 x0, .int .i64 x1] 45)).heap.size = wz0.heap.size + 1 := by simp
  generalize wz0.alloc (.cells #[.int .i64 x0, .int .i64 x1] 45) = wb at HBwb HLwb hswb ⊢
  replace HBwb := Lib.hid HBwb
  replace HLwb := Lib.hid HLwb
  have hlwb : wz0.heap.size < wb.heap.size := by omega
  replace hswb := Lib.hid hswb
  have HQ1 := Lib.hid (HLwz0.out.trans (HLwb.out.mono HLwz0.out.size))
  have HWb := Lib.hid (HQ1.out)
  have hl0 : w.heap.size ≤ wb.heap.size := HWb.out.size
  have HBb : Hid (Below wb.heap.size wb wb) := hide (Below.refl _ _)
  have hszb : wb.heap.size ≤ wb.heap.size := Nat.le_refl _
  have HZ0_1 := Lib.hid (HBwz0.out.below HLwb.out hlwz0)
  have hz0_1 : w.heap.size < wb.heap.size := HZ0_1.out.lt
  have HX0b : Hid (Blk wb w.heap.size 44 #[vn, vl, vr, vb]) := hide HZ0_1.out
  have hxx0 : w.heap.size < wb.heap.size := HX0b.out.lt
  have HX1b : Hid (Blk wb (w.heap.size + 1) 45 #[.int .i64 x0, .int .i64 x1]) := hide (by have h := HBwb.out; rw [show wz0.heap.size = w.heap.size + 1 from by have := hswz0.out; omega] at h; exact h)
  have hxx1 : (w.heap.size + 1) < wb.heap.size := HX1b.out.lt
  clear HBwz0 HLwz0 hswz0 hlwz0
  clear HBwb HLwb hswb hlwb
  have HMb := Lib.hid (HM.out.now HWb.out)
  have HLb := Lib.hid (HL.out.now HWb.out)
  have HRb := Lib.hid (HR.out.now HWb.out)
  have HSb := Lib.hid (HS.out.now HWb.out)
  have HUb := Lib.hid (HU.out.now HWb.out)
  with_reducible refine (alive_any _).mono ?_
  rintro e w1 ⟨rfl, hb1⟩
  have HB1 := Lib.hid (HBb.out.trans (hb1.mono hszb))
  have HW1 := Lib.hid (HWb.out.trans (hb1.mono HWb.out.size))
  have hsz1 : wb.heap.size ≤ w1.heap.size := Nat.le_trans hszb hb1.size
  have HX01 := Lib.hid (HX0b.out.below hb1 (Nat.lt_of_lt_of_le hxx0 hszb))
  have HX11 := Lib.hid (HX1b.out.below hb1 (Nat.lt_of_lt_of_le hxx1 hszb))
  have HM1 := Lib.hid (HMb.out.now hb1)
  have HL1 := Lib.hid (HLb.out.now hb1)
  have HR1 := Lib.hid (HRb.out.now hb1)
  have HS1 := Lib.hid (HSb.out.now hb1)
  have HU1 := Lib.hid (HUb.out.now hb1)
  clear hb1
  go_wp2_with
    (first
     | (refine wpList_load_g 44 (.tmp 3) rfl rfl w.heap.size rfl _ _ HX01.out _ Try.underlying44 rfl (by kernel_rfl) ?_))
  with_reducible refine (small_any vn vl vr vb nd lf rs bs uuA uun uuc _ HM1.out HL1.out HR1.out HS1.out (by omega)).mono ?_
  rintro e w2 ⟨b2, rfl, hp2, hb2⟩
  have HP := Lib.hid hp2
  clear hp2
  have HB2 := Lib.hid (HB1.out.trans (hb2.mono hsz1))
  have HW2 := Lib.hid (HW1.out.trans (hb2.mono HW1.out.size))
  have hsz2 : wb.heap.size ≤ w2.heap.size := Nat.le_trans hsz1 hb2.size
  have HX02 := Lib.hid (HX01.out.below hb2 (Nat.lt_of_lt_of_le hxx0 hsz1))
  have HX12 := Lib.hid (HX11.out.below hb2 (Nat.lt_of_lt_of_le hxx1 hsz1))
  have HM2 := Lib.hid (HM1.out.now hb2)
  have HL2 := Lib.hid (HL1.out.now hb2)
  have HR2 := Lib.hid (HR1.out.now hb2)
  have HS2 := Lib.hid (HS1.out.now hb2)
  have HU2 := Lib.hid (HU1.out.now hb2)
  clear hb2
  cases b2 with
  | false =>
    go_wp2_with fail
    try go_ret
    exact ⟨rfl, HW2.out⟩
  | true =>
    have HK := Lib.hid (HP.out rfl).2.eg
    have HE1 : Hid (∀ W : World, StrV Nd.cells 2 W W.heap.size vn nd → StrV Rn.cells 7 W W.heap.size vr rs → RowV W W.heap.size vb bs → Ints W W.heap.size uuA uun uu → Calls Try.prog 22 #[.agg #[vn, vl, vr, vb], .slice uuA uun uuc, .int .i64 x0] W (EgR nd rs bs uu x0 W)) := fun W h1 h2 h3 h4 => egress_any vn vl vr vb uuA uun uuc nd rs bs uu x0 W h1 h2 h3 h4 (by omega) HK.out
    have HE2 : Hid (∀ W : World, StrV Nd.cells 2 W W.heap.size vn nd → StrV Rn.cells 7 W W.heap.size vr rs → RowV W W.heap.size vb bs → Ints W W.heap.size uuA uun uu → Calls Try.prog 23 #[.agg #[vn, vl, vr, vb], .slice uuA uun uuc, .int .i64 x0] W (EgR nd rs bs uu x0 W)) := fun W h1 h2 h3 h4 => regress_any vn vl vr vb uuA uun uuc nd rs bs uu x0 W h1 h2 h3 h4 (by omega) HK.out
    have HF1 : Hid (∀ W : World, StrV Nd.cells 2 W W.heap.size vn nd → StrV Rn.cells 7 W W.heap.size vr rs → RowV W W.heap.size vb bs → Ints W W.heap.size uuA uun uu → Calls Try.prog 24 #[.agg #[vn, vl, vr, vb], .slice uuA uun uuc, .int .i64 x0, .int .i64 x1] W (EmR nd rs bs uu x0 x1 W)) := fun W h1 h2 h3 h4 => empty_any vn vl vr vb uuA uun uuc nd rs bs uu x0 x1 W h1 h2 h3 h4 (by omega) HK.out
    have HF2 : Hid (∀ W : World, StrV Nd.cells 2 W W.heap.size vn nd → StrV Rn.cells 7 W W.heap.size vr rs → RowV W W.heap.size vb bs → Ints W W.heap.size uuA uun uu → Calls Try.prog 25 #[.agg #[vn, vl, vr, vb], .slice uuA uun uuc, .int .i64 x0, .int .i64 x1] W (EmR nd rs bs uu x0 x1 W)) := fun W h1 h2 h3 h4 => rempty_any vn vl vr vb uuA uun uuc nd rs bs uu x0 x1 W h1 h2 h3 h4 (by omega) HK.out
    have hSb : ∀ W, Below wb.heap.size wb W → (fun W => Blk W w.heap.size 44 #[vn, vl, vr, vb] ∧ W.cell? ⟨w.heap.size + 1, 0, none⟩ = some (.int .i64 x0) ∧ W.cell? ⟨w.heap.size + 1, 1, none⟩ = some (.int .i64 x1)) W := fun W hb => ⟨HX0b.out.below hb hxx0, (HX1b.out.below hb hxx1).cell 0, (HX1b.out.below hb hxx1).cell 1⟩
    have HSS := Lib.hid hSb
    have h0 := hSb _ HB2.out.drew
    have hE0 : (fun W => Blk W w.heap.size 44 #[vn, vl, vr, vb] ∧ W.cell? ⟨w.heap.size + 1, 0, none⟩ = some (.int .i64 x0) ∧ W.cell? ⟨w.heap.size + 1, 1, none⟩ = some (.int .i64 x1)) w2 := hSb _ HB2.out
    clear hSb
    have HYs : Hid (∀ (M N : Int), EgV nd rs bs uu x0 M → EgV nd rs bs uu x0 N → M = N) := fun M N h1 h2 => h1.unique h2
    have HMd := Lib.hid HM2.out
    have HBd : Hid (Below wb.heap.size wb w2.drew) := hide HB2.out.drew
    have HWd : Hid (Below w.heap.size w w2.drew) := hide HW2.out.drew
    have hszd : wb.heap.size ≤ w2.drew.heap.size := hsz2
    clear HMd
    have HMd := Lib.hid (HM2.out.now (Below.refl _ _).drew)
    have HLd := Lib.hid (HL2.out.now (Below.refl _ _).drew)
    have HRd := Lib.hid (HR2.out.now (Below.refl _ _).drew)
    have HSd := Lib.hid (HS2.out.now (Below.refl _ _).drew)
    have HUd := Lib.hid (HU2.out.now (Below.refl _ _).drew)
    have HX0d := Lib.hid (HX02.out.below (Below.refl _ _).drew (Nat.lt_of_lt_of_le hxx0 hsz2))
    have HX1d := Lib.hid (HX12.out.below (Below.refl _ _).drew (Nat.lt_of_lt_of_le hxx1 hsz2))
    go_upto_region 5 with (fail)
    refine wp_region_held_drew (S := fun W => Blk W w.heap.size 44 #[vn, vl, vr, vb] ∧ W.cell? ⟨w.heap.size + 1, 0, none⟩ = some (.int .i64 x0) ∧ W.cell? ⟨w.heap.size + 1, 1, none⟩ = some (.int .i64 x1)) (by kernel_rfl) (h0) (fun hHeld => ?_)
    refine held_load 0 (some 13) 44 (.tmp 3) (by rfl) (by kernel_rfl) (by kernel_rfl) (by kernel_rfl) (w.heap.size) 44 #[vn, vl, vr, vb] (fun _ _ _ h => h) (by rfl) (fun _ h => h.1) _ Try.underlying44 rfl (by kernel_rfl) (by assumption) ?_
    try simp only [Act.put, List.setIfInBounds_toArray, List.set_cons_zero, List.set_cons_succ]
    refine held_run 1 (some 14) (.move (.tmp 1)) ?v5_1_3 (by rfl) (by kernel_rfl) (by kernel_rfl) (by kernel_rfl) (fun _ _ _ h => h) (fun o ho w hS => ?y5_1_3) (by assumption) ?r5_1_3
    case y5_1_3 => (try dsimp only at hS); unfold execOp; simp only [ho]; go_simp; try with_reducible rfl
    try simp only [Act.put, List.setIfInBounds_toArray, List.set_cons_zero, List.set_cons_succ]
    refine held_run 2 (some 15) (.indexAddr 45 (.tmp 5) (.const (.int .i64 0))) ?v5_1_4 (by rfl) (by kernel_rfl) (by kernel_rfl) (by kernel_rfl) (fun _ _ _ h => h) (fun o ho w hS => ?y5_1_4) (by assumption) ?r5_1_4
    case y5_1_4 => (try dsimp only at hS); unfold execOp; simp only [ho]; go_simp; try with_reducible rfl
    try simp only [Act.put, List.setIfInBounds_toArray, List.set_cons_zero, List.set_cons_succ]
    refine held_run 3 (some 16) (.load 3 (.tmp 15)) ?v5_1_5 (by rfl) (by kernel_rfl) (by kernel_rfl) (by kernel_rfl) (fun _ _ _ h => h) (fun o ho w hS => ?y5_1_5) (by assumption) ?r5_1_5
    case y5_1_5 => (try dsimp only at hS); unfold execOp; simp only [ho]; go_simp; try with_reducible rfl
    try simp only [Act.put, List.setIfInBounds_toArray, List.set_cons_zero, List.set_cons_succ]
    refine held_load 5 (some 18) 44 (.tmp 3) (by rfl) (by kernel_rfl) (by kernel_rfl) (by kernel_rfl) (w.heap.size) 44 #[vn, vl, vr, vb] (fun _ _ _ h => h) (by rfl) (fun _ h => h.1) _ Try.underlying44 rfl (by kernel_rfl) (by assumption) ?_
    try simp only [Act.put, List.setIfInBounds_toArray, List.set_cons_zero, List.set_cons_succ]
    refine held_run 6 (some 19) (.move (.tmp 1)) ?v5_1_7 (by rfl) (by kernel_rfl) (by kernel_rfl) (by kernel_rfl) (fun _ _ _ h => h) (fun o ho w hS => ?y5_1_7) (by assumption) ?r5_1_7
    case y5_1_7 => (try dsimp only at hS); unfold execOp; simp only [ho]; go_simp; try with_reducible rfl
    try simp only [Act.put, List.setIfInBounds_toArray, List.set_cons_zero, List.set_cons_succ]
    refine held_run 7 (some 20) (.indexAddr 45 (.tmp 5) (.const (.int .i64 0))) ?v5_1_8 (by rfl) (by kernel_rfl) (by kernel_rfl) (by kernel_rfl) (fun _ _ _ h => h) (fun o ho w hS => ?y5_1_8) (by assumption) ?r5_1_8
    case y5_1_8 => (try dsimp only at hS); unfold execOp; simp only [ho]; go_simp; try with_reducible rfl
    try simp only [Act.put, List.setIfInBounds_toArray, List.set_cons_zero, List.set_cons_succ]
    refine held_run 8 (some 21) (.load 3 (.tmp 20)) ?v5_1_9 (by rfl) (by kernel_rfl) (by kernel_rfl) (by kernel_rfl) (fun _ _ _ h => h) (fun o ho w hS => ?y5_1_9) (by assumption) ?r5_1_9
    case y5_1_9 => (try dsimp only at hS); unfold execOp; simp only [ho]; go_simp; try with_reducible rfl
    try simp only [Act.put, List.setIfInBounds_toArray, List.set_cons_zero, List.set_cons_succ]
    refine held_call 4 (some 17) 22 [(.tmp 13), (.tmp 14), (.tmp 16)] #[44, 42, 3] #[.agg #[vn, vl, vr, vb], .slice uuA uun uuc, .int .i64 x0] (by rfl) (by rfl) (by kernel_rfl) Try.func22 (by rfl) (by rfl) ?_
    refine (HE1.out _ HMd.out HRd.out HSd.out HUd.out).mono ?_
    rintro e w3 ⟨M, hM, rfl, hb3⟩
    have HB3 := Lib.hid (HBd.out.trans (hb3.mono hszd))
    have HW3 := Lib.hid (HWd.out.trans (hb3.mono HWd.out.size))
    have hsz3 : wb.heap.size ≤ w3.heap.size := Nat.le_trans hszd hb3.size
    have HX03 := Lib.hid (HX0d.out.below hb3 (Nat.lt_of_lt_of_le hxx0 hszd))
    have HX13 := Lib.hid (HX1d.out.below hb3 (Nat.lt_of_lt_of_le hxx1 hszd))
    have HM3 := Lib.hid (HMd.out.now hb3)
    have HL3 := Lib.hid (HLd.out.now hb3)
    have HR3 := Lib.hid (HRd.out.now hb3)
    have HS3 := Lib.hid (HSd.out.now hb3)
    have HU3 := Lib.hid (HUd.out.now hb3)
    have HMM := Lib.hid hM
    clear hM
    clear hb3 h0
    have h0 := HSS.out _ HB3.out
    refine ⟨_, rfl, h0, ?_⟩
    try simp only [Act.put, List.setIfInBounds_toArray, List.set_cons_zero, List.set_cons_succ]
    refine held_call 9 (some 22) 23 [(.tmp 18), (.tmp 19), (.tmp 21)] #[44, 42, 3] #[.agg #[vn, vl, vr, vb], .slice uuA uun uuc, .int .i64 x0] (by rfl) (by rfl) (by kernel_rfl) Try.func23 (by rfl) (by rfl) ?_
    refine (HE2.out _ HM3.out HR3.out HS3.out HU3.out).mono ?_
    rintro e w4 ⟨N, hN, rfl, hb4⟩
    have HB4 := Lib.hid (HB3.out.trans (hb4.mono hsz3))
    have HW4 := Lib.hid (HW3.out.trans (hb4.mono HW3.out.size))
    have hsz4 : wb.heap.size ≤ w4.heap.size := Nat.le_trans hsz3 hb4.size
    have HX04 := Lib.hid (HX03.out.below hb4 (Nat.lt_of_lt_of_le hxx0 hsz3))
    have HX14 := Lib.hid (HX13.out.below hb4 (Nat.lt_of_lt_of_le hxx1 hsz3))
    have HM4 := Lib.hid (HM3.out.now hb4)
    have HL4 := Lib.hid (HL3.out.now hb4)
    have HR4 := Lib.hid (HR3.out.now hb4)
    have HS4 := Lib.hid (HS3.out.now hb4)
    have HU4 := Lib.hid (HU3.out.now hb4)
    obtain rfl := HYs.out _ _ HMM.out hN
    clear hN
    clear hb4 h0
    have h0 := HSS.out _ HB4.out
    refine ⟨_, rfl, h0, ?_⟩
    try simp only [Act.put, List.setIfInBounds_toArray, List.set_cons_zero, List.set_cons_succ]
    refine held_run 10 (some 23) (.binOp .eql 3 (.tmp 17) (.tmp 22) 3) ?v5_1_12 (by rfl) (by kernel_rfl) (by kernel_rfl) (by kernel_rfl) (fun _ _ _ h => h) (fun o ho w hS => ?y5_1_12) (by assumption) ?r5_1_12
    case y5_1_12 => (try dsimp only at hS); unfold execOp; simp only [ho]; go_simp; try with_reducible rfl
    try simp only [Act.put, List.setIfInBounds_toArray, List.set_cons_zero, List.set_cons_succ]
    refine held_run 11 (some 24) (.move (.tmp 23)) ?v5_1_13 (by rfl) (by kernel_rfl) (by kernel_rfl) (by kernel_rfl) (fun _ _ _ h => h) (fun o ho w hS => ?y5_1_13) (by assumption) ?r5_1_13
    case y5_1_13 => (try dsimp only at hS); unfold execOp; simp only [ho]; go_simp; try with_reducible rfl
    try simp only [Act.put, List.setIfInBounds_toArray, List.set_cons_zero, List.set_cons_succ]
    refine held_load 12 (some 25) 44 (.tmp 3) (by rfl) (by kernel_rfl) (by kernel_rfl) (by kernel_rfl) (w.heap.size) 44 #[vn, vl, vr, vb] (fun _ _ _ h => h) (by rfl) (fun _ h => h.1) _ Try.underlying44 rfl (by kernel_rfl) (by assumption) ?_
    try simp only [Act.put, List.setIfInBounds_toArray, List.set_cons_zero, List.set_cons_succ]
    refine held_run 13 (some 26) (.move (.tmp 1)) ?v5_1_15 (by rfl) (by kernel_rfl) (by kernel_rfl) (by kernel_rfl) (fun _ _ _ h => h) (fun o ho w hS => ?y5_1_15) (by assumption) ?r5_1_15
    case y5_1_15 => (try dsimp only at hS); unfold execOp; simp only [ho]; go_simp; try with_reducible rfl
    try simp only [Act.put, List.setIfInBounds_toArray, List.set_cons_zero, List.set_cons_succ]
    refine held_run 14 (some 27) (.indexAddr 45 (.tmp 5) (.const (.int .i64 0))) ?v5_1_16 (by rfl) (by kernel_rfl) (by kernel_rfl) (by kernel_rfl) (fun _ _ _ h => h) (fun o ho w hS => ?y5_1_16) (by assumption) ?r5_1_16
    case y5_1_16 => (try dsimp only at hS); unfold execOp; simp only [ho]; go_simp; try with_reducible rfl
    try simp only [Act.put, List.setIfInBounds_toArray, List.set_cons_zero, List.set_cons_succ]
    refine held_run 15 (some 28) (.load 3 (.tmp 27)) ?v5_1_17 (by rfl) (by kernel_rfl) (by kernel_rfl) (by kernel_rfl) (fun _ _ _ h => h) (fun o ho w hS => ?y5_1_17) (by assumption) ?r5_1_17
    case y5_1_17 => (try dsimp only at hS); unfold execOp; simp only [ho]; go_simp; try with_reducible rfl
    try simp only [Act.put, List.setIfInBounds_toArray, List.set_cons_zero, List.set_cons_succ]
    refine held_run 16 (some 29) (.indexAddr 45 (.tmp 5) (.const (.int .i64 1))) ?v5_1_18 (by rfl) (by kernel_rfl) (by kernel_rfl) (by kernel_rfl) (fun _ _ _ h => h) (fun o ho w hS => ?y5_1_18) (by assumption) ?r5_1_18
    case y5_1_18 => (try dsimp only at hS); unfold execOp; simp only [ho]; go_simp; try with_reducible rfl
    try simp only [Act.put, List.setIfInBounds_toArray, List.set_cons_zero, List.set_cons_succ]
    refine held_run 17 (some 30) (.load 3 (.tmp 29)) ?v5_1_19 (by rfl) (by kernel_rfl) (by kernel_rfl) (by kernel_rfl) (fun _ _ _ h => h) (fun o ho w hS => ?y5_1_19) (by assumption) ?r5_1_19
    case y5_1_19 => (try dsimp only at hS); unfold execOp; simp only [ho]; go_simp; try with_reducible rfl
    try simp only [Act.put, List.setIfInBounds_toArray, List.set_cons_zero, List.set_cons_succ]
    refine held_load 19 (some 32) 44 (.tmp 3) (by rfl) (by kernel_rfl) (by kernel_rfl) (by kernel_rfl) (w.heap.size) 44 #[vn, vl, vr, vb] (fun _ _ _ h => h) (by rfl) (fun _ h => h.1) _ Try.underlying44 rfl (by kernel_rfl) (by assumption) ?_
    try simp only [Act.put, List.setIfInBounds_toArray, List.set_cons_zero, List.set_cons_succ]
    refine held_run 20 (some 33) (.move (.tmp 1)) ?v5_1_21 (by rfl) (by kernel_rfl) (by kernel_rfl) (by kernel_rfl) (fun _ _ _ h => h) (fun o ho w hS => ?y5_1_21) (by assumption) ?r5_1_21
    case y5_1_21 => (try dsimp only at hS); unfold execOp; simp only [ho]; go_simp; try with_reducible rfl
    try simp only [Act.put, List.setIfInBounds_toArray, List.set_cons_zero, List.set_cons_succ]
    refine held_run 21 (some 34) (.indexAddr 45 (.tmp 5) (.const (.int .i64 0))) ?v5_1_22 (by rfl) (by kernel_rfl) (by kernel_rfl) (by kernel_rfl) (fun _ _ _ h => h) (fun o ho w hS => ?y5_1_22) (by assumption) ?r5_1_22
    case y5_1_22 => (try dsimp only at hS); unfold execOp; simp only [ho]; go_simp; try with_reducible rfl
    try simp only [Act.put, List.setIfInBounds_toArray, List.set_cons_zero, List.set_cons_succ]
    refine held_run 22 (some 35) (.load 3 (.tmp 34)) ?v5_1_23 (by rfl) (by kernel_rfl) (by kernel_rfl) (by kernel_rfl) (fun _ _ _ h => h) (fun o ho w hS => ?y5_1_23) (by assumption) ?r5_1_23
    case y5_1_23 => (try dsimp only at hS); unfold execOp; simp only [ho]; go_simp; try with_reducible rfl
    try simp only [Act.put, List.setIfInBounds_toArray, List.set_cons_zero, List.set_cons_succ]
    refine held_run 23 (some 36) (.indexAddr 45 (.tmp 5) (.const (.int .i64 1))) ?v5_1_24 (by rfl) (by kernel_rfl) (by kernel_rfl) (by kernel_rfl) (fun _ _ _ h => h) (fun o ho w hS => ?y5_1_24) (by assumption) ?r5_1_24
    case y5_1_24 => (try dsimp only at hS); unfold execOp; simp only [ho]; go_simp; try with_reducible rfl
    try simp only [Act.put, List.setIfInBounds_toArray, List.set_cons_zero, List.set_cons_succ]
    refine held_run 24 (some 37) (.load 3 (.tmp 36)) ?v5_1_25 (by rfl) (by kernel_rfl) (by kernel_rfl) (by kernel_rfl) (fun _ _ _ h => h) (fun o ho w hS => ?y5_1_25) (by assumption) ?r5_1_25
    case y5_1_25 => (try dsimp only at hS); unfold execOp; simp only [ho]; go_simp; try with_reducible rfl
    try simp only [Act.put, List.setIfInBounds_toArray, List.set_cons_zero, List.set_cons_succ]
    refine held_call 18 (some 31) 24 [(.tmp 25), (.tmp 26), (.tmp 28), (.tmp 30)] #[44, 42, 3, 3] #[.agg #[vn, vl, vr, vb], .slice uuA uun uuc, .int .i64 x0, .int .i64 x1] (by rfl) (by rfl) (by kernel_rfl) Try.func24 (by rfl) (by rfl) ?_
    refine (HF1.out _ HM4.out HR4.out HS4.out HU4.out).mono ?_
    rintro e w5 ⟨p, hp, rfl, hb5⟩
    have HB5 := Lib.hid (HB4.out.trans (hb5.mono hsz4))
    have HW5 := Lib.hid (HW4.out.trans (hb5.mono HW4.out.size))
    have hsz5 : wb.heap.size ≤ w5.heap.size := Nat.le_trans hsz4 hb5.size
    have HX05 := Lib.hid (HX04.out.below hb5 (Nat.lt_of_lt_of_le hxx0 hsz4))
    have HX15 := Lib.hid (HX14.out.below hb5 (Nat.lt_of_lt_of_le hxx1 hsz4))
    have HM5 := Lib.hid (HM4.out.now hb5)
    have HL5 := Lib.hid (HL4.out.now hb5)
    have HR5 := Lib.hid (HR4.out.now hb5)
    have HS5 := Lib.hid (HS4.out.now hb5)
    have HU5 := Lib.hid (HU4.out.now hb5)
    have hp1 := hp _ HMM.out
    clear hp
    clear hb5 h0
    have h0 := HSS.out _ HB5.out
    refine ⟨_, rfl, h0, ?_⟩
    try simp only [Act.put, List.setIfInBounds_toArray, List.set_cons_zero, List.set_cons_succ]
    refine held_call 25 (some 38) 25 [(.tmp 32), (.tmp 33), (.tmp 35), (.tmp 37)] #[44, 42, 3, 3] #[.agg #[vn, vl, vr, vb], .slice uuA uun uuc, .int .i64 x0, .int .i64 x1] (by rfl) (by rfl) (by kernel_rfl) Try.func25 (by rfl) (by rfl) ?_
    refine (HF2.out _ HM5.out HR5.out HS5.out HU5.out).mono ?_
    rintro e w6 ⟨q, hq, rfl, hb6⟩
    have HB6 := Lib.hid (HB5.out.trans (hb6.mono hsz5))
    have HW6 := Lib.hid (HW5.out.trans (hb6.mono HW5.out.size))
    have hsz6 : wb.heap.size ≤ w6.heap.size := Nat.le_trans hsz5 hb6.size
    have HX06 := Lib.hid (HX05.out.below hb6 (Nat.lt_of_lt_of_le hxx0 hsz5))
    have HX16 := Lib.hid (HX15.out.below hb6 (Nat.lt_of_lt_of_le hxx1 hsz5))
    have HM6 := Lib.hid (HM5.out.now hb6)
    have HL6 := Lib.hid (HL5.out.now hb6)
    have HR6 := Lib.hid (HR5.out.now hb6)
    have HS6 := Lib.hid (HS5.out.now hb6)
    have HU6 := Lib.hid (HU5.out.now hb6)
    have hq1 := hq _ HMM.out
    clear hq
    obtain rfl : q = p := hq1.trans hp1.symm
    clear hb6 h0
    have h0 := HSS.out _ HB6.out
    refine ⟨_, rfl, h0, ?_⟩
    try simp only [Act.put, List.setIfInBounds_toArray, List.set_cons_zero, List.set_cons_succ]
    refine held_run 26 (some 39) (.binOp .eql 3 (.tmp 31) (.tmp 38) 3) ?v5_1_28 (by rfl) (by kernel_rfl) (by kernel_rfl) (by kernel_rfl) (fun _ _ _ h => h) (fun o ho w hS => ?y5_1_28) (by assumption) ?r5_1_28
    case y5_1_28 => (try dsimp only at hS); unfold execOp; simp only [ho]; go_simp; try with_reducible rfl
    try simp only [Act.put, List.setIfInBounds_toArray, List.set_cons_zero, List.set_cons_succ]
    refine held_run 27 (some 40) (.pick (.tmp 24) (.tmp 39) (.const (Value.bool false))) ?v5_1_29 (by rfl) (by kernel_rfl) (by kernel_rfl) (by kernel_rfl) (fun _ _ _ h => h) (fun o ho w hS => ?y5_1_29) (by assumption) ?r5_1_29
    case y5_1_29 => (try dsimp only at hS); unfold execOp; simp only [ho]; go_simp; try with_reducible rfl
    try simp only [Act.put, List.setIfInBounds_toArray, List.set_cons_zero, List.set_cons_succ]
    refine held_run 28 (some 6) (.assign (.tmp 40)) ?v5_1_30 (by rfl) (by kernel_rfl) (by kernel_rfl) (by kernel_rfl) (fun _ _ _ h => h) (fun o ho w hS => ?y5_1_30) (by assumption) ?r5_1_30
    case y5_1_30 => (try dsimp only at hS); unfold execOp; simp only [ho]; go_simp; try with_reducible rfl
    try simp only [Act.put, List.setIfInBounds_toArray, List.set_cons_zero, List.set_cons_succ]
    refine wpAnyH_done (by kernel_rfl) ?_ _
    go_wp2_with fail
    try go_ret
    exact ⟨rfl, HW6.out⟩


theorem own_censusLeaves : ownKnob Try.prog.godebug = none := by kernel_rfl
theorem laidOut_censusLeaves : laidOutB Try.prog = true := by kernel_rfl
set_option maxRecDepth 100000 in
theorem censusLeaves_lifted (os : Os) (started : os.Started) (H : Type) (enc : TypeId × Value → H) :
    ReturnsInHanded {} Try.checked os 5 .any (Rows.censusLeavesSpec.pre6 enc Try.prog Try.f5 Rows.censusLeavesRow.domain false) (Rows.censusLeavesSpec.post enc Try.prog Try.f5 false true false false) := by
  refine returnsInHanded_of_change (C := Try.checked) own_censusLeaves started (by kernel_rfl) Try.func5
    (ChangeSpec.witness6 (enc := enc) (C := Try.checked) false ⟨#[], #[.agg #[.slice none 0 0, .slice none 0 0, .slice none 0 0, .slice none 0 0], .slice none 0 0, .agg #[.int .i64 0, .int .i64 0]], []⟩ 8 (by kernel_rfl) (by kernel_rfl) (by kernel_rfl) (by kernel_rfl)) ?_
  intro W base args ds gs before hval0 hW hcnd _
  have hval : ∀ (j : Nat) t v, Try.f5.params[j]? = some t → args[j]? = some v → Value.okWide Try.prog W .any base t v := hval0
  have hW' := hW
  obtain ⟨p, q, hA0, hV, rfl, hfz, hnd⟩ := hW
  have hA : DataW.TrodAll enc Try.prog W 0 (fun _ => true) true Try.f5.params.toList args.toList ds p := hA0
  rw [Try.params5] at hA hval
  obtain ⟨v0, vs0, d0, ds0, p0, q0, hargs, rfl, rfl, h0, r0⟩ := trodAll_cons hA
  obtain ⟨v1, vs1, d1, ds1, p1, q1, rfl, rfl, rfl, h1, r1⟩ := trodAll_cons r0
  obtain ⟨v2, vs2, d2, ds2, p2, q2, rfl, rfl, rfl, h2, r2⟩ := trodAll_cons r1
  obtain ⟨rfl, rfl, rfl⟩ := trodAll_nil r2
  obtain rfl : args = #[v0, v1, v2] := by cases args; simp_all
  obtain ⟨rfl, rfl⟩ := trodVars_none hV
  obtain ⟨vn, vl, vr, vb, nd, lf, rs, bs, rfl, hnd, hlf, hrs, hbs⟩ := open_map (hval 0 44 v0 rfl rfl) h0
  obtain ⟨uuA, uun, uuc, uu, rfl, uu1, uu2, uur, uuw⟩ := open_ints_any Try.underlying42 Try.underlying3 (by kernel_rfl) (hval 1 42 v1 rfl rfl) h1
  obtain ⟨x0, x1, rfl, _, _⟩ := open_arr2 Try.underlying45 Try.underlying3 (by kernel_rfl) (by kernel_rfl) (hval 2 45 v2 rfl rfl) h2
  refine (censusLeaves_any W vn vl vr vb nd lf rs bs hnd hlf hrs hbs uuA uun uuc uu uu1 uu2 uur uuw x0 x1).mono fun e W' ⟨he, hb⟩ => ?_
  subst he
  exact ⟨_, rfl, law_post laidOut_censusLeaves (by kernel_rfl) rfl rfl Try.underlying4 hW' rfl hb⟩

theorem censusLeaves_holds : Rows.CensusLeavesSaid :=
  OpenClaim.holds_of_wide 5 Try.f5 rfl rfl rfl rfl rfl rfl rfl ⟨rfl, rfl, rfl, rfl, rfl⟩ rfl rfl rfl rfl rfl (by kernel_rfl) Try.func5 (by kernel_rfl)
    (of_decide_eq_true (by kernel_rfl)) (by unfold Func.isWrapper; rw [if_neg (by decide +kernel)]; exact ⟨rfl, rfl⟩)
    (fun os started H enc _ => censusLeaves_lifted os started H enc)
#print axioms censusLeaves_holds

end Go.Proofs.Ytihmboibpjfohaa
