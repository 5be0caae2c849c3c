/-
  BulletinLevels answers true for every input. Its conditions: none.
-/
import Derived.Test.YtmbdlnimegdigaaRows
import Derived.Test.YtmbdlnimegdigaaRowS
import Derived.Test.YtmbdlnimegdigaaBulG
import Derived.Test.YtmbdlnimegdigaaBulK
import Derived.Test.YtmbdlnimegdigaaBulV
import Derived.Test.YtmbdlnimegdigaaBulX
namespace Go.Proofs.Ytmbdlnimegdigaa
open Go.ChangeShapes Go.WideShapes Go.ChangeAt Go.RowKit

set_option maxRecDepth 100000 in
set_option maxHeartbeats 4000000 in
theorem bulletinLevels_any (w : World) (lA : Option Addr) (ln lc : Nat) (l : List Bu) (l1 : ln ≤ lc) (l2 : lc ≤ maxLen) (lr : Buls w w.heap.size lA ln l) (lw : ∀ b ∈ l, BuW b) (pz pl ph pt : Int) (wpz : (Lit.int .i64 pz).wf = true) (wpl : (Lit.int .i64 pl).wf = true) (wph : (Lit.int .i64 ph).wf = true) (wpt : (Lit.int .i64 pt).wf = true) :
    Calls Try.prog 5 #[.slice lA ln lc, .agg #[.int .i64 pz, .int .i64 pl, .int .i64 ph, .int .i64 pt]] w fun e w' => e = .returned (.bool true) ∧ Below w.heap.size w w' := by
  have HR0 := Lib.hid lr
  have HB0 : Hid (Below w.heap.size w w) := hide (Below.refl _ _)
  have HL := Lib.hid lr.len
  clear lr
  have hln : ln ≤ maxLen := Nat.le_trans l1 l2
  obtain ⟨r, hr⟩ : ∃ r, rightB l = r := ⟨_, rfl⟩
  have HF := Lib.hid hr
  clear hr lw
  obtain ⟨v1, hv1⟩ : ∃ v, curN l pt = v := ⟨_, rfl⟩
  obtain ⟨v2, hv2⟩ : ∃ v, levN l pz pl ph pt = v := ⟨_, rfl⟩
  obtain ⟨v3, hv3⟩ : ∃ v, worN l pt = v := ⟨_, rfl⟩
  have HC1 : Hid (∀ W : World, Buls W W.heap.size lA ln l → Calls Try.prog 17 #[.slice lA ln lc, .int .i64 pt] W fun e w' => e = .returned (.int .i64 v1) ∧ Below W.heap.size W w') := fun W hW => hv1 ▸ cur_any lA ln lc l pt W hW hln
  have HC2 : Hid (∀ W : World, Buls W W.heap.size lA ln l → Calls Try.prog 18 #[.slice lA ln lc, .int .i64 pt] W fun e w' => e = .returned (.int .i64 v1) ∧ Below W.heap.size W w') := fun W hW => hv1 ▸ rcur_any lA ln lc l pt W hW hln
  have HC3 : Hid (∀ W : World, Buls W W.heap.size lA ln l → Calls Try.prog 19 #[.slice lA ln lc, .agg #[.int .i64 pz, .int .i64 pl, .int .i64 ph, .int .i64 pt]] W fun e w' => e = .returned (.int .i64 v2) ∧ Below W.heap.size W w') := fun W hW => hv2 ▸ level_any lA ln lc l pz pl ph pt W hW hln
  have HC4 : Hid (∀ W : World, Buls W W.heap.size lA ln l → Calls Try.prog 20 #[.slice lA ln lc, .int .i64 pz, .int .i64 pl, .int .i64 ph, .int .i64 pt] W fun e w' => e = .returned (.int .i64 v2) ∧ Below W.heap.size W w') := fun W hW => hv2 ▸ rlvl_any lA ln lc l pz pl ph pt W hW hln
  have HC5 : Hid (∀ W : World, Buls W W.heap.size lA ln l → Calls Try.prog 21 #[.slice lA ln lc, .int .i64 pt] W fun e w' => e = .returned (.int .i64 v3) ∧ Below W.heap.size W w') := fun W hW => hv3 ▸ wor_any lA ln lc l pt W hW hln
  have HC6 : Hid (∀ W : World, Buls W W.heap.size lA ln l → Calls Try.prog 22 #[.slice lA ln lc, .int .i64 pt] W fun e w' => e = .returned (.int .i64 v3) ∧ Below W.heap.size W w') := fun W hW => hv3 ▸ rwor_any lA ln lc l pt W hW hln
  clear hv1 hv2 hv3
  go_enter Try.func5, Try.ntmps5
  obtain ⟨w0, rfl⟩ : ∃ w0 : World, w0 = w := ⟨_, rfl⟩
  go_wp2_with
    (refine wpList_box_blk rfl 37 (.tmp 1) rfl #[.int .i64 pz, .int .i64 pl, .int .i64 ph, .int .i64 pt] rfl ?_
     intro w1 hx1 hb1 hsz1
     have HP1 := Lib.hid hx1
     have HB1 := Lib.hid (HB0.out.trans (hb1.mono HB0.out.size))
     have HR1 := Lib.hid (HR0.out.now hb1)
     have hlt1 := hx1.lt
     clear hx1 hb1 hsz1)
  with_reducible refine (alive_any _).mono ?_
  rintro e w2 ⟨rfl, hb2⟩
  have HB2 := Lib.hid (HB1.out.trans (hb2.mono HB1.out.size))
  have HR2 := Lib.hid (HR1.out.now hb2)
  have HP2 := Lib.hid (HP1.out.below hb2 hlt1)
  have hlt2 := Nat.lt_of_lt_of_le hlt1 hb2.size
  clear hb2
  go_wp2_with fail
  have HR2d : Hid (Buls w2.drew w2.drew.heap.size lA ln l) := hide HR2.out
  have HP2d := Lib.hid HP2.out.drew
  have HB2d := Lib.hid HB2.out.drew
  cases r with
  | false =>
    refine wp_region_held_drew (S := fun W => Buls W W.heap.size lA ln l ∧ Blk W w0.heap.size 37 #[.int .i64 pz, .int .i64 pl, .int .i64 ph, .int .i64 pt] ∧ Below w0.heap.size w0 W ∧ W.cell? ⟨w0.heap.size, 0, none⟩ = some (.int .i64 pz) ∧ W.cell? ⟨w0.heap.size, 1, none⟩ = some (.int .i64 pl) ∧ W.cell? ⟨w0.heap.size, 2, none⟩ = some (.int .i64 ph) ∧ W.cell? ⟨w0.heap.size, 3, none⟩ = some (.int .i64 pt)) (by kernel_rfl) (⟨HR2d.out, HP2d.out, HB2d.out, HP2d.out.cell 0, HP2d.out.cell 1, HP2d.out.cell 2, HP2d.out.cell 3⟩) (fun hHeld => ?_)
    refine held_run 0 (some 7) (.move (.tmp 0)) ?v3_1_0 (by rfl) (by kernel_rfl) (by kernel_rfl) (by kernel_rfl) (fun _ _ _ h => h) (fun o ho w hS => ?y3_1_0) (by assumption) ?r3_1_0
    case y3_1_0 => (try dsimp only at hS); unfold execOp; simp only [ho]; go_simp; try with_reducible rfl
    try simp only [Act.put, List.setIfInBounds_toArray, List.set_cons_zero, List.set_cons_succ]
    refine held_call 1 (some 8) 13 [(.tmp 7)] #[22] #[.slice lA ln lc] (by rfl) (by rfl) (by kernel_rfl) Try.func13 (by rfl) (by rfl) ?_
    refine (rgt_any _ _ _ _ false _ HR2d.out HF.out).mono ?_
    rintro e w3 ⟨rfl, hb3⟩
    have HR3 := Lib.hid (HR2d.out.now hb3)
    have HP3 := Lib.hid (HP2d.out.below hb3 HP2d.out.lt)
    have HB3 := Lib.hid (HB2d.out.trans (hb3.mono HB2d.out.size))
    have hH3 : (fun W => Buls W W.heap.size lA ln l ∧ Blk W w0.heap.size 37 #[.int .i64 pz, .int .i64 pl, .int .i64 ph, .int .i64 pt] ∧ Below w0.heap.size w0 W ∧ W.cell? ⟨w0.heap.size, 0, none⟩ = some (.int .i64 pz) ∧ W.cell? ⟨w0.heap.size, 1, none⟩ = some (.int .i64 pl) ∧ W.cell? ⟨w0.heap.size, 2, none⟩ = some (.int .i64 ph) ∧ W.cell? ⟨w0.heap.size, 3, none⟩ = some (.int .i64 pt)) w3 := ⟨HR3.out, HP3.out, HB3.out, HP3.out.cell 0, HP3.out.cell 1, HP3.out.cell 2, HP3.out.cell 3⟩
    refine ⟨_, rfl, hH3, ?_⟩
    clear hb3
    try simp only [Act.put, List.setIfInBounds_toArray, List.set_cons_zero, List.set_cons_succ]
    refine held_run 2 (some 9) (.unOp .not 4 (.tmp 8)) ?v3_1_2 (by rfl) (by kernel_rfl) (by kernel_rfl) (by kernel_rfl) (fun _ _ _ h => h) (fun o ho w hS => ?y3_1_2) (by assumption) ?r3_1_2
    case y3_1_2 => (try dsimp only at hS); unfold execOp; simp only [ho]; go_simp; try with_reducible rfl
    try simp only [Act.put, List.setIfInBounds_toArray, List.set_cons_zero, List.set_cons_succ]
    refine held_run 3 (some 10) (.move (.tmp 9)) ?v3_1_3 (by rfl) (by kernel_rfl) (by kernel_rfl) (by kernel_rfl) (fun _ _ _ h => h) (fun o ho w hS => ?y3_1_3) (by assumption) ?r3_1_3
    case y3_1_3 => (try dsimp only at hS); unfold execOp; simp only [ho]; go_simp; try with_reducible rfl
    try simp only [Act.put, List.setIfInBounds_toArray, List.set_cons_zero, List.set_cons_succ]
    refine held_skip 4 (some 11) (by rfl) (by kernel_rfl) (by kernel_rfl) (by kernel_rfl) (fun _ _ _ h => h) (by assumption) ?_
    try simp only [Act.put, List.setIfInBounds_toArray, List.set_cons_zero, List.set_cons_succ]
    refine held_skip 5 (some 12) (by rfl) (by kernel_rfl) (by kernel_rfl) (by kernel_rfl) (fun _ _ _ h => h) (by assumption) ?_
    try simp only [Act.put, List.setIfInBounds_toArray, List.set_cons_zero, List.set_cons_succ]
    refine held_skip 6 (some 13) (by rfl) (by kernel_rfl) (by kernel_rfl) (by kernel_rfl) (fun _ _ _ h => h) (by assumption) ?_
    try simp only [Act.put, List.setIfInBounds_toArray, List.set_cons_zero, List.set_cons_succ]
    refine held_skip 7 (some 14) (by rfl) (by kernel_rfl) (by kernel_rfl) (by kernel_rfl) (fun _ _ _ h => h) (by assumption) ?_
    try simp only [Act.put, List.setIfInBounds_toArray, List.set_cons_zero, List.set_cons_succ]
    refine held_skip 8 (some 15) (by rfl) (by kernel_rfl) (by kernel_rfl) (by kernel_rfl) (fun _ _ _ h => h) (by assumption) ?_
    try simp only [Act.put, List.setIfInBounds_toArray, List.set_cons_zero, List.set_cons_succ]
    refine held_skip 9 (some 16) (by rfl) (by kernel_rfl) (by kernel_rfl) (by kernel_rfl) (fun _ _ _ h => h) (by assumption) ?_
    try simp only [Act.put, List.setIfInBounds_toArray, List.set_cons_zero, List.set_cons_succ]
    refine held_skip 10 (some 17) (by rfl) (by kernel_rfl) (by kernel_rfl) (by kernel_rfl) (fun _ _ _ h => h) (by assumption) ?_
    try simp only [Act.put, List.setIfInBounds_toArray, List.set_cons_zero, List.set_cons_succ]
    refine held_skip 11 (some 18) (by rfl) (by kernel_rfl) (by kernel_rfl) (by kernel_rfl) (fun _ _ _ h => h) (by assumption) ?_
    try simp only [Act.put, List.setIfInBounds_toArray, List.set_cons_zero, List.set_cons_succ]
    refine held_skip 12 (some 19) (by rfl) (by kernel_rfl) (by kernel_rfl) (by kernel_rfl) (fun _ _ _ h => h) (by assumption) ?_
    try simp only [Act.put, List.setIfInBounds_toArray, List.set_cons_zero, List.set_cons_succ]
    refine held_skip 13 (some 20) (by rfl) (by kernel_rfl) (by kernel_rfl) (by kernel_rfl) (fun _ _ _ h => h) (by assumption) ?_
    try simp only [Act.put, List.setIfInBounds_toArray, List.set_cons_zero, List.set_cons_succ]
    refine held_skip 14 (some 21) (by rfl) (by kernel_rfl) (by kernel_rfl) (by kernel_rfl) (fun _ _ _ h => h) (by assumption) ?_
    try simp only [Act.put, List.setIfInBounds_toArray, List.set_cons_zero, List.set_cons_succ]
    refine held_skip 15 (some 22) (by rfl) (by kernel_rfl) (by kernel_rfl) (by kernel_rfl) (fun _ _ _ h => h) (by assumption) ?_
    try simp only [Act.put, List.setIfInBounds_toArray, List.set_cons_zero, List.set_cons_succ]
    refine held_skip 16 (some 23) (by rfl) (by kernel_rfl) (by kernel_rfl) (by kernel_rfl) (fun _ _ _ h => h) (by assumption) ?_
    try simp only [Act.put, List.setIfInBounds_toArray, List.set_cons_zero, List.set_cons_succ]
    refine held_skip 17 (some 24) (by rfl) (by kernel_rfl) (by kernel_rfl) (by kernel_rfl) (fun _ _ _ h => h) (by assumption) ?_
    try simp only [Act.put, List.setIfInBounds_toArray, List.set_cons_zero, List.set_cons_succ]
    refine held_skip 18 (some 25) (by rfl) (by kernel_rfl) (by kernel_rfl) (by kernel_rfl) (fun _ _ _ h => h) (by assumption) ?_
    try simp only [Act.put, List.setIfInBounds_toArray, List.set_cons_zero, List.set_cons_succ]
    refine held_skip 19 (some 26) (by rfl) (by kernel_rfl) (by kernel_rfl) (by kernel_rfl) (fun _ _ _ h => h) (by assumption) ?_
    try simp only [Act.put, List.setIfInBounds_toArray, List.set_cons_zero, List.set_cons_succ]
    refine held_skip 20 (some 27) (by rfl) (by kernel_rfl) (by kernel_rfl) (by kernel_rfl) (fun _ _ _ h => h) (by assumption) ?_
    try simp only [Act.put, List.setIfInBounds_toArray, List.set_cons_zero, List.set_cons_succ]
    refine held_skip 21 (some 28) (by rfl) (by kernel_rfl) (by kernel_rfl) (by kernel_rfl) (fun _ _ _ h => h) (by assumption) ?_
    try simp only [Act.put, List.setIfInBounds_toArray, List.set_cons_zero, List.set_cons_succ]
    refine held_skip 22 (some 29) (by rfl) (by kernel_rfl) (by kernel_rfl) (by kernel_rfl) (fun _ _ _ h => h) (by assumption) ?_
    try simp only [Act.put, List.setIfInBounds_toArray, List.set_cons_zero, List.set_cons_succ]
    refine held_skip 23 (some 30) (by rfl) (by kernel_rfl) (by kernel_rfl) (by kernel_rfl) (fun _ _ _ h => h) (by assumption) ?_
    try simp only [Act.put, List.setIfInBounds_toArray, List.set_cons_zero, List.set_cons_succ]
    refine held_skip 24 (some 31) (by rfl) (by kernel_rfl) (by kernel_rfl) (by kernel_rfl) (fun _ _ _ h => h) (by assumption) ?_
    try simp only [Act.put, List.setIfInBounds_toArray, List.set_cons_zero, List.set_cons_succ]
    refine held_skip 25 (some 32) (by rfl) (by kernel_rfl) (by kernel_rfl) (by kernel_rfl) (fun _ _ _ h => h) (by assumption) ?_
    try simp only [Act.put, List.setIfInBounds_toArray, List.set_cons_zero, List.set_cons_succ]
    refine held_skip 26 (some 33) (by rfl) (by kernel_rfl) (by kernel_rfl) (by kernel_rfl) (fun _ _ _ h => h) (by assumption) ?_
    try simp only [Act.put, List.setIfInBounds_toArray, List.set_cons_zero, List.set_cons_succ]
    refine held_skip 27 (some 34) (by rfl) (by kernel_rfl) (by kernel_rfl) (by kernel_rfl) (fun _ _ _ h => h) (by assumption) ?_
    try simp only [Act.put, List.setIfInBounds_toArray, List.set_cons_zero, List.set_cons_succ]
    refine held_skip 28 (some 35) (by rfl) (by kernel_rfl) (by kernel_rfl) (by kernel_rfl) (fun _ _ _ h => h) (by assumption) ?_
    try simp only [Act.put, List.setIfInBounds_toArray, List.set_cons_zero, List.set_cons_succ]
    refine held_skip 29 (some 36) (by rfl) (by kernel_rfl) (by kernel_rfl) (by kernel_rfl) (fun _ _ _ h => h) (by assumption) ?_
    try simp only [Act.put, List.setIfInBounds_toArray, List.set_cons_zero, List.set_cons_succ]
    refine held_skip 30 (some 37) (by rfl) (by kernel_rfl) (by kernel_rfl) (by kernel_rfl) (fun _ _ _ h => h) (by assumption) ?_
    try simp only [Act.put, List.setIfInBounds_toArray, List.set_cons_zero, List.set_cons_succ]
    refine held_skip 31 (some 38) (by rfl) (by kernel_rfl) (by kernel_rfl) (by kernel_rfl) (fun _ _ _ h => h) (by assumption) ?_
    try simp only [Act.put, List.setIfInBounds_toArray, List.set_cons_zero, List.set_cons_succ]
    refine held_skip 32 (some 39) (by rfl) (by kernel_rfl) (by kernel_rfl) (by kernel_rfl) (fun _ _ _ h => h) (by assumption) ?_
    try simp only [Act.put, List.setIfInBounds_toArray, List.set_cons_zero, List.set_cons_succ]
    refine held_skip 33 (some 40) (by rfl) (by kernel_rfl) (by kernel_rfl) (by kernel_rfl) (fun _ _ _ h => h) (by assumption) ?_
    try simp only [Act.put, List.setIfInBounds_toArray, List.set_cons_zero, List.set_cons_succ]
    refine held_skip 34 (some 41) (by rfl) (by kernel_rfl) (by kernel_rfl) (by kernel_rfl) (fun _ _ _ h => h) (by assumption) ?_
    try simp only [Act.put, List.setIfInBounds_toArray, List.set_cons_zero, List.set_cons_succ]
    refine held_skip 35 (some 42) (by rfl) (by kernel_rfl) (by kernel_rfl) (by kernel_rfl) (fun _ _ _ h => h) (by assumption) ?_
    try simp only [Act.put, List.setIfInBounds_toArray, List.set_cons_zero, List.set_cons_succ]
    refine held_skip 36 (some 43) (by rfl) (by kernel_rfl) (by kernel_rfl) (by kernel_rfl) (fun _ _ _ h => h) (by assumption) ?_
    try simp only [Act.put, List.setIfInBounds_toArray, List.set_cons_zero, List.set_cons_succ]
    refine held_skip 37 (some 44) (by rfl) (by kernel_rfl) (by kernel_rfl) (by kernel_rfl) (fun _ _ _ h => h) (by assumption) ?_
    try simp only [Act.put, List.setIfInBounds_toArray, List.set_cons_zero, List.set_cons_succ]
    refine held_skip 38 (some 45) (by rfl) (by kernel_rfl) (by kernel_rfl) (by kernel_rfl) (fun _ _ _ h => h) (by assumption) ?_
    try simp only [Act.put, List.setIfInBounds_toArray, List.set_cons_zero, List.set_cons_succ]
    refine held_skip 39 (some 46) (by rfl) (by kernel_rfl) (by kernel_rfl) (by kernel_rfl) (fun _ _ _ h => h) (by assumption) ?_
    try simp only [Act.put, List.setIfInBounds_toArray, List.set_cons_zero, List.set_cons_succ]
    refine held_run 40 (some 47) (.pick (.tmp 10) (.const (Value.bool true)) (.tmp 46)) ?v3_1_40 (by rfl) (by kernel_rfl) (by kernel_rfl) (by kernel_rfl) (fun _ _ _ h => h) (fun o ho w hS => ?y3_1_40) (by assumption) ?r3_1_40
    case y3_1_40 => (try dsimp only at hS); unfold execOp; simp only [ho]; go_simp; try with_reducible rfl
    try simp only [Act.put, List.setIfInBounds_toArray, List.set_cons_zero, List.set_cons_succ]
    refine held_run 41 (some 4) (.assign (.tmp 47)) ?v3_1_41 (by rfl) (by kernel_rfl) (by kernel_rfl) (by kernel_rfl) (fun _ _ _ h => h) (fun o ho w hS => ?y3_1_41) (by assumption) ?r3_1_41
    case y3_1_41 => (try dsimp only at hS); unfold execOp; simp only [ho]; go_simp; try with_reducible rfl
    try simp only [Act.put, List.setIfInBounds_toArray, List.set_cons_zero, List.set_cons_succ]
    refine wpAnyH_done (by kernel_rfl) ?_ _
    go_wp2_with fail
    go_ret
    exact ⟨rfl, HB3.out⟩
  | true =>
    have e1 : (v1 == v1) = true := beq_self_eq_true v1
    have e2 : (v2 == v2) = true := beq_self_eq_true v2
    have e3 : (v3 == v3) = true := beq_self_eq_true v3
    refine wp_region_held_drew (S := fun W => Buls W W.heap.size lA ln l ∧ Blk W w0.heap.size 37 #[.int .i64 pz, .int .i64 pl, .int .i64 ph, .int .i64 pt] ∧ Below w0.heap.size w0 W ∧ W.cell? ⟨w0.heap.size, 0, none⟩ = some (.int .i64 pz) ∧ W.cell? ⟨w0.heap.size, 1, none⟩ = some (.int .i64 pl) ∧ W.cell? ⟨w0.heap.size, 2, none⟩ = some (.int .i64 ph) ∧ W.cell? ⟨w0.heap.size, 3, none⟩ = some (.int .i64 pt)) (by kernel_rfl) (⟨HR2d.out, HP2d.out, HB2d.out, HP2d.out.cell 0, HP2d.out.cell 1, HP2d.out.cell 2, HP2d.out.cell 3⟩) (fun hHeld => ?_)
    refine held_run 0 (some 7) (.move (.tmp 0)) ?v3_2_0 (by rfl) (by kernel_rfl) (by kernel_rfl) (by kernel_rfl) (fun _ _ _ h => h) (fun o ho w hS => ?y3_2_0) (by assumption) ?r3_2_0
    case y3_2_0 => (try dsimp only at hS); unfold execOp; simp only [ho]; go_simp; try with_reducible rfl
    try simp only [Act.put, List.setIfInBounds_toArray, List.set_cons_zero, List.set_cons_succ]
    refine held_call 1 (some 8) 13 [(.tmp 7)] #[22] #[.slice lA ln lc] (by rfl) (by rfl) (by kernel_rfl) Try.func13 (by rfl) (by rfl) ?_
    refine (rgt_any _ _ _ _ true _ HR2d.out HF.out).mono ?_
    rintro e w3 ⟨rfl, hb3⟩
    have HR3 := Lib.hid (HR2d.out.now hb3)
    have HP3 := Lib.hid (HP2d.out.below hb3 HP2d.out.lt)
    have HB3 := Lib.hid (HB2d.out.trans (hb3.mono HB2d.out.size))
    have hH3 : (fun W => Buls W W.heap.size lA ln l ∧ Blk W w0.heap.size 37 #[.int .i64 pz, .int .i64 pl, .int .i64 ph, .int .i64 pt] ∧ Below w0.heap.size w0 W ∧ W.cell? ⟨w0.heap.size, 0, none⟩ = some (.int .i64 pz) ∧ W.cell? ⟨w0.heap.size, 1, none⟩ = some (.int .i64 pl) ∧ W.cell? ⟨w0.heap.size, 2, none⟩ = some (.int .i64 ph) ∧ W.cell? ⟨w0.heap.size, 3, none⟩ = some (.int .i64 pt)) w3 := ⟨HR3.out, HP3.out, HB3.out, HP3.out.cell 0, HP3.out.cell 1, HP3.out.cell 2, HP3.out.cell 3⟩
    refine ⟨_, rfl, hH3, ?_⟩
    clear hb3
    try simp only [Act.put, List.setIfInBounds_toArray, List.set_cons_zero, List.set_cons_succ]
    refine held_run 2 (some 9) (.unOp .not 4 (.tmp 8)) ?v3_2_2 (by rfl) (by kernel_rfl) (by kernel_rfl) (by kernel_rfl) (fun _ _ _ h => h) (fun o ho w hS => ?y3_2_2) (by assumption) ?r3_2_2
    case y3_2_2 => (try dsimp only at hS); unfold execOp; simp only [ho]; go_simp; try with_reducible rfl
    try simp only [Act.put, List.setIfInBounds_toArray, List.set_cons_zero, List.set_cons_succ]
    refine held_run 3 (some 10) (.move (.tmp 9)) ?v3_2_3 (by rfl) (by kernel_rfl) (by kernel_rfl) (by kernel_rfl) (fun _ _ _ h => h) (fun o ho w hS => ?y3_2_3) (by assumption) ?r3_2_3
    case y3_2_3 => (try dsimp only at hS); unfold execOp; simp only [ho]; go_simp; try with_reducible rfl
    try simp only [Act.put, List.setIfInBounds_toArray, List.set_cons_zero, List.set_cons_succ]
    refine held_run 4 (some 11) (.move (.tmp 0)) ?v3_2_4 (by rfl) (by kernel_rfl) (by kernel_rfl) (by kernel_rfl) (fun _ _ _ h => h) (fun o ho w hS => ?y3_2_4) (by assumption) ?r3_2_4
    case y3_2_4 => (try dsimp only at hS); unfold execOp; simp only [ho]; go_simp; try with_reducible rfl
    try simp only [Act.put, List.setIfInBounds_toArray, List.set_cons_zero, List.set_cons_succ]
    refine held_run 5 (some 12) (.fieldAddr 37 (.tmp 3) 3) ?v3_2_5 (by rfl) (by kernel_rfl) (by kernel_rfl) (by kernel_rfl) (fun _ _ _ h => h) (fun o ho w hS => ?y3_2_5) (by assumption) ?r3_2_5
    case y3_2_5 => (try dsimp only at hS); unfold execOp; simp only [ho]; go_simp; try with_reducible rfl
    try simp only [Act.put, List.setIfInBounds_toArray, List.set_cons_zero, List.set_cons_succ]
    refine held_run 6 (some 13) (.load 3 (.tmp 12)) ?v3_2_6 (by rfl) (by kernel_rfl) (by kernel_rfl) (by kernel_rfl) (fun _ _ _ h => h) (fun o ho w hS => ?y3_2_6) (by assumption) ?r3_2_6
    case y3_2_6 => (try dsimp only at hS); unfold execOp; simp only [ho]; go_simp; try with_reducible rfl
    try simp only [Act.put, List.setIfInBounds_toArray, List.set_cons_zero, List.set_cons_succ]
    refine held_run 8 (some 15) (.move (.tmp 0)) ?v3_2_8 (by rfl) (by kernel_rfl) (by kernel_rfl) (by kernel_rfl) (fun _ _ _ h => h) (fun o ho w hS => ?y3_2_8) (by assumption) ?r3_2_8
    case y3_2_8 => (try dsimp only at hS); unfold execOp; simp only [ho]; go_simp; try with_reducible rfl
    try simp only [Act.put, List.setIfInBounds_toArray, List.set_cons_zero, List.set_cons_succ]
    refine held_run 9 (some 16) (.fieldAddr 37 (.tmp 3) 3) ?v3_2_9 (by rfl) (by kernel_rfl) (by kernel_rfl) (by kernel_rfl) (fun _ _ _ h => h) (fun o ho w hS => ?y3_2_9) (by assumption) ?r3_2_9
    case y3_2_9 => (try dsimp only at hS); unfold execOp; simp only [ho]; go_simp; try with_reducible rfl
    try simp only [Act.put, List.setIfInBounds_toArray, List.set_cons_zero, List.set_cons_succ]
    refine held_run 10 (some 17) (.load 3 (.tmp 16)) ?v3_2_10 (by rfl) (by kernel_rfl) (by kernel_rfl) (by kernel_rfl) (fun _ _ _ h => h) (fun o ho w hS => ?y3_2_10) (by assumption) ?r3_2_10
    case y3_2_10 => (try dsimp only at hS); unfold execOp; simp only [ho]; go_simp; try with_reducible rfl
    try simp only [Act.put, List.setIfInBounds_toArray, List.set_cons_zero, List.set_cons_succ]
    refine held_call 7 (some 14) 17 [(.tmp 11), (.tmp 13)] #[22, 3] #[.slice lA ln lc, .int .i64 pt] (by rfl) (by rfl) (by kernel_rfl) Try.func17 (by rfl) (by rfl) ?_
    refine (HC1.out _ HR3.out).mono ?_
    rintro e w4 ⟨rfl, hb4⟩
    have HR4 := Lib.hid (HR3.out.now hb4)
    have HP4 := Lib.hid (HP3.out.below hb4 HP3.out.lt)
    have HB4 := Lib.hid (HB3.out.trans (hb4.mono HB3.out.size))
    have hH4 : (fun W => Buls W W.heap.size lA ln l ∧ Blk W w0.heap.size 37 #[.int .i64 pz, .int .i64 pl, .int .i64 ph, .int .i64 pt] ∧ Below w0.heap.size w0 W ∧ W.cell? ⟨w0.heap.size, 0, none⟩ = some (.int .i64 pz) ∧ W.cell? ⟨w0.heap.size, 1, none⟩ = some (.int .i64 pl) ∧ W.cell? ⟨w0.heap.size, 2, none⟩ = some (.int .i64 ph) ∧ W.cell? ⟨w0.heap.size, 3, none⟩ = some (.int .i64 pt)) w4 := ⟨HR4.out, HP4.out, HB4.out, HP4.out.cell 0, HP4.out.cell 1, HP4.out.cell 2, HP4.out.cell 3⟩
    refine ⟨_, rfl, hH4, ?_⟩
    clear hb4
    try simp only [Act.put, List.setIfInBounds_toArray, List.set_cons_zero, List.set_cons_succ]
    refine held_call 11 (some 18) 18 [(.tmp 15), (.tmp 17)] #[22, 3] #[.slice lA ln lc, .int .i64 pt] (by rfl) (by rfl) (by kernel_rfl) Try.func18 (by rfl) (by rfl) ?_
    refine (HC2.out _ HR4.out).mono ?_
    rintro e w5 ⟨rfl, hb5⟩
    have HR5 := Lib.hid (HR4.out.now hb5)
    have HP5 := Lib.hid (HP4.out.below hb5 HP4.out.lt)
    have HB5 := Lib.hid (HB4.out.trans (hb5.mono HB4.out.size))
    have hH5 : (fun W => Buls W W.heap.size lA ln l ∧ Blk W w0.heap.size 37 #[.int .i64 pz, .int .i64 pl, .int .i64 ph, .int .i64 pt] ∧ Below w0.heap.size w0 W ∧ W.cell? ⟨w0.heap.size, 0, none⟩ = some (.int .i64 pz) ∧ W.cell? ⟨w0.heap.size, 1, none⟩ = some (.int .i64 pl) ∧ W.cell? ⟨w0.heap.size, 2, none⟩ = some (.int .i64 ph) ∧ W.cell? ⟨w0.heap.size, 3, none⟩ = some (.int .i64 pt)) w5 := ⟨HR5.out, HP5.out, HB5.out, HP5.out.cell 0, HP5.out.cell 1, HP5.out.cell 2, HP5.out.cell 3⟩
    refine ⟨_, rfl, hH5, ?_⟩
    clear hb5
    try simp only [Act.put, List.setIfInBounds_toArray, List.set_cons_zero, List.set_cons_succ]
    refine held_run 12 (some 19) (.binOp .eql 3 (.tmp 14) (.tmp 18) 3) ?v3_2_12 (by rfl) (by kernel_rfl) (by kernel_rfl) (by kernel_rfl) (fun _ _ _ h => h) (fun o ho w hS => ?y3_2_12) (by assumption) ?r3_2_12
    case y3_2_12 => (try dsimp only at hS); unfold execOp; simp only [ho]; go_simp; try with_reducible rfl
    try simp only [Act.put, List.setIfInBounds_toArray, List.set_cons_zero, List.set_cons_succ]
    refine held_run 13 (some 20) (.move (.tmp 19)) ?v3_2_13 (by rfl) (by kernel_rfl) (by kernel_rfl) (by kernel_rfl) (fun _ _ _ h => h) (fun o ho w hS => ?y3_2_13) (by assumption) ?r3_2_13
    case y3_2_13 => (try dsimp only at hS); unfold execOp; simp only [ho]; go_simp; try with_reducible rfl
    try simp only [Act.put, List.setIfInBounds_toArray, List.set_cons_zero, List.set_cons_succ]
    refine held_run 14 (some 21) (.move (.tmp 0)) ?v3_2_14 (by rfl) (by kernel_rfl) (by kernel_rfl) (by kernel_rfl) (fun _ _ _ h => h) (fun o ho w hS => ?y3_2_14) (by assumption) ?r3_2_14
    case y3_2_14 => (try dsimp only at hS); unfold execOp; simp only [ho]; go_simp; try with_reducible rfl
    try simp only [Act.put, List.setIfInBounds_toArray, List.set_cons_zero, List.set_cons_succ]
    refine held_load 15 (some 22) 37 (.tmp 3) (by rfl) (by kernel_rfl) (by kernel_rfl) (by kernel_rfl) (w0.heap.size) 37 #[.int .i64 pz, .int .i64 pl, .int .i64 ph, .int .i64 pt] (fun _ _ _ h => h) (by rfl) (fun _ h => h.2.1) _ Try.underlying37 rfl (by kernel_rfl) (by assumption) ?_
    try simp only [Act.put, List.setIfInBounds_toArray, List.set_cons_zero, List.set_cons_succ]
    refine held_run 17 (some 24) (.move (.tmp 0)) ?v3_2_17 (by rfl) (by kernel_rfl) (by kernel_rfl) (by kernel_rfl) (fun _ _ _ h => h) (fun o ho w hS => ?y3_2_17) (by assumption) ?r3_2_17
    case y3_2_17 => (try dsimp only at hS); unfold execOp; simp only [ho]; go_simp; try with_reducible rfl
    try simp only [Act.put, List.setIfInBounds_toArray, List.set_cons_zero, List.set_cons_succ]
    refine held_run 18 (some 25) (.fieldAddr 37 (.tmp 3) 0) ?v3_2_18 (by rfl) (by kernel_rfl) (by kernel_rfl) (by kernel_rfl) (fun _ _ _ h => h) (fun o ho w hS => ?y3_2_18) (by assumption) ?r3_2_18
    case y3_2_18 => (try dsimp only at hS); unfold execOp; simp only [ho]; go_simp; try with_reducible rfl
    try simp only [Act.put, List.setIfInBounds_toArray, List.set_cons_zero, List.set_cons_succ]
    refine held_run 19 (some 26) (.load 3 (.tmp 25)) ?v3_2_19 (by rfl) (by kernel_rfl) (by kernel_rfl) (by kernel_rfl) (fun _ _ _ h => h) (fun o ho w hS => ?y3_2_19) (by assumption) ?r3_2_19
    case y3_2_19 => (try dsimp only at hS); unfold execOp; simp only [ho]; go_simp; try with_reducible rfl
    try simp only [Act.put, List.setIfInBounds_toArray, List.set_cons_zero, List.set_cons_succ]
    refine held_run 20 (some 27) (.fieldAddr 37 (.tmp 3) 1) ?v3_2_20 (by rfl) (by kernel_rfl) (by kernel_rfl) (by kernel_rfl) (fun _ _ _ h => h) (fun o ho w hS => ?y3_2_20) (by assumption) ?r3_2_20
    case y3_2_20 => (try dsimp only at hS); unfold execOp; simp only [ho]; go_simp; try with_reducible rfl
    try simp only [Act.put, List.setIfInBounds_toArray, List.set_cons_zero, List.set_cons_succ]
    refine held_run 21 (some 28) (.load 3 (.tmp 27)) ?v3_2_21 (by rfl) (by kernel_rfl) (by kernel_rfl) (by kernel_rfl) (fun _ _ _ h => h) (fun o ho w hS => ?y3_2_21) (by assumption) ?r3_2_21
    case y3_2_21 => (try dsimp only at hS); unfold execOp; simp only [ho]; go_simp; try with_reducible rfl
    try simp only [Act.put, List.setIfInBounds_toArray, List.set_cons_zero, List.set_cons_succ]
    refine held_run 22 (some 29) (.fieldAddr 37 (.tmp 3) 2) ?v3_2_22 (by rfl) (by kernel_rfl) (by kernel_rfl) (by kernel_rfl) (fun _ _ _ h => h) (fun o ho w hS => ?y3_2_22) (by assumption) ?r3_2_22
    case y3_2_22 => (try dsimp only at hS); unfold execOp; simp only [ho]; go_simp; try with_reducible rfl
    try simp only [Act.put, List.setIfInBounds_toArray, List.set_cons_zero, List.set_cons_succ]
    refine held_run 23 (some 30) (.load 3 (.tmp 29)) ?v3_2_23 (by rfl) (by kernel_rfl) (by kernel_rfl) (by kernel_rfl) (fun _ _ _ h => h) (fun o ho w hS => ?y3_2_23) (by assumption) ?r3_2_23
    case y3_2_23 => (try dsimp only at hS); unfold execOp; simp only [ho]; go_simp; try with_reducible rfl
    try simp only [Act.put, List.setIfInBounds_toArray, List.set_cons_zero, List.set_cons_succ]
    refine held_run 24 (some 31) (.fieldAddr 37 (.tmp 3) 3) ?v3_2_24 (by rfl) (by kernel_rfl) (by kernel_rfl) (by kernel_rfl) (fun _ _ _ h => h) (fun o ho w hS => ?y3_2_24) (by assumption) ?r3_2_24
    case y3_2_24 => (try dsimp only at hS); unfold execOp; simp only [ho]; go_simp; try with_reducible rfl
    try simp only [Act.put, List.setIfInBounds_toArray, List.set_cons_zero, List.set_cons_succ]
    refine held_run 25 (some 32) (.load 3 (.tmp 31)) ?v3_2_25 (by rfl) (by kernel_rfl) (by kernel_rfl) (by kernel_rfl) (fun _ _ _ h => h) (fun o ho w hS => ?y3_2_25) (by assumption) ?r3_2_25
    case y3_2_25 => (try dsimp only at hS); unfold execOp; simp only [ho]; go_simp; try with_reducible rfl
    try simp only [Act.put, List.setIfInBounds_toArray, List.set_cons_zero, List.set_cons_succ]
    refine held_call 16 (some 23) 19 [(.tmp 21), (.tmp 22)] #[22, 37] #[.slice lA ln lc, .agg #[.int .i64 pz, .int .i64 pl, .int .i64 ph, .int .i64 pt]] (by rfl) (by rfl) (by kernel_rfl) Try.func19 (by rfl) (by rfl) ?_
    refine (HC3.out _ HR5.out).mono ?_
    rintro e w6 ⟨rfl, hb6⟩
    have HR6 := Lib.hid (HR5.out.now hb6)
    have HP6 := Lib.hid (HP5.out.below hb6 HP5.out.lt)
    have HB6 := Lib.hid (HB5.out.trans (hb6.mono HB5.out.size))
    have hH6 : (fun W => Buls W W.heap.size lA ln l ∧ Blk W w0.heap.size 37 #[.int .i64 pz, .int .i64 pl, .int .i64 ph, .int .i64 pt] ∧ Below w0.heap.size w0 W ∧ W.cell? ⟨w0.heap.size, 0, none⟩ = some (.int .i64 pz) ∧ W.cell? ⟨w0.heap.size, 1, none⟩ = some (.int .i64 pl) ∧ W.cell? ⟨w0.heap.size, 2, none⟩ = some (.int .i64 ph) ∧ W.cell? ⟨w0.heap.size, 3, none⟩ = some (.int .i64 pt)) w6 := ⟨HR6.out, HP6.out, HB6.out, HP6.out.cell 0, HP6.out.cell 1, HP6.out.cell 2, HP6.out.cell 3⟩
    refine ⟨_, rfl, hH6, ?_⟩
    clear hb6
    try simp only [Act.put, List.setIfInBounds_toArray, List.set_cons_zero, List.set_cons_succ]
    refine held_call 26 (some 33) 20 [(.tmp 24), (.tmp 26), (.tmp 28), (.tmp 30), (.tmp 32)] #[22, 3, 3, 3, 3] #[.slice lA ln lc, .int .i64 pz, .int .i64 pl, .int .i64 ph, .int .i64 pt] (by rfl) (by rfl) (by kernel_rfl) Try.func20 (by rfl) (by rfl) ?_
    refine (HC4.out _ HR6.out).mono ?_
    rintro e w7 ⟨rfl, hb7⟩
    have HR7 := Lib.hid (HR6.out.now hb7)
    have HP7 := Lib.hid (HP6.out.below hb7 HP6.out.lt)
    have HB7 := Lib.hid (HB6.out.trans (hb7.mono HB6.out.size))
    have hH7 : (fun W => Buls W W.heap.size lA ln l ∧ Blk W w0.heap.size 37 #[.int .i64 pz, .int .i64 pl, .int .i64 ph, .int .i64 pt] ∧ Below w0.heap.size w0 W ∧ W.cell? ⟨w0.heap.size, 0, none⟩ = some (.int .i64 pz) ∧ W.cell? ⟨w0.heap.size, 1, none⟩ = some (.int .i64 pl) ∧ W.cell? ⟨w0.heap.size, 2, none⟩ = some (.int .i64 ph) ∧ W.cell? ⟨w0.heap.size, 3, none⟩ = some (.int .i64 pt)) w7 := ⟨HR7.out, HP7.out, HB7.out, HP7.out.cell 0, HP7.out.cell 1, HP7.out.cell 2, HP7.out.cell 3⟩
    refine ⟨_, rfl, hH7, ?_⟩
    clear hb7
    try simp only [Act.put, List.setIfInBounds_toArray, List.set_cons_zero, List.set_cons_succ]
    refine held_run 27 (some 34) (.binOp .eql 3 (.tmp 23) (.tmp 33) 3) ?v3_2_27 (by rfl) (by kernel_rfl) (by kernel_rfl) (by kernel_rfl) (fun _ _ _ h => h) (fun o ho w hS => ?y3_2_27) (by assumption) ?r3_2_27
    case y3_2_27 => (try dsimp only at hS); unfold execOp; simp only [ho]; go_simp; try with_reducible rfl
    try simp only [Act.put, List.setIfInBounds_toArray, List.set_cons_zero, List.set_cons_succ]
    refine held_run 28 (some 35) (.pick (.tmp 20) (.tmp 34) (.const (Value.bool false))) ?v3_2_28 (by rfl) (by kernel_rfl) (by kernel_rfl) (by kernel_rfl) (fun _ _ _ h => h) (fun o ho w hS => ?y3_2_28) (by assumption) ?r3_2_28
    case y3_2_28 => (try dsimp only at hS); unfold execOp; simp only [ho]; go_simp; try with_reducible rfl
    try simp only [Act.put, List.setIfInBounds_toArray, List.set_cons_zero, List.set_cons_succ]
    refine held_run 29 (some 36) (.move (.tmp 35)) ?v3_2_29 (by rfl) (by kernel_rfl) (by kernel_rfl) (by kernel_rfl) (fun _ _ _ h => h) (fun o ho w hS => ?y3_2_29) (by assumption) ?r3_2_29
    case y3_2_29 => (try dsimp only at hS); unfold execOp; simp only [ho]; go_simp; try with_reducible rfl
    try simp only [Act.put, List.setIfInBounds_toArray, List.set_cons_zero, List.set_cons_succ]
    refine held_run 30 (some 37) (.move (.tmp 0)) ?v3_2_30 (by rfl) (by kernel_rfl) (by kernel_rfl) (by kernel_rfl) (fun _ _ _ h => h) (fun o ho w hS => ?y3_2_30) (by assumption) ?r3_2_30
    case y3_2_30 => (try dsimp only at hS); unfold execOp; simp only [ho]; go_simp; try with_reducible rfl
    try simp only [Act.put, List.setIfInBounds_toArray, List.set_cons_zero, List.set_cons_succ]
    refine held_run 31 (some 38) (.fieldAddr 37 (.tmp 3) 3) ?v3_2_31 (by rfl) (by kernel_rfl) (by kernel_rfl) (by kernel_rfl) (fun _ _ _ h => h) (fun o ho w hS => ?y3_2_31) (by assumption) ?r3_2_31
    case y3_2_31 => (try dsimp only at hS); unfold execOp; simp only [ho]; go_simp; try with_reducible rfl
    try simp only [Act.put, List.setIfInBounds_toArray, List.set_cons_zero, List.set_cons_succ]
    refine held_run 32 (some 39) (.load 3 (.tmp 38)) ?v3_2_32 (by rfl) (by kernel_rfl) (by kernel_rfl) (by kernel_rfl) (fun _ _ _ h => h) (fun o ho w hS => ?y3_2_32) (by assumption) ?r3_2_32
    case y3_2_32 => (try dsimp only at hS); unfold execOp; simp only [ho]; go_simp; try with_reducible rfl
    try simp only [Act.put, List.setIfInBounds_toArray, List.set_cons_zero, List.set_cons_succ]
    refine held_run 34 (some 41) (.move (.tmp 0)) ?v3_2_34 (by rfl) (by kernel_rfl) (by kernel_rfl) (by kernel_rfl) (fun _ _ _ h => h) (fun o ho w hS => ?y3_2_34) (by assumption) ?r3_2_34
    case y3_2_34 => (try dsimp only at hS); unfold execOp; simp only [ho]; go_simp; try with_reducible rfl
    try simp only [Act.put, List.setIfInBounds_toArray, List.set_cons_zero, List.set_cons_succ]
    refine held_run 35 (some 42) (.fieldAddr 37 (.tmp 3) 3) ?v3_2_35 (by rfl) (by kernel_rfl) (by kernel_rfl) (by kernel_rfl) (fun _ _ _ h => h) (fun o ho w hS => ?y3_2_35) (by assumption) ?r3_2_35
    case y3_2_35 => (try dsimp only at hS); unfold execOp; simp only [ho]; go_simp; try with_reducible rfl
    try simp only [Act.put, List.setIfInBounds_toArray, List.set_cons_zero, List.set_cons_succ]
    refine held_run 36 (some 43) (.load 3 (.tmp 42)) ?v3_2_36 (by rfl) (by kernel_rfl) (by kernel_rfl) (by kernel_rfl) (fun _ _ _ h => h) (fun o ho w hS => ?y3_2_36) (by assumption) ?r3_2_36
    case y3_2_36 => (try dsimp only at hS); unfold execOp; simp only [ho]; go_simp; try with_reducible rfl
    try simp only [Act.put, List.setIfInBounds_toArray, List.set_cons_zero, List.set_cons_succ]
    refine held_call 33 (some 40) 21 [(.tmp 37), (.tmp 39)] #[22, 3] #[.slice lA ln lc, .int .i64 pt] (by rfl) (by rfl) (by kernel_rfl) Try.func21 (by rfl) (by rfl) ?_
    refine (HC5.out _ HR7.out).mono ?_
    rintro e w8 ⟨rfl, hb8⟩
    have HR8 := Lib.hid (HR7.out.now hb8)
    have HP8 := Lib.hid (HP7.out.below hb8 HP7.out.lt)
    have HB8 := Lib.hid (HB7.out.trans (hb8.mono HB7.out.size))
    have hH8 : (fun W => Buls W W.heap.size lA ln l ∧ Blk W w0.heap.size 37 #[.int .i64 pz, .int .i64 pl, .int .i64 ph, .int .i64 pt] ∧ Below w0.heap.size w0 W ∧ W.cell? ⟨w0.heap.size, 0, none⟩ = some (.int .i64 pz) ∧ W.cell? ⟨w0.heap.size, 1, none⟩ = some (.int .i64 pl) ∧ W.cell? ⟨w0.heap.size, 2, none⟩ = some (.int .i64 ph) ∧ W.cell? ⟨w0.heap.size, 3, none⟩ = some (.int .i64 pt)) w8 := ⟨HR8.out, HP8.out, HB8.out, HP8.out.cell 0, HP8.out.cell 1, HP8.out.cell 2, HP8.out.cell 3⟩
    refine ⟨_, rfl, hH8, ?_⟩
    clear hb8
    try simp only [Act.put, List.setIfInBounds_toArray, List.set_cons_zero, List.set_cons_succ]
    refine held_call 37 (some 44) 22 [(.tmp 41), (.tmp 43)] #[22, 3] #[.slice lA ln lc, .int .i64 pt] (by rfl) (by rfl) (by kernel_rfl) Try.func22 (by rfl) (by rfl) ?_
    refine (HC6.out _ HR8.out).mono ?_
    rintro e w9 ⟨rfl, hb9⟩
    have HR9 := Lib.hid (HR8.out.now hb9)
    have HP9 := Lib.hid (HP8.out.below hb9 HP8.out.lt)
    have HB9 := Lib.hid (HB8.out.trans (hb9.mono HB8.out.size))
    have hH9 : (fun W => Buls W W.heap.size lA ln l ∧ Blk W w0.heap.size 37 #[.int .i64 pz, .int .i64 pl, .int .i64 ph, .int .i64 pt] ∧ Below w0.heap.size w0 W ∧ W.cell? ⟨w0.heap.size, 0, none⟩ = some (.int .i64 pz) ∧ W.cell? ⟨w0.heap.size, 1, none⟩ = some (.int .i64 pl) ∧ W.cell? ⟨w0.heap.size, 2, none⟩ = some (.int .i64 ph) ∧ W.cell? ⟨w0.heap.size, 3, none⟩ = some (.int .i64 pt)) w9 := ⟨HR9.out, HP9.out, HB9.out, HP9.out.cell 0, HP9.out.cell 1, HP9.out.cell 2, HP9.out.cell 3⟩
    refine ⟨_, rfl, hH9, ?_⟩
    clear hb9
    try simp only [Act.put, List.setIfInBounds_toArray, List.set_cons_zero, List.set_cons_succ]
    refine held_run 38 (some 45) (.binOp .eql 3 (.tmp 40) (.tmp 44) 3) ?v3_2_38 (by rfl) (by kernel_rfl) (by kernel_rfl) (by kernel_rfl) (fun _ _ _ h => h) (fun o ho w hS => ?y3_2_38) (by assumption) ?r3_2_38
    case y3_2_38 => (try dsimp only at hS); unfold execOp; simp only [ho]; go_simp; try with_reducible rfl
    try simp only [Act.put, List.setIfInBounds_toArray, List.set_cons_zero, List.set_cons_succ]
    refine held_run 39 (some 46) (.pick (.tmp 36) (.tmp 45) (.const (Value.bool false))) ?v3_2_39 (by rfl) (by kernel_rfl) (by kernel_rfl) (by kernel_rfl) (fun _ _ _ h => h) (fun o ho w hS => ?y3_2_39) (by assumption) ?r3_2_39
    case y3_2_39 => (try dsimp only at hS); unfold execOp; simp only [ho]; go_simp; try with_reducible rfl
    try simp only [Act.put, List.setIfInBounds_toArray, List.set_cons_zero, List.set_cons_succ]
    refine held_run 40 (some 47) (.pick (.tmp 10) (.const (Value.bool true)) (.tmp 46)) ?v3_2_40 (by rfl) (by kernel_rfl) (by kernel_rfl) (by kernel_rfl) (fun _ _ _ h => h) (fun o ho w hS => ?y3_2_40) (by assumption) ?r3_2_40
    case y3_2_40 => (try dsimp only at hS); unfold execOp; simp only [ho]; go_simp; try with_reducible rfl
    try simp only [Act.put, List.setIfInBounds_toArray, List.set_cons_zero, List.set_cons_succ]
    refine held_run 41 (some 4) (.assign (.tmp 47)) ?v3_2_41 (by rfl) (by kernel_rfl) (by kernel_rfl) (by kernel_rfl) (fun _ _ _ h => h) (fun o ho w hS => ?y3_2_41) (by assumption) ?r3_2_41
    case y3_2_41 => (try dsimp only at hS); unfold execOp; simp only [ho]; go_simp; try with_reducible rfl
    try simp only [Act.put, List.setIfInBounds_toArray, List.set_cons_zero, List.set_cons_succ]
    refine wpAnyH_done (by kernel_rfl) ?_ _
    go_wp2_with fail
    go_ret
    exact ⟨rfl, HB9.out⟩


theorem own_bulletinLevels : ownKnob Try.prog.godebug = none := by kernel_rfl
theorem laidOut_bulletinLevels : laidOutB Try.prog = true := by kernel_rfl
set_option maxRecDepth 100000 in
theorem bulletinLevels_lifted (os : Os) (started : os.Started) (H : Type) (enc : TypeId × Value → H) :
    ReturnsInHanded {} Try.checked os 5 .any (Rows.bulletinLevelsSpec.pre6 enc Try.prog Try.f5 Rows.bulletinLevelsRow.domain false) (Rows.bulletinLevelsSpec.post enc Try.prog Try.f5 false true false false) := by
  refine returnsInHanded_of_change (C := Try.checked) own_bulletinLevels started (by kernel_rfl) Try.func5
    (ChangeSpec.witness6 (enc := enc) (C := Try.checked) false ⟨#[], #[.slice none 0 0, .agg #[.int .i64 0, .int .i64 0, .int .i64 0, .int .i64 0]], []⟩ 8 (by kernel_rfl) (by kernel_rfl) (by kernel_rfl) (by kernel_rfl)) ?_
  intro W base args ds gs before hval0 hW hcnd _
  have hval : ∀ (j : Nat) t v, Try.f5.params[j]? = some t → args[j]? = some v → Value.okWide Try.prog W .any base t v := hval0
  have hW' := hW
  obtain ⟨p, q, hA0, hV, rfl, hfz, hnd⟩ := hW
  have hA : DataW.TrodAll enc Try.prog W 0 (fun _ => true) true Try.f5.params.toList args.toList ds p := hA0
  rw [Try.params5] at hA hval
  obtain ⟨v0, vs0, d0, ds0, p0, q0, hargs, rfl, rfl, h0, r0⟩ := trodAll_cons hA
  obtain ⟨v1, vs1, d1, ds1, p1, q1, rfl, rfl, rfl, h1, r1⟩ := trodAll_cons r0
  obtain ⟨rfl, rfl, rfl⟩ := trodAll_nil r1
  obtain rfl : args = #[v0, v1] := by cases args; simp_all
  obtain ⟨rfl, rfl⟩ := trodVars_none hV
  obtain ⟨lA, ln, lc, l, rfl, l1, l2, lr, lw⟩ := open_buls (hval 0 22 v0 rfl rfl) h0
  obtain ⟨ol, rfl, oll, of⟩ := open_agg Try.underlying37 (by kernel_rfl) (by kernel_rfl) (hval 1 37 v1 rfl rfl) h1
  obtain ⟨u0, u1, u2, u3, rfl⟩ := list_len4 ol oll
  obtain ⟨pz, rfl, wpz⟩ := field_int Try.underlying3 (of 0 _ _ rfl rfl)
  obtain ⟨pl, rfl, wpl⟩ := field_int Try.underlying3 (of 1 _ _ rfl rfl)
  obtain ⟨ph, rfl, wph⟩ := field_int Try.underlying3 (of 2 _ _ rfl rfl)
  obtain ⟨pt, rfl, wpt⟩ := field_int Try.underlying3 (of 3 _ _ rfl rfl)
  refine (bulletinLevels_any W lA ln lc l l1 l2 lr lw pz pl ph pt wpz wpl wph wpt).mono fun e W' ⟨he, hb⟩ => ?_
  subst he
  exact ⟨_, rfl, law_post laidOut_bulletinLevels (by kernel_rfl) rfl rfl Try.underlying4 hW' rfl hb⟩

theorem bulletinLevels_holds : Rows.BulletinLevelsSaid :=
  OpenClaim.holds_of_wide 5 Try.f5 rfl rfl rfl rfl rfl rfl rfl ⟨rfl, rfl, rfl, rfl, rfl⟩ rfl rfl rfl rfl rfl (by kernel_rfl) Try.func5 (by kernel_rfl)
    (of_decide_eq_true (by kernel_rfl)) (by unfold Func.isWrapper; rw [if_neg (by decide +kernel)]; exact ⟨rfl, rfl⟩)
    (fun os started H enc _ => bulletinLevels_lifted os started H enc)
#print axioms bulletinLevels_holds
end Go.Proofs.Ytmbdlnimegdigaa
